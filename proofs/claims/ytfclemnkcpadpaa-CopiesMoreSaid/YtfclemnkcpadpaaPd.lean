/- copies, plain: CopiesMore -/
import Derived.Test.YtfclemnkcpadpaaKq
namespace Go.Proofs.Ytfclemnkcpadpaa
set_option linter.unusedVariables false
set_option linter.unusedSimpArgs false
set_option linter.unnecessarySimpa false
open Go.RowKit Go.Flow

def withMore (p : Post) (m : Route) : Post := { p with routes := p.routes ++ [m] }
theorem more_hr (p : Post) (m : Route) (i : Nat) {k : Nat} (hk : k < p.routes.length) : hrF (withMore p m) i k = hrF p i k := by
  unfold hrF withMore
  rw [List.getElem?_append_left hk]
theorem more_lossy (p : Post) (m : Route) {k : Nat} (hk : k < p.routes.length) : lossyK (withMore p m) k = lossyK p k := by
  unfold lossyK withMore
  rw [List.getElem?_append_left hk]
theorem more_latN (p : Post) (m : Route) (i : Nat) : ∀ k, k ≤ p.routes.length → latN (withMore p m) i k = latN p i k
  | 0, _ => rfl
  | k + 1, h => by rw [latN_succ, latN_succ, more_latN p m i k (by omega), more_hr p m i (by omega), more_lossy p m (by omega)]
theorem more_earN (p : Post) (m : Route) (i : Nat) : ∀ k, k ≤ p.routes.length → earN (withMore p m) i k = earN p i k
  | 0, _ => rfl
  | k + 1, h => by rw [earN_succ, earN_succ, more_earN p m i k (by omega), more_hr p m i (by omega)]
theorem more_latest (p : Post) (m : Route) (i : Nat) : latestF (withMore p m) i ≤ latestF p i := by
  unfold latestF
  rw [show (withMore p m).routes.length = p.routes.length + 1 by simp [withMore], latN_succ, more_latN p m i _ (Nat.le_refl _)]
  split <;> omega
theorem more_earliest (p : Post) (m : Route) (i : Nat) : earliestF (withMore p m) i ≤ earliestF p i := by
  unfold earliestF
  rw [show (withMore p m).routes.length = p.routes.length + 1 by simp [withMore], earN_succ, more_earN p m i _ (Nat.le_refl _)]
  omega
theorem finN_mono (p : Post) {F G : Nat → Int} (h : ∀ i, F i ≤ G i) : ∀ k, finN p F k ≤ finN p G k
  | 0 => by simp [finN]
  | k + 1 => by rw [finN_succ, finN_succ]; have := finN_mono p h k; have := h k; omega
theorem more_spans {p : Post} {m : Route} (h0 : postErr p = 0) (h1 : postErr (withMore p m) = 0) : (spansOut (withMore p m)).length = (spansOut p).length ∧ ∀ k (h : k < (spansOut p).length) (h' : k < (spansOut (withMore p m)).length), (spansOut (withMore p m))[k].1 ≤ (spansOut p)[k].1 ∧ (spansOut (withMore p m))[k].2 ≤ (spansOut p)[k].2 := by
  have e0 : spansOut p = spansF p p.sends.length := by unfold spansOut; rw [if_pos h0]
  have e1 : spansOut (withMore p m) = spansF (withMore p m) p.sends.length := by unfold spansOut; rw [if_pos h1]; rfl
  rw [e0, e1]
  refine ⟨by rw [spansF_len, spansF_len], fun k h h' => ?_⟩
  simp only [spansF, List.getElem_map, List.getElem_range, spanAt]
  exact ⟨finN_mono p (more_earliest p m) _, finN_mono p (more_latest p m) _⟩
theorem more_sure {p : Post} {m : Route} (h0 : postErr p = 0) (h1 : postErr (withMore p m) = 0) : ∀ x ∈ sureOut p, x ∈ sureOut (withMore p m) := by
  have e0 : sureOut p = sureF p p.sends.length := by unfold sureOut; rw [if_pos h0]
  have e1 : sureOut (withMore p m) = sureF (withMore p m) p.sends.length := by unfold sureOut; rw [if_pos h1]; rfl
  rw [e0, e1]
  intro x hx
  simp only [sureF, List.mem_map, List.mem_filter, List.mem_range] at hx ⊢
  obtain ⟨n, ⟨h, hs⟩, rfl⟩ := hx
  refine ⟨n, ⟨h, ?_⟩, rfl⟩
  unfold sureB at hs ⊢
  simp only [decide_eq_true_eq] at hs ⊢
  have := more_latest p m n
  have e : (withMore p m).sends.getD n 0 + (withMore p m).pat = p.sends.getD n 0 + p.pat := rfl
  omega
end Go.Proofs.Ytfclemnkcpadpaa
