/- pay: plain facts of a truth: all balances together are 0, and within their bounds -/
import Derived.Test.YtaphfibfjepceaaBw
import Derived.Test.YtaphfibfjepceaaBm
namespace Go.Proofs.Ytaphfibfjepceaa
set_option linter.unusedVariables false
set_option linter.unusedSimpArgs false
set_option linter.unnecessarySimpa false
open Go.RowKit Go.Flow Go.Shelf

def psum (f : Nat → Int) : Nat → Int
  | 0 => 0
  | m + 1 => psum f m + f m
theorem psum_eq (f : Nat → Int) : ∀ m, ((List.range m).map f).sum = psum f m
  | 0 => by simp [psum]
  | m + 1 => by rw [List.range_succ, List.map_append, List.sum_append, psum_eq f m]; simp [psum]
theorem psum_add (f g : Nat → Int) : ∀ m, psum (fun s => f s + g s) m = psum f m + psum g m
  | 0 => by simp [psum]
  | m + 1 => by rw [psum, psum, psum, psum_add f g m]; omega
theorem psum_sub (f g : Nat → Int) : ∀ m, psum (fun s => f s - g s) m = psum f m - psum g m
  | 0 => by simp [psum]
  | m + 1 => by rw [psum, psum, psum, psum_sub f g m]; omega
theorem psum_zero : ∀ m, psum (fun _ => 0) m = 0
  | 0 => rfl
  | m + 1 => by rw [psum, psum_zero m]; rfl
theorem psum_hit (p : Nat) (v : Int) : ∀ m, psum (fun s => if (p : Int) = (s : Int) then v else 0) m = if p < m then v else 0
  | 0 => by simp [psum]
  | m + 1 => by
    rw [psum, psum_hit p v m]
    by_cases h : p < m
    · rw [if_pos h, if_neg (by omega), if_pos (by omega)]; omega
    · rw [if_neg h]
      by_cases e : p = m
      · subst e; rw [if_pos rfl, if_pos (by omega)]; omega
      · rw [if_neg (by omega), if_neg (by omega)]; omega
theorem psum_congr {f g : Nat → Int} : ∀ m, (∀ s, s < m → f s = g s) → psum f m = psum g m
  | 0, _ => rfl
  | m + 1, h => by rw [psum, psum, psum_congr m (fun s hs => h s (by omega)), h m (by omega)]
theorem balL_len (rate keeps : Int) (ds : List Dis) (t : List Int) (m : Nat) : (balL rate keeps ds t m).length = m := by simp [balL]
theorem balL_at (rate keeps : Int) (ds : List Dis) (t : List Int) {m s : Nat} (h : s < m) : (balL rate keeps ds t m).getD s 0 = balN rate keeps ds t (s : Int) t.length := by simp [balL, h]
theorem balN_le {rate keeps : Int} {ds : List Dis} {t u : List Int} {s : Int} : ∀ k, (∀ j, j < k → chF rate keeps (ds.getD j ⟨0, 0, 0, []⟩) (t.getD j 0) s ≤ chF rate keeps (ds.getD j ⟨0, 0, 0, []⟩) (u.getD j 0) s) → balN rate keeps ds t s k ≤ balN rate keeps ds u s k
  | 0, _ => by simp [balN]
  | k + 1, h => by
    have ih := balN_le k (fun j hj => h j (by omega))
    have := h k (by omega)
    rw [balN, balN]; omega
theorem reachL_get (rate keeps : Int) (X : Int → Int → Bool → Int) (s : Int) (ds : List Dis) {k : Nat} (h : k < ds.length) : (reachL rate keeps X s ds ds.length).getD k 0 = reachD rate keeps X s ds[k] := by simp [reachL, h]
theorem isTruth_iff {ds : List Dis} {t : List Int} : isTruth ds t = true ↔ t.length = ds.length ∧ ∀ k (h : k < ds.length), ds[k].lo ≤ t.getD k 0 ∧ t.getD k 0 ≤ ds[k].hi := by
  unfold isTruth wordsB
  simp only [Bool.and_eq_true, decide_eq_true_eq, List.all_eq_true, List.mem_range, inR_iff]
  constructor
  · rintro ⟨h1, h2⟩
    refine ⟨h1, fun k hk => ?_⟩
    have := h2 k (by omega)
    rwa [show ds.getD k ⟨0, 0, 0, []⟩ = ds[k] by simp [hk]] at this
  · rintro ⟨h1, h2⟩
    refine ⟨h1, fun k hk => ?_⟩
    have hk2 : k < ds.length := by omega
    rw [show ds.getD k ⟨0, 0, 0, []⟩ = ds[k] by simp [hk2]]
    exact h2 k hk2
theorem pk_truth {ds : List Dis} (h : ∀ d ∈ ds, d.lo ≤ d.hi) (ws : List Int) : isTruth ds (pkL ds ws) = true :=
  isTruth_iff.2 ⟨pkL_len ds ws, fun k hk => by rw [pkL_at ds ws hk]; exact pickedF_in (h _ (List.getElem_mem hk)) _⟩
theorem reach_truth {rate keeps : Int} {ds : List Dis} (G : Good rate keeps ds) (s : Int) (high : Bool) : isTruth ds (reachL rate keeps (endX high) s ds ds.length) = true :=
  isTruth_iff.2 ⟨reachL_len _ _ _ _ _, fun k hk => by
    have hm := List.getElem_mem hk
    rw [reachL_get _ _ _ _ _ hk]
    exact (reach_at G.r.1 G.k ds[k] (G.p _ hm) (G.w _ hm).2.1 s high).2⟩
/-- Each balance is within its bounds. -/
theorem bal_in {rate keeps : Int} {ds : List Dis} (G : Good rate keeps ds) {t : List Int} (ht : isTruth ds t = true) (s : Int) : endB rate keeps ds (endX false) s ≤ balN rate keeps ds t s t.length ∧ balN rate keeps ds t s t.length ≤ endB rate keeps ds (endX true) s := by
  obtain ⟨h1, h2⟩ := isTruth_iff.1 ht
  rw [h1]
  have aux : ∀ j (hj : j < ds.length) (high : Bool), if high then chF rate keeps ds[j] (t.getD j 0) s ≤ chF rate keeps ds[j] (reachD rate keeps (endX high) s ds[j]) s else chF rate keeps ds[j] (reachD rate keeps (endX high) s ds[j]) s ≤ chF rate keeps ds[j] (t.getD j 0) s := by
    intro j hj high
    have hm := List.getElem_mem hj
    have h3 := h2 j hj
    have hB := end_beyond G.r.1 G.k ds[j] (G.p _ hm) (G.w _ hm).2.1 s high (t.getD j 0 - ds[j].lo).toNat (by omega)
    rw [(reach_at G.r.1 G.k ds[j] (G.p _ hm) (G.w _ hm).2.1 s high).1]
    rw [show ds[j].lo + (((t.getD j 0 - ds[j].lo).toNat : Nat) : Int) = t.getD j 0 by omega] at hB
    exact hB
  constructor
  · refine balN_le _ (fun j hj => ?_)
    rw [reachL_get _ _ _ _ _ hj, show ds.getD j ⟨0, 0, 0, []⟩ = ds[j] by simp [hj]]
    exact aux j hj false
  · refine balN_le _ (fun j hj => ?_)
    rw [reachL_get _ _ _ _ _ hj, show ds.getD j ⟨0, 0, 0, []⟩ = ds[j] by simp [hj]]
    exact aux j hj true
theorem bdL_len (rate keeps : Int) (ds : List Dis) (m : Nat) : (bdL rate keeps ds m).length = m := by simp [bdL]
theorem bdL_at (rate keeps : Int) (ds : List Dis) {m k : Nat} (h : k < (bdL rate keeps ds m).length) : (bdL rate keeps ds m)[k] = (endB rate keeps ds (endX false) (k : Int), endB rate keeps ds (endX true) (k : Int)) := by
  simp [bdL, endX]
end Go.Proofs.Ytaphfibfjepceaa
