/- copies, plain: truths that fit; more patience -/
import Derived.Test.YtfclemnkcpadpaaSi
import Derived.Test.YtfclemnkcpadpaaPc
namespace Go.Proofs.Ytfclemnkcpadpaa
set_option linter.unusedVariables false
set_option linter.unusedSimpArgs false
set_option linter.unnecessarySimpa false
open Go.RowKit Go.Flow

theorem inB_all : ∀ (ts : List Int) (ls : List Leg), (∀ (j : Nat) (h1 : j < ts.length) (h2 : j < ls.length), inR ts[j] (ls[j].lo, ls[j].hi) = true) → inB ts ls = true
  | [], _, _ => by simp [inB]
  | _ :: _, [], _ => by simp [inB]
  | t :: ts, l :: ls, h => by
    rw [inB, show inR t (l.lo, l.hi) = true from h 0 (by simp) (by simp), Bool.true_and]
    exact inB_all ts ls (fun j h1 h2 => h (j + 1) (by simpa using h1) (by simpa using h2))
theorem midE_fit (f : Bool → Int) : ∀ (l : List (List Int)) (rs : List Route), l.length = rs.length → (∀ (j : Nat) (h1 : j < l.length) (h2 : j < rs.length), rowBad rs[j] l[j] = false ∧ inB l[j] rs[j].legs = true) → midE true l rs f = f true
  | [], [], _, _ => by simp [midE]
  | [], _ :: _, h, _ => by simp at h
  | _ :: _, [], h, _ => by simp at h
  | ts :: l, r :: rs, h, hf => by
    obtain ⟨h1, h2⟩ := hf 0 (by simp) (by simp)
    simp only [List.getElem_cons_zero] at h1 h2
    rw [midE, h1, h2]
    simp only [Bool.and_true]
    exact midE_fit f l rs (by simpa using h) (fun j h1 h2 => hf (j + 1) (by simpa using h1) (by simpa using h2))
theorem outE_fit (rs : List Route) : ∀ (t : List (List (List Int))), (∀ l ∈ t, l.length = rs.length ∧ ∀ (j : Nat) (h1 : j < l.length) (h2 : j < rs.length), rowBad rs[j] l[j] = false ∧ inB l[j] rs[j].legs = true) → outE rs true t = 0
  | [], _ => by simp [outE]
  | l :: t, h => by
    obtain ⟨h1, h2⟩ := h l (by simp)
    rw [outE, if_neg (by simpa using h1), midE_fit _ l rs h1 h2]
    exact outE_fit rs t (fun x hx => h x (by simp [hx]))
section
variable {p : Post} (h0 : postErr p = 0) (ws : List Int)
include h0
theorem pkR_fit {i j : Nat} (hj : j < p.routes.length) : rowBad p.routes[j] (pkR ws i p.routes j) = false ∧ inB (pkR ws i p.routes j) p.routes[j].legs = true := by
  obtain ⟨l3, lok, _⟩ := post_legs h0 p.routes[j] (List.getElem_mem hj)
  rw [pkR_at ws i hj]
  split
  · rename_i h
    exact ⟨by simp [rowBad, h.1], by simp [inB]⟩
  · refine ⟨by simp [rowBad], inB_all _ _ (fun m h1 h2 => ?_)⟩
    obtain ⟨a1, a2, a3, _⟩ := legOk_iff.1 (List.all_eq_true.1 lok _ (List.getElem_mem h2))
    simp only [List.getElem_map, List.getElem_range, pk1]
    rw [show p.routes[j].legs.getD m ⟨0, 0, []⟩ = p.routes[j].legs[m] by simp [h2]]
    have := pickedF_in a2 (wordN ws (4 * i + j + m + 1) / 3)
    exact inR_iff.2 this
theorem pkT_shape : shapeErr p (pkT p ws) = 0 := by
  unfold shapeErr
  rw [if_neg (by simp [pkT])]
  refine outE_fit _ _ (fun l hl => ?_)
  obtain ⟨i, _, rfl⟩ := List.mem_map.1 hl
  refine ⟨by simp [pkRow], fun j h1 h2 => ?_⟩
  have e : (pkRow p ws i)[j] = pkR ws i p.routes j := by simp [pkRow]
  rw [e]
  exact pkR_fit h0 ws h2
theorem pkT_small : TruthSmall (pkT p ws) := by
  have l1 := (postErr_ok h0).1
  have l2 := (postErr_ok h0).2.1
  refine ⟨by simp [pkT]; omega, fun l hl => ?_, fun l hl ts hts => ?_⟩
  · obtain ⟨i, _, rfl⟩ := List.mem_map.1 hl
    simp [pkRow]; omega
  · obtain ⟨i, _, rfl⟩ := List.mem_map.1 hl
    obtain ⟨j, hj, rfl⟩ := List.mem_map.1 hts
    have hj' := List.mem_range.1 hj
    have l3 := (post_legs h0 p.routes[j] (List.getElem_mem hj')).1
    rw [pkR_at ws i hj']
    split
    · simp
    · simp; omega
end
theorem pat_playGo {p : Post} {x : Int} (hx : p.pat ≤ x) : ∀ (t : List (List (List Int))) (i : Nat) (b b' : Int), b ≤ b' → ∀ (k : Nat) (h : k < (playGo p i b t).length) (h' : k < (playGo (withPat p x) i b' t).length), ((playGo (withPat p x) i b' t)[k].skip = true → (playGo p i b t)[k].skip = true) ∧ (playGo p i b t)[k].at_ ≤ (playGo (withPat p x) i b' t)[k].at_
  | [], i, b, b', _, k, h, _ => by simp [playGo] at h
  | l :: t, i, b, b', hb, 0, h, h' => by
    simp only [playGo, List.getElem_cons_zero, recvF, decide_eq_true_eq]
    have e1 : (withPat p x).sends = p.sends := rfl
    have e2 : (withPat p x).routes = p.routes := rfl
    have e3 : (withPat p x).pat = x := rfl
    rw [e1, e2, e3]
    exact ⟨fun _ => by omega, by omega⟩
  | l :: t, i, b, b', hb, k + 1, h, h' => by
    simp only [playGo, List.getElem_cons_succ]
    refine pat_playGo hx t (i + 1) _ _ ?_ k _ _
    simp only [recvF]
    have e1 : (withPat p x).sends = p.sends := rfl
    have e2 : (withPat p x).routes = p.routes := rfl
    have e3 : (withPat p x).pat = x := rfl
    rw [e1, e2, e3]
    omega
theorem pat_fin {p : Post} {x : Int} (hx : p.pat ≤ x) (F : Nat → Int) : ∀ k, finN p F k ≤ finN (withPat p x) F k
  | 0 => by simp [finN]
  | k + 1 => by
    have ih := pat_fin hx F k
    rw [finN_succ, finN_succ]
    have e1 : (withPat p x).sends = p.sends := rfl
    have e3 : (withPat p x).pat = x := rfl
    rw [e1, e3]
    omega
theorem pat_span {p : Post} {x : Int} (hx : p.pat ≤ x) (k : Nat) : (spanAt p k).1 ≤ (spanAt (withPat p x) k).1 ∧ (spanAt p k).2 ≤ (spanAt (withPat p x) k).2 :=
  ⟨pat_fin hx (earliestF p) (k + 1), pat_fin hx (latestF p) (k + 1)⟩
end Go.Proofs.Ytfclemnkcpadpaa
