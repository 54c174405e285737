/- TopWords: an account with other words of one dispatch, plainly; what Texts' result tells -/
import Derived.Test.YtaphfibfjepceaaHd
import Derived.Test.YtaphfibfjepceaaHe
import Derived.Test.YtaphfibfjepceaaBy
namespace Go.Proofs.Ytaphfibfjepceaa
set_option linter.unusedVariables false
set_option linter.unusedSimpArgs false
set_option linter.unnecessarySimpa false
open Go.RowKit Go.Flow Go.Shelf
def wordsD (d : Dis) (lo hi : Int) : Dis := ⟨d.payer, lo, hi, d.passed⟩
def wordsAt (ds : List Dis) (i : Nat) (lo hi : Int) : List Dis := ds.set i (wordsD (ds.getD i ⟨0, 0, 0, []⟩) lo hi)
theorem wordsAt_len (ds : List Dis) (i : Nat) (lo hi : Int) : (wordsAt ds i lo hi).length = ds.length := by simp [wordsAt]
theorem wordsAt_self {ds : List Dis} {i : Nat} (hi' : i < ds.length) (lo hi : Int) (h : i < (wordsAt ds i lo hi).length) : (wordsAt ds i lo hi)[i] = wordsD ds[i] lo hi := by
  simp [wordsAt, List.getD_eq_getElem?_getD, hi']
theorem wordsAt_mem {ds : List Dis} {i : Nat} (hi' : i < ds.length) {lo hi : Int} {d : Dis} (h : d ∈ wordsAt ds i lo hi) : d ∈ ds ∨ d = wordsD ds[i] lo hi := by
  unfold wordsAt at h
  rcases List.mem_or_eq_of_mem_set h with h | h
  · exact .inl h
  · right; rw [h, List.getD_eq_getElem?_getD, List.getElem?_eq_getElem hi']; rfl
theorem words_acc {st rate keeps : Int} {ds : List Dis} (h0 : accErr ⟨st, rate, keeps, ds⟩ = 0) {i : Nat} (hi' : i < ds.length) {lo hi : Int} (h1 : 1 ≤ lo) (h2 : lo ≤ hi) (h3 : hi ≤ 200) : accErr ⟨st, rate, keeps, wordsAt ds i lo hi⟩ = 0 := by
  have A := accErr_ok h0
  have a1 := A.st
  have a2 := A.rate
  have a3 := A.keeps
  have a4 := A.len
  simp only at a1 a2 a3 a4
  refine accErr_zero (by simp only; omega) (by simp only [wordsAt_len]; omega) (fun d hd => ?_) (by simp only; omega) (inR_iff.2 (by simp only; omega)) (inR_iff.2 (by simp only; omega)) (fun d hd => ?_)
  · rcases wordsAt_mem hi' hd with h | h
    · exact A.few d h
    · rw [h]; exact A.few ds[i] (List.getElem_mem hi')
  · rcases wordsAt_mem hi' hd with h | h
    · exact A.dis d h
    · have := A.dis _ (List.getElem_mem hi')
      rw [h]
      unfold disB at this ⊢
      simp only [Bool.and_eq_true, decide_eq_true_eq, wordsD] at this ⊢
      simp [this.1.1.1.1.1, this.1.1.1.1.2, h1, h2, h3, this.2]
theorem words_small {st rate keeps : Int} {ds : List Dis} (h : AccSmall ⟨st, rate, keeps, ds⟩) {i : Nat} (hi' : i < ds.length) (lo hi : Int) : AccSmall ⟨st, rate, keeps, wordsAt ds i lo hi⟩ :=
  ⟨by have := h.d; simp only [wordsAt_len]; exact this, fun d hd => by
    rcases wordsAt_mem hi' hd with e | e
    · exact h.p d e
    · rw [e]; exact h.p ds[i] (List.getElem_mem hi')⟩
theorem truth_set {ds : List Dis} {T : List Int} (hT : isTruth ds T = true) {i : Nat} (hi' : i < ds.length) {x : Int} (hx : ds[i].lo ≤ x ∧ x ≤ ds[i].hi) : isTruth ds (T.set i x) = true := by
  rw [isTruth_iff] at hT ⊢
  refine ⟨by rw [List.length_set]; exact hT.1, fun k hk => ?_⟩
  by_cases h : k = i
  · subst h
    rw [List.getD_eq_getElem?_getD, List.getElem?_set_self (by rw [hT.1]; exact hk)]
    exact hx
  · rw [List.getD_eq_getElem?_getD, List.getElem?_set_ne (Ne.symm h), ← List.getD_eq_getElem?_getD]
    exact hT.2 k hk
/-- The cells of the dispatches, with other words of one. -/
theorem DisW.words {w : World} {vs : List Value} {ds : List Dis} (h : DisW w vs ds) {i : Nat} (hi' : i < ds.length) (lo hi : Int) : DisW w ((vs.set (i * 4 + 1) (.int .i64 lo)).set (i * 4 + 2) (.int .i64 hi)) (wordsAt ds i lo hi) := by
  refine ⟨by rw [List.length_set, List.length_set, wordsAt_len]; exact h.1, fun k hk => ?_⟩
  have hk' : k < ds.length := by rw [wordsAt_len] at hk; exact hk
  obtain ⟨al, c, h1, h2, h3, h4, h5⟩ := h.2 k hk'
  have hl := h.1
  by_cases e : k = i
  · subst e
    rw [wordsAt_self hk' lo hi hk]
    refine ⟨al, c, ?_, ?_, ?_, ?_, h5⟩
    · rw [List.getElem?_set_ne (by omega), List.getElem?_set_ne (by omega)]; exact h1
    · rw [List.getElem?_set_ne (by omega), List.getElem?_set_self (by omega)]; rfl
    · rw [List.getElem?_set_self (by rw [List.length_set]; omega)]; rfl
    · rw [List.getElem?_set_ne (by omega), List.getElem?_set_ne (by omega)]; exact h4
  · have eg : (wordsAt ds i lo hi)[k] = ds[k] := by simp [wordsAt, Ne.symm e]
    rw [eg]
    refine ⟨al, c, ?_, ?_, ?_, ?_, h5⟩
    · rw [List.getElem?_set_ne (by omega), List.getElem?_set_ne (by omega)]; exact h1
    · rw [List.getElem?_set_ne (by omega), List.getElem?_set_ne (by omega)]; exact h2
    · rw [List.getElem?_set_ne (by omega), List.getElem?_set_ne (by omega)]; exact h3
    · rw [List.getElem?_set_ne (by omega), List.getElem?_set_ne (by omega)]; exact h4
theorem snoc_ind {α : Type} {P : List α → Prop} (h0 : P []) (hs : ∀ l x, P l → P (l ++ [x])) : ∀ l, P l := fun l => by
  have : ∀ n (l : List α), l.length = n → P l := by
    intro n
    induction n with
    | zero => intro l hl; rw [List.eq_nil_of_length_eq_zero hl]; exact h0
    | succ n ih =>
      intro l hl
      rcases List.eq_nil_or_concat l with rfl | ⟨l', x, rfl⟩
      · cases hl
      · rw [List.concat_eq_append] at *
        exact hs l' x (ih l' (by simpa using hl))
  exact this _ l rfl
/-- The least and the greatest length, as the loop finds them. -/
def lowN (ls : List Nat) : Nat := ls.foldl (fun m n => min m (max 1 n)) 6
def highN (ls : List Nat) : Nat := ls.foldl max 0
theorem lowN_snoc (ls : List Nat) (n : Nat) : lowN (ls ++ [n]) = min (lowN ls) (max 1 n) := by simp [lowN]
theorem highN_snoc (ls : List Nat) (n : Nat) : highN (ls ++ [n]) = max (highN ls) n := by simp [highN]
theorem lowN_bd (ls : List Nat) : 1 ≤ lowN ls ∧ lowN ls ≤ 6 :=
  snoc_ind (P := fun ls => 1 ≤ lowN ls ∧ lowN ls ≤ 6) (by simp [lowN]) (fun l n ih => by rw [lowN_snoc]; omega) ls
theorem lowN_le {ls : List Nat} {n : Nat} (h1 : 1 ≤ n) : n ∈ ls → lowN ls ≤ n :=
  snoc_ind (P := fun ls => n ∈ ls → lowN ls ≤ n) (fun h => by cases h) (fun l m ih h => by
    rw [lowN_snoc]
    rcases List.mem_append.1 h with h | h
    · have := ih h; omega
    · obtain rfl : n = m := by simpa using h
      omega) ls
theorem highN_ge {ls : List Nat} {n : Nat} : n ∈ ls → n ≤ highN ls :=
  snoc_ind (P := fun ls => n ∈ ls → n ≤ highN ls) (fun h => by cases h) (fun l m ih h => by
    rw [highN_snoc]
    rcases List.mem_append.1 h with h | h
    · have := ih h; omega
    · obtain rfl : n = m := by simpa using h
      omega) ls
theorem highN_le {ls : List Nat} {b : Nat} : (∀ n ∈ ls, n ≤ b) → highN ls ≤ b :=
  snoc_ind (P := fun ls => (∀ n ∈ ls, n ≤ b) → highN ls ≤ b) (fun _ => by simp [highN]) (fun l m ih h => by
    rw [highN_snoc]
    have := ih fun n hn => h n (List.mem_append_left _ hn)
    have := h m (List.mem_append_right _ (by simp))
    omega) ls
end Go.Proofs.Ytaphfibfjepceaa
