/- pay, plain: the words that fit the claims for all shares -/
import Derived.Test.YtaphfibfjepceaaBy
namespace Go.Proofs.Ytaphfibfjepceaa
set_option linter.unusedVariables false
set_option linter.unusedSimpArgs false
set_option linter.unnecessarySimpa false
open Go.RowKit Go.Flow Go.Shelf

def fitN (F : Nat → List Int) (x : Int) : Nat → Nat
  | 0 => 0
  | k + 1 => fitN F x k + if x ∈ F k then 1 else 0
def fitL (F : Nat → List Int) (k j : Nat) : List Int := (List.range 201).map fun (m : Nat) => ((fitN F (m : Int) k + (if (m : Int) ∈ (F k).take j then 1 else 0) : Nat) : Int)
theorem fitL_len (F : Nat → List Int) (k j : Nat) : (fitL F k j).length = 201 := by simp [fitL]
theorem fitL_at (F : Nat → List Int) (k j : Nat) {m : Nat} (h : m < 201) : (fitL F k j).getD m 0 = ((fitN F (m : Int) k + (if (m : Int) ∈ (F k).take j then 1 else 0) : Nat) : Int) := by simp [fitL, h]
theorem fitL_zero (F : Nat → List Int) : fitL F 0 0 = List.replicate 201 0 := by
  rw [List.eq_replicate_iff]
  refine ⟨fitL_len F 0 0, fun b hb => ?_⟩
  unfold fitL at hb
  obtain ⟨m, _, rfl⟩ := List.mem_map.1 hb
  rw [List.take_zero, if_neg List.not_mem_nil]
  rfl
theorem fitL_next (F : Nat → List Int) (k : Nat) : fitL F k (F k).length = fitL F (k + 1) 0 := by
  unfold fitL
  rw [List.take_length]
  apply List.map_congr_left
  intro m _
  simp [fitN]
theorem fitN_bd (F : Nat → List Int) (x : Int) : ∀ k, fitN F x k ≤ k
  | 0 => Nat.le_refl _
  | k + 1 => by have := fitN_bd F x k; rw [fitN]; split <;> omega
theorem fitN_all (F : Nat → List Int) (x : Int) : ∀ k, fitN F x k = k ↔ ∀ i, i < k → x ∈ F i
  | 0 => by simp [fitN]
  | k + 1 => by
    have hb := fitN_bd F x k
    have ih := fitN_all F x k
    rw [fitN]
    constructor
    · intro h i hi
      by_cases hx : x ∈ F k
      · rw [if_pos hx] at h
        by_cases e : i = k
        · subst e; exact hx
        · exact ih.1 (by omega) i (by omega)
      · rw [if_neg hx] at h; omega
    · intro h
      rw [if_pos (h k (by omega)), ih.2 (fun i hi => h i (by omega))]
/-- A list that rises. -/
theorem rise_take {l : List Int} (hl : l.Pairwise (· < ·)) {j : Nat} (h : j < l.length) : l[j] ∉ l.take j := by
  intro hm
  obtain ⟨i, hi, e⟩ := List.getElem_of_mem hm
  rw [List.length_take] at hi
  rw [List.getElem_take] at e
  rw [List.pairwise_iff_getElem] at hl
  have := hl i j (by omega) h (by omega)
  omega
theorem fitL_step {F : Nat → List Int} {k j : Nat} (hl : (F k).Pairwise (· < ·)) (h : j < (F k).length) {y : Nat} (hy : (F k)[j] = (y : Int)) (hy2 : y < 201) {v : Int} (hv : (fitL F k j).getD y 0 = v) : (fitL F k j).set y (v + 1) = fitL F k (j + 1) := by
  have hn := rise_take hl h
  rw [hy] at hn
  have ht : (F k).take (j + 1) = (F k).take j ++ [(y : Int)] := by rw [List.take_succ_eq_append_getElem h, hy]
  rw [fitL_at F k j hy2, if_neg hn] at hv
  apply List.ext_getElem (by simp [fitL])
  intro i h1 h2
  have hi : i < 201 := by simpa [fitL] using h2
  rw [List.getElem_set]
  simp only [fitL, List.getElem_map, List.getElem_range, ht, List.mem_append, List.mem_singleton]
  by_cases e : y = i
  · subst e
    rw [if_pos rfl, ← hv, if_pos (.inr rfl)]
    push_cast; omega
  · rw [if_neg e]
    have e2 : ¬ ((i : Int) = (y : Int)) := by omega
    by_cases hm : (i : Int) ∈ (F k).take j
    · rw [if_pos hm, if_pos (.inl hm)]
    · rw [if_neg hm, if_neg (by rintro (h | h); exact hm h; exact e2 h)]
theorem fitsL_mem {rate keeps : Int} {d : Dis} {j : Nat} {p : Int} {m : Nat} {x : Int} : x ∈ fitsL rate keeps d j p m ↔ d.lo ≤ x ∧ x < d.lo + (m : Int) ∧ (sharesF rate keeps d.passed.length x).getD j 0 = p := by
  unfold fitsL
  simp only [List.mem_map, List.mem_filter, List.mem_range, fitB, beq_iff_eq]
  constructor
  · rintro ⟨k, ⟨h1, h2⟩, rfl⟩
    exact ⟨by omega, by omega, h2⟩
  · rintro ⟨h1, h2, h3⟩
    refine ⟨(x - d.lo).toNat, ⟨by omega, ?_⟩, by omega⟩
    rw [show d.lo + (((x - d.lo).toNat : Nat) : Int) = x by omega]
    exact h3
theorem fitsL_rise (rate keeps : Int) (d : Dis) (j : Nat) (p : Int) (m : Nat) : (fitsL rate keeps d j p m).Pairwise (· < ·) := by
  unfold fitsL
  rw [List.pairwise_map]
  refine List.Pairwise.filter _ ?_
  rw [List.pairwise_iff_getElem]
  intro i j' hi hj hij
  simp only [List.getElem_range]
  omega
/-- All shares are the same just for the same words, or without a rate. -/
theorem shares_same {rate keeps : Int} {k : Nat} (hk : 1 ≤ k ∧ k ≤ 5) (m n : Int) : (∀ i, i < k → (sharesF rate keeps k m).getD i 0 = (sharesF rate keeps k n).getD i 0) ↔ (m = n ∨ rate = 0) := by
  constructor
  · intro h
    have e : sharesF rate keeps k m = sharesF rate keeps k n := by
      apply List.ext_getElem (by rw [sharesF_len, sharesF_len])
      intro i h1 h2
      have := h i (by rw [sharesF_len] at h1; exact h1)
      simpa [h1, h2] using this
    have s1 := shares_sum (rate := rate) (keeps := keeps) m hk
    have s2 := shares_sum (rate := rate) (keeps := keeps) n hk
    rw [e, s2] at s1
    by_cases hr : rate = 0
    · exact .inr hr
    · exact .inl (Int.eq_of_mul_eq_mul_right hr s1.symm)
  · rintro (rfl | rfl) i _
    · rfl
    · simp [sharesF, keptF]
theorem idxF_at {l : List Int} (hl : l.Nodup) {k : Nat} (hk : k < l.length) : idxF l l[k] = (k : Int) := by
  have aux : ∀ (l : List Int) (k j : Nat), l.Nodup → (hk : k < l.length) → idxBy (fun y => l[k] == y) l j = ((j + k : Nat) : Int) := by
    intro l
    induction l with
    | nil => intro k j _ hk; exact absurd hk (Nat.not_lt_zero k)
    | cons a t ih =>
      intro k j hn hk
      rw [List.nodup_cons] at hn
      cases k with
      | zero => simp [idxBy]
      | succ k =>
        have hk' : k < t.length := by simpa using hk
        have hne : ¬ (t[k] = a) := fun e => hn.1 (by rw [← e]; exact List.getElem_mem hk')
        have e1 : (a :: t)[k + 1] = t[k] := rfl
        rw [e1, idxBy, if_neg (by simpa using hne), ih k (j + 1) hn.2 hk']
        congr 1; omega
  have := aux l k 0 hl hk
  rw [Nat.zero_add] at this
  exact this
/-- The lists of words for all shares of n words. -/
def clF (rate keeps : Int) (d : Dis) (n : Int) (k : Nat) : List Int := fitsL rate keeps d k ((sharesF rate keeps d.passed.length n).getD k 0) (d.hi - d.lo + 1).toNat
theorem clF_mem {rate keeps : Int} {d : Dis} {n x : Int} {k : Nat} (hx : d.lo ≤ x ∧ x ≤ d.hi) : x ∈ clF rate keeps d n k ↔ (sharesF rate keeps d.passed.length x).getD k 0 = (sharesF rate keeps d.passed.length n).getD k 0 := by
  rw [clF, fitsL_mem]
  constructor
  · exact fun h => h.2.2
  · exact fun h => ⟨hx.1, by omega, h⟩
theorem clF_in {rate keeps : Int} {d : Dis} {n x : Int} {k : Nat} (h : x ∈ clF rate keeps d n k) : d.lo ≤ x ∧ x ≤ d.hi := by
  rw [clF, fitsL_mem] at h
  omega
theorem clF_rise (rate keeps : Int) (d : Dis) (n : Int) (k : Nat) : (clF rate keeps d n k).Pairwise (· < ·) := fitsL_rise _ _ _ _ _ _
theorem clF_all {rate keeps : Int} {d : Dis} (h5 : 1 ≤ d.passed.length ∧ d.passed.length ≤ 5) {n x : Int} (hx : d.lo ≤ x ∧ x ≤ d.hi) : fitN (clF rate keeps d n) x d.passed.length = d.passed.length ↔ (x = n ∨ rate = 0) := by
  rw [fitN_all, ← shares_same h5]
  constructor
  · intro h i hi
    exact (clF_mem hx).1 (h i hi)
  · intro h i hi
    exact (clF_mem hx).2 (h i hi)
end Go.Proofs.Ytaphfibfjepceaa
