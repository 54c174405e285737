/- pay, plain: shares grow with the words, and no share more than the price -/
import Derived.Test.YtaphfibfjepceaaAi
namespace Go.Proofs.Ytaphfibfjepceaa
set_option linter.unusedVariables false
set_option linter.unusedSimpArgs false
set_option linter.unnecessarySimpa false
open Go.RowKit Go.Flow

theorem kept_bd {rate keeps n : Int} (hr : 0 ≤ rate) (hk : 0 ≤ keeps ∧ keeps ≤ 100) (hn : 0 ≤ n) : 0 ≤ keptF rate keeps n ∧ keptF rate keeps n ≤ n * rate := by
  have hP : 0 ≤ n * rate := Int.mul_nonneg hn hr
  have h1 : 0 ≤ n * rate * keeps := Int.mul_nonneg hP hk.1
  have h2 : n * rate * keeps ≤ n * rate * 100 := Int.mul_le_mul_of_nonneg_left hk.2 hP
  unfold keptF
  omega
theorem kept_mono {rate keeps n m : Int} (hr : 0 ≤ rate) (hk : 0 ≤ keeps ∧ keeps ≤ 100) (hm : n ≤ m) : keptF rate keeps n ≤ keptF rate keeps m ∧ n * rate - keptF rate keeps n ≤ m * rate - keptF rate keeps m := by
  have hP : n * rate ≤ m * rate := Int.mul_le_mul_of_nonneg_right hm hr
  have h1 : n * rate * keeps ≤ m * rate * keeps := Int.mul_le_mul_of_nonneg_right hP hk.1
  have h2 : (m * rate - n * rate) * keeps ≤ (m * rate - n * rate) * 100 := Int.mul_le_mul_of_nonneg_left hk.2 (by omega)
  rw [Int.sub_mul] at h2
  unfold keptF
  omega
/-- A share: what is kept, for the first one, and a part of the rest. -/
theorem sharesF_at {rate keeps : Int} {k : Nat} (n : Int) (hk : 1 ≤ k ∧ k ≤ 5) (i : Nat) (hi : i < k) : (sharesF rate keeps k n).getD i 0 = (n * rate - keptF rate keeps n + i) / (k : Int) + (if i = 0 then keptF rate keeps n else 0) := by
  have e : (sharesF rate keeps k n).getD i 0 = (n * rate - keptF rate keeps n) / (k : Int) + (if i = 0 then keptF rate keeps n else 0) + (if (k : Int) - (n * rate - keptF rate keeps n) % (k : Int) ≤ (i : Int) then 1 else 0) := by
    simp [sharesF, hi]
  rw [e]
  obtain ⟨R, hR⟩ : ∃ R, n * rate - keptF rate keeps n = R := ⟨_, rfl⟩
  obtain ⟨K, hK⟩ : ∃ K, (if i = 0 then keptF rate keeps n else 0) = K := ⟨_, rfl⟩
  rw [hR, hK]
  obtain rfl | rfl | rfl | rfl | rfl : k = 1 ∨ k = 2 ∨ k = 3 ∨ k = 4 ∨ k = 5 := by omega
  all_goals (split <;> omega)
theorem range_sum_getD : ∀ (l : List Int), ((List.range l.length).map fun i => l.getD i 0).sum = l.sum := by
  intro l
  congr 1
  apply List.ext_getElem
  · simp
  · intro i h1 h2
    simp [h2]
theorem shares_sum {rate keeps : Int} {k : Nat} (n : Int) (hk : 1 ≤ k ∧ k ≤ 5) : (sharesF rate keeps k n).sum = n * rate := by
  have hl : (sharesF rate keeps k n).length = k := by simp [sharesF]
  rw [← range_sum_getD, hl]
  have e : ((List.range k).map fun i => (sharesF rate keeps k n).getD i 0) = (List.range k).map fun (i : Nat) => (n * rate - keptF rate keeps n + i) / (k : Int) + (if i = 0 then keptF rate keeps n else 0) := by
    apply List.map_congr_left
    intro i hi
    exact sharesF_at n hk i (by simpa using hi)
  rw [e]
  obtain ⟨K, hK⟩ : ∃ K, keptF rate keeps n = K := ⟨_, rfl⟩
  obtain ⟨P, hP⟩ : ∃ P, n * rate = P := ⟨_, rfl⟩
  rw [hK, hP]
  obtain rfl | rfl | rfl | rfl | rfl : k = 1 ∨ k = 2 ∨ k = 3 ∨ k = 4 ∨ k = 5 := by omega
  all_goals (simp [List.range_succ]; try omega)
theorem shares_nonneg {rate keeps : Int} {k : Nat} {n : Int} (hr : 0 ≤ rate) (hkp : 0 ≤ keeps ∧ keeps ≤ 100) (hk : 1 ≤ k ∧ k ≤ 5) (hn : 0 ≤ n) : ∀ x ∈ sharesF rate keeps k n, 0 ≤ x := by
  intro x hx
  have hl : (sharesF rate keeps k n).length = k := by simp [sharesF]
  obtain ⟨i, hi, rfl⟩ := List.getElem_of_mem hx
  have := sharesF_at (rate := rate) (keeps := keeps) n hk i (by omega)
  rw [List.getD_eq_getElem?_getD, List.getElem?_eq_getElem hi, Option.getD_some] at this
  rw [this]
  have hb := kept_bd hr hkp hn
  have : 0 ≤ (n * rate - keptF rate keeps n + i) / (k : Int) := Int.ediv_nonneg (by omega) (by omega)
  split <;> omega
theorem shares_mono {rate keeps : Int} {k : Nat} {n m : Int} (hr : 0 ≤ rate) (hkp : 0 ≤ keeps ∧ keeps ≤ 100) (hk : 1 ≤ k ∧ k ≤ 5) (hm : n ≤ m) (i : Nat) (hi : i < k) : (sharesF rate keeps k n).getD i 0 ≤ (sharesF rate keeps k m).getD i 0 := by
  rw [sharesF_at n hk i hi, sharesF_at m hk i hi]
  have hb := kept_mono hr hkp hm
  have : (n * rate - keptF rate keeps n + i) / (k : Int) ≤ (m * rate - keptF rate keeps m + i) / (k : Int) := Int.ediv_le_ediv (by omega) (by omega)
  split <;> omega
/-- One place of two lists grows at most as much as their sums, if no place shrinks. -/
theorem diff_le_sum : ∀ (l m : List Int), l.length = m.length → (∀ i, i < l.length → l.getD i 0 ≤ m.getD i 0) → ∀ i, i < l.length → m.getD i 0 - l.getD i 0 ≤ m.sum - l.sum
  | [], _, _, _, i, hi => by simp at hi
  | x :: l, [], h, _, _, _ => by simp at h
  | x :: l, y :: m, h, hm, i, hi => by
    have hl : l.length = m.length := by simpa using h
    have h0 : x ≤ y := by simpa using hm 0 (by simp)
    have hs : ∀ i, i < l.length → l.getD i 0 ≤ m.getD i 0 := fun i hi => by simpa using hm (i + 1) (by simp; omega)
    have hsum : l.sum ≤ m.sum := by
      cases l with
      | nil =>
        cases m with
        | nil => simp
        | cons _ _ => simp at hl
      | cons a l' =>
        have h1 := diff_le_sum (a :: l') m hl hs 0 (by simp)
        have h2 := hs 0 (by simp)
        omega
    cases i with
    | zero => simp; omega
    | succ i =>
      have := diff_le_sum l m hl hs i (by simpa using hi)
      simp only [List.getD_cons_succ, List.sum_cons]
      omega
theorem shares_price {rate keeps : Int} {k : Nat} {n m : Int} (hr : 0 ≤ rate) (hkp : 0 ≤ keeps ∧ keeps ≤ 100) (hk : 1 ≤ k ∧ k ≤ 5) (hm : n ≤ m) (i : Nat) (hi : i < k) : (sharesF rate keeps k m).getD i 0 - (sharesF rate keeps k n).getD i 0 ≤ m * rate - n * rate := by
  rw [← shares_sum (rate := rate) (keeps := keeps) m hk, ← shares_sum (rate := rate) (keeps := keeps) n hk]
  exact diff_le_sum _ _ (by simp [sharesF]) (fun i hi => shares_mono hr hkp hk hm i (by simpa [sharesF] using hi)) i (by simpa [sharesF] using hi)
end Go.Proofs.Ytaphfibfjepceaa
