/- pay, plain: dispatches in another order; one station alone; equal shares; more words; claims -/
import Derived.Test.YtomjlmhnjgohdaaBy
namespace Go.Proofs.Ytomjlmhnjgohdaa
set_option linter.unusedVariables false
set_option linter.unusedSimpArgs false
set_option linter.unnecessarySimpa false
open Go.RowKit Go.Flow Go.Shelf

theorem balN_reach (rate keeps : Int) (ds : List Dis) (X : Int → Int → Bool → Int) (s : Int) : ∀ k, k ≤ ds.length → balN rate keeps ds (reachL rate keeps X s ds ds.length) s k = ((ds.take k).map fun d => chF rate keeps d (reachD rate keeps X s d) s).sum
  | 0, _ => by simp [balN]
  | k + 1, h => by
    have hk : k < ds.length := by omega
    rw [balN, balN_reach rate keeps ds X s k (by omega), reachL_get _ _ _ _ _ hk, show ds.getD k ⟨0, 0, 0, []⟩ = ds[k] by simp [hk], List.take_succ_eq_append_getElem hk, List.map_append, List.sum_append]
    simp
theorem endB_sum (rate keeps : Int) (ds : List Dis) (X : Int → Int → Bool → Int) (s : Int) : endB rate keeps ds X s = (ds.map fun d => chF rate keeps d (reachD rate keeps X s d) s).sum := by
  rw [endB, balN_reach _ _ _ _ _ _ (Nat.le_refl _), List.take_length]
theorem endB_turn (rate keeps : Int) (a b : List Dis) (X : Int → Int → Bool → Int) (s : Int) : endB rate keeps (b ++ a) X s = endB rate keeps (a ++ b) X s := by
  rw [endB_sum, endB_sum, List.map_append, List.map_append, List.sum_append, List.sum_append]; omega
theorem bdL_turn (rate keeps : Int) (a b : List Dis) (m : Nat) : bdL rate keeps (b ++ a) m = bdL rate keeps (a ++ b) m := by
  unfold bdL
  simp only [endB_turn]
theorem all_turn {α : Type} (a b : List α) (p : α → Bool) : (b ++ a).all p = (a ++ b).all p := by rw [List.all_append, List.all_append, Bool.and_comm]
theorem accErr_turn (st rate keeps : Int) (a b : List Dis) : accErr ⟨st, rate, keeps, b ++ a⟩ = accErr ⟨st, rate, keeps, a ++ b⟩ := by
  unfold accErr
  simp only [all_turn a b, List.length_append, Nat.add_comm b.length]
theorem accErr_of {a : Acc} (h : AccOk a) : accErr a = 0 := by
  unfold accErr
  have h1 : a.ds.all fewB = true := by rw [List.all_eq_true]; intro d hd; simpa [fewB] using h.few d hd
  have h2 : a.ds.all (disB a.st) = true := by rw [List.all_eq_true]; exact h.dis
  rw [if_neg (by rintro (x | x | x); have := h.st; omega; have := h.len; omega; rw [h1] at x; cases x), if_neg (by
    rintro (x | x | x | x)
    · have := h.st; omega
    · rw [inR_iff.2 h.rate] at x; cases x
    · rw [inR_iff.2 h.keeps] at x; cases x
    · rw [h2] at x; cases x)]
/-- One station alone gets the whole price. -/
theorem sharesF_one (rate keeps n : Int) : sharesF rate keeps 1 n = [n * rate] := by
  have e : sharesF rate keeps 1 n = [(n * rate - keptF rate keeps n) / ((1 : Nat) : Int) + (if (0 : Nat) = 0 then keptF rate keeps n else 0) + (if ((1 : Nat) : Int) - (n * rate - keptF rate keeps n) % ((1 : Nat) : Int) ≤ ((0 : Nat) : Int) then 1 else 0)] := rfl
  rw [e, if_pos rfl]
  rw [show ((1 : Nat) : Int) = 1 from rfl, Int.ediv_one, Int.emod_one, if_neg (by omega)]
  congr 1
  omega
def aloneD (d : Dis) : Dis := ⟨d.payer, d.lo, d.hi, d.passed.take 1⟩
theorem onceB_take {st : Int} {l : List Int} (h : onceB st l = true) (k : Nat) : onceB st (l.take k) = true := by
  rw [onceB_iff] at h ⊢
  exact ⟨fun s hs => h.1 s (List.mem_of_mem_take hs), h.2.sublist (List.take_sublist _ _)⟩
theorem disB_alone {st : Int} {d : Dis} (h : disB st d = true) : disB st (aloneD d) = true := by
  have hp := (disB_ok h).pos
  unfold disB at h ⊢
  simp only [Bool.and_eq_true, decide_eq_true_eq] at h ⊢
  obtain ⟨⟨⟨⟨⟨h1, h2⟩, h3⟩, h4⟩, h5⟩, h6⟩ := h
  refine ⟨⟨⟨⟨⟨onceB_take h1 1, h2⟩, h3⟩, h4⟩, h5⟩, ?_⟩
  show 0 < (d.passed.take 1).length
  rw [List.length_take]; omega
theorem acc_alone {st rate keeps : Int} {ds : List Dis} (h : accErr ⟨st, rate, keeps, ds⟩ = 0) {i : Nat} (hi : i < ds.length) : accErr ⟨st, rate, keeps, ds.set i (aloneD ds[i])⟩ = 0 := by
  have A := accErr_ok h
  refine accErr_of ⟨A.st, A.rate, A.keeps, by simpa using A.len, fun d hd => ?_, fun d hd => ?_⟩
  · rcases List.mem_or_eq_of_mem_set hd with h | rfl
    · exact A.few d h
    · show (ds[i].passed.take 1).length ≤ 5
      rw [List.length_take]; omega
  · rcases List.mem_or_eq_of_mem_set hd with h | rfl
    · exact A.dis d h
    · exact disB_alone (A.dis _ (List.getElem_mem hi))
theorem acc_equal {st rate keeps : Int} {ds : List Dis} (h : accErr ⟨st, rate, keeps, ds⟩ = 0) : accErr ⟨st, rate, 0, ds⟩ = 0 := by
  have A := accErr_ok h
  exact accErr_of ⟨A.st, A.rate, ⟨Int.le_refl 0, (by show (0 : Int) ≤ 100; omega)⟩, A.len, A.few, A.dis⟩
/-- Without what the first one keeps all shares are equal, but for a penny. -/
theorem shares_equal {rate : Int} {k : Nat} {n : Int} (hk : 1 ≤ k ∧ k ≤ 5) {j : Nat} (hj : j + 1 < k) :
    (sharesF rate 0 k n).getD j 0 ≤ (sharesF rate 0 k n).getD (j + 1) 0 ∧ (sharesF rate 0 k n).getD (j + 1) 0 ≤ (sharesF rate 0 k n).getD 0 0 + 1 := by
  rw [sharesF_at n hk _ (by omega), sharesF_at n hk _ (by omega), sharesF_at n hk 0 (by omega)]
  have e : keptF rate 0 n = 0 := by simp [keptF]
  rw [e]
  obtain ⟨P, hP⟩ : ∃ P, n * rate - 0 = P := ⟨_, rfl⟩
  rw [hP]
  have hkp : (0 : Int) < (k : Int) := by omega
  have h1 : (P + (j : Int)) / (k : Int) ≤ (P + ((j + 1 : Nat) : Int)) / (k : Int) := Int.ediv_le_ediv hkp (by push_cast; omega)
  have h2 : (P + ((j + 1 : Nat) : Int)) / (k : Int) ≤ (P + ((0 : Nat) : Int)) / (k : Int) + 1 := by
    have e2 : (P + ((0 : Nat) : Int)) / (k : Int) + 1 = (P + (k : Int)) / (k : Int) := by
      rw [show P + (k : Int) = P + ((0 : Nat) : Int) + 1 * (k : Int) by simp, Int.add_mul_ediv_right _ _ (by omega)]
    rw [e2]
    exact Int.ediv_le_ediv hkp (by omega)
  constructor <;> (repeat' split) <;> omega
/-- More words. -/
theorem bal_more {rate keeps : Int} {ds : List Dis} (G : Good rate keeps ds) {t : List Int} {i : Nat} (hi : i < ds.length) (ht : t.length = ds.length) {n : Int} (hn : t.getD i 0 ≤ n) (s : Int) :
    (ds[i].payer = s → balN rate keeps ds (t.set i n) s ds.length ≤ balN rate keeps ds t s ds.length) ∧ (ds[i].payer ≠ s → balN rate keeps ds t s ds.length ≤ balN rate keeps ds (t.set i n) s ds.length) := by
  have hm := List.getElem_mem hi
  have h := chF_mono G.r.1 G.k ds[i] (G.p _ hm) s hn
  have e : ∀ j, j < ds.length → (t.set i n).getD j 0 = if j = i then n else t.getD j 0 := by
    intro j hj
    by_cases hji : j = i
    · subst hji; simp [show j < t.length by omega]
    · rw [if_neg hji]; simp [List.getElem?_set, Ne.symm hji]
  constructor
  · intro hp
    refine balN_le _ (fun j hj => ?_)
    rw [e j hj]
    by_cases hji : j = i
    · subst hji; rw [if_pos rfl, show ds.getD j ⟨0, 0, 0, []⟩ = ds[j] by simp [hj]]; exact h.2 hp
    · rw [if_neg hji]; exact Int.le_refl _
  · intro hp
    refine balN_le _ (fun j hj => ?_)
    rw [e j hj]
    by_cases hji : j = i
    · subst hji; rw [if_pos rfl, show ds.getD j ⟨0, 0, 0, []⟩ = ds[j] by simp [hj]]; exact h.1 hp
    · rw [if_neg hji]; exact Int.le_refl _
theorem truth_set {ds : List Dis} {t : List Int} (h : isTruth ds t = true) {i : Nat} (hi : i < ds.length) {n : Int} (hn : ds[i].lo ≤ n ∧ n ≤ ds[i].hi) : isTruth ds (t.set i n) = true := by
  obtain ⟨h1, h2⟩ := isTruth_iff.1 h
  refine isTruth_iff.2 ⟨by simpa using h1, fun k hk => ?_⟩
  by_cases hki : k = i
  · subst hki; simpa [show k < t.length by omega] using hn
  · have := h2 k hk
    simpa [List.getElem?_set, Ne.symm hki] using this
end Go.Proofs.Ytomjlmhnjgohdaa
