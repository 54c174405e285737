/- pay, plain: the fewest payments of balances in another order, of two lists together, of negated ones -/
import Derived.Test.YtomjlmhnjgohdaaBc
namespace Go.Proofs.Ytomjlmhnjgohdaa
set_option linter.unusedVariables false
set_option linter.unusedSimpArgs false
set_option linter.unnecessarySimpa false

theorem getD_left {a b : List Int} {i : Nat} (h : i < a.length) : (a ++ b).getD i 0 = a.getD i 0 := by rw [List.getD_eq_getElem?_getD, List.getD_eq_getElem?_getD, List.getElem?_append_left h]
theorem getD_right {a b : List Int} (i : Nat) : (a ++ b).getD (a.length + i) 0 = b.getD i 0 := by rw [List.getD_eq_getElem?_getD, List.getD_eq_getElem?_getD, List.getElem?_append_right (by omega), Nat.add_sub_cancel_left]
theorem nzB_left {a b : List Int} {i : Nat} (h : i < a.length) : nzB (a ++ b) i = nzB a i := by rw [nzB, nzB, getD_left h]
theorem nzB_right {a b : List Int} (i : Nat) : nzB (a ++ b) (a.length + i) = nzB b i := by rw [nzB, nzB, getD_right]
theorem sumP_left {a b : List Int} {p : Nat → Bool} : ∀ n, n ≤ a.length → sumP (a ++ b) p n = sumP a p n
  | 0, _ => rfl
  | n + 1, h => by rw [sumP, sumP, sumP_left n (by omega), getD_left (by omega)]
theorem sumP_right {a b : List Int} {p : Nat → Bool} : ∀ n, sumP (a ++ b) p (a.length + n) = sumP a p a.length + sumP b (fun i => p (a.length + i)) n
  | 0 => by rw [Nat.add_zero, sumP_left _ (Nat.le_refl _)]; simp [sumP]
  | n + 1 => by rw [← Nat.add_assoc, sumP, sumP, sumP_right n, getD_right]; omega
theorem sumP_app {a b : List Int} {p : Nat → Bool} : sumP (a ++ b) p (a ++ b).length = sumP a p a.length + sumP b (fun i => p (a.length + i)) b.length := by rw [List.length_append, sumP_right]
theorem cntP_right {p : Nat → Bool} (m : Nat) : ∀ n, cntP p (m + n) = cntP p m + cntP (fun i => p (m + i)) n
  | 0 => by simp [cntP]
  | n + 1 => by rw [← Nat.add_assoc, cntP, cntP, cntP_right m n]; omega
theorem cnt_app (a b : List Int) : cntP (nzB (a ++ b)) (a ++ b).length = cntP (nzB a) a.length + cntP (nzB b) b.length := by
  rw [List.length_append, cntP_right, cntP_congr a.length (fun i hi => nzB_left hi), cntP_congr b.length (fun i _ => nzB_right i)]
/-- Two lists together: the groups of both. -/
theorem Col.join {a b : List Int} {m k : Nat} {c e : Nat → Nat} (h : Col a (nzB a) m c) (h' : Col b (nzB b) k e) :
    Col (a ++ b) (nzB (a ++ b)) (m + k) (fun i => if i < a.length then c i else m + e (i - a.length)) := by
  refine ⟨fun i hi hd => ?_, fun j hj => ?_, fun j hj => ?_⟩
  · rw [List.length_append] at hi
    show (if i < a.length then c i else m + e (i - a.length)) < m + k
    by_cases hia : i < a.length
    · rw [if_pos hia]
      rw [nzB_left hia] at hd
      have := h.lt i hia hd
      omega
    · rw [if_neg hia]
      obtain ⟨r, rfl⟩ : ∃ r, i = a.length + r := ⟨i - a.length, by omega⟩
      rw [nzB_right] at hd
      have := h'.lt r (by omega) hd
      rw [Nat.add_sub_cancel_left]; omega
  · by_cases hjm : j < m
    · obtain ⟨i, h1, h2, h3⟩ := h.onto j hjm
      exact ⟨i, by rw [List.length_append]; omega, by rw [nzB_left h1]; exact h2, by show (if i < a.length then c i else _) = j; rw [if_pos h1]; exact h3⟩
    · obtain ⟨i, h1, h2, h3⟩ := h'.onto (j - m) (by omega)
      refine ⟨a.length + i, by rw [List.length_append]; omega, by rw [nzB_right]; exact h2, ?_⟩
      show (if a.length + i < a.length then _ else m + e (a.length + i - a.length)) = j
      rw [if_neg (by omega), Nat.add_sub_cancel_left, h3]; omega
  · rw [sumP_app]
    by_cases hjm : j < m
    · rw [sumP_congr (q := fun i => nzB a i && c i == j) a.length (fun i hi => by show (nzB (a ++ b) i && (if i < a.length then c i else _) == j) = _; rw [nzB_left hi, if_pos hi]), h.zero j hjm,
        sumP_none b.length (fun i hi hp => absurd hp (by
          show ¬ (nzB (a ++ b) (a.length + i) && (if a.length + i < a.length then _ else m + e (a.length + i - a.length)) == j) = true
          rw [if_neg (by omega)]
          simp; intro _; omega))]
      rfl
    · rw [sumP_none a.length (fun i hi hp => absurd hp (by
          show ¬ (nzB (a ++ b) i && (if i < a.length then c i else _) == j) = true
          rw [if_pos hi]
          intro hp
          rw [Bool.and_eq_true, nzB_left hi] at hp
          have := h.lt i hi hp.1
          have := hp.2
          simp at this
          omega)),
        sumP_congr (q := fun i => nzB b i && e i == j - m) b.length (fun i hi => by
          show (nzB (a ++ b) (a.length + i) && (if a.length + i < a.length then _ else m + e (a.length + i - a.length)) == j) = _
          rw [nzB_right, if_neg (by omega), Nat.add_sub_cancel_left]
          congr 1
          rw [Bool.eq_iff_iff]; simp; omega), h'.zero (j - m) (by omega)]
      rfl
/-- In another order: as many groups. -/
theorem Col.turn {a b : List Int} {m : Nat} {c : Nat → Nat} (h : Col (a ++ b) (nzB (a ++ b)) m c) :
    Col (b ++ a) (nzB (b ++ a)) m (fun i => if i < b.length then c (a.length + i) else c (i - b.length)) := by
  refine ⟨fun i hi hd => ?_, fun j hj => ?_, fun j hj => ?_⟩
  · rw [List.length_append] at hi
    show (if i < b.length then c (a.length + i) else c (i - b.length)) < m
    by_cases hib : i < b.length
    · rw [if_pos hib]
      rw [nzB_left hib] at hd
      exact h.lt _ (by rw [List.length_append]; omega) (by rw [nzB_right]; exact hd)
    · rw [if_neg hib]
      obtain ⟨r, rfl⟩ : ∃ r, i = b.length + r := ⟨i - b.length, by omega⟩
      rw [nzB_right] at hd
      rw [Nat.add_sub_cancel_left]
      exact h.lt _ (by rw [List.length_append]; omega) (by rw [nzB_left (by omega)]; exact hd)
  · obtain ⟨i, h1, h2, h3⟩ := h.onto j hj
    rw [List.length_append] at h1
    by_cases hia : i < a.length
    · rw [nzB_left hia] at h2
      refine ⟨b.length + i, by rw [List.length_append]; omega, by rw [nzB_right]; exact h2, ?_⟩
      show (if b.length + i < b.length then _ else c (b.length + i - b.length)) = j
      rw [if_neg (by omega), Nat.add_sub_cancel_left, h3]
    · obtain ⟨r, rfl⟩ : ∃ r, i = a.length + r := ⟨i - a.length, by omega⟩
      rw [nzB_right] at h2
      refine ⟨r, by rw [List.length_append]; omega, by rw [nzB_left (by omega)]; exact h2, ?_⟩
      show (if r < b.length then c (a.length + r) else _) = j
      rw [if_pos (by omega), h3]
  · have hz := h.zero j hj
    rw [sumP_app] at hz ⊢
    rw [sumP_congr (q := fun i => nzB a i && c i == j) a.length (fun i hi => by rw [nzB_left hi]), sumP_congr (q := fun i => nzB b i && c (a.length + i) == j) b.length (fun i hi => by rw [nzB_right])] at hz
    rw [sumP_congr (q := fun i => nzB b i && c (a.length + i) == j) b.length (fun i hi => by show (nzB (b ++ a) i && (if i < b.length then c (a.length + i) else _) == j) = _; rw [nzB_left hi, if_pos hi]),
      sumP_congr (q := fun i => nzB a i && c i == j) a.length (fun i hi => by show (nzB (b ++ a) (b.length + i) && (if b.length + i < b.length then _ else c (b.length + i - b.length)) == j) = _; rw [nzB_right, if_neg (by omega), Nat.add_sub_cancel_left])]
    omega
def negL (l : List Int) : List Int := l.map fun x => -x
theorem negL_len (l : List Int) : (negL l).length = l.length := by simp [negL]
theorem negL_at (l : List Int) (i : Nat) : (negL l).getD i 0 = -(l.getD i 0) := by
  by_cases h : i < l.length
  · simp [negL, h]
  · simp [negL, List.getElem?_eq_none (show l.length ≤ i by omega)]
theorem negL_nz (l : List Int) (i : Nat) : nzB (negL l) i = nzB l i := by
  rw [nzB, nzB, negL_at, Bool.eq_iff_iff]; simp
theorem sumP_negL {l : List Int} {p : Nat → Bool} : ∀ n, sumP (negL l) p n = - sumP l p n
  | 0 => by simp [sumP]
  | n + 1 => by rw [sumP, sumP, sumP_negL n, negL_at]; split <;> omega
theorem Col.neg {l : List Int} {m : Nat} {c : Nat → Nat} (h : Col l (nzB l) m c) : Col (negL l) (nzB (negL l)) m c := by
  refine ⟨fun i hi hd => h.lt i (by rwa [negL_len] at hi) (by rwa [negL_nz] at hd), fun j hj => ?_, fun j hj => ?_⟩
  · obtain ⟨i, h1, h2, h3⟩ := h.onto j hj
    exact ⟨i, by rw [negL_len]; exact h1, by rw [negL_nz]; exact h2, h3⟩
  · rw [negL_len, sumP_negL, sumP_congr (q := fun i => nzB l i && c i == j) l.length (fun i _ => by rw [negL_nz]), h.zero j hj]
    rfl
theorem negL_negL (l : List Int) : negL (negL l) = l := by
  rw [negL, negL, List.map_map, show ((fun x : Int => -x) ∘ fun x => -x) = id by funext x; simp, List.map_id]
/-- The groups are groups. -/
theorem grp_col {l : List Int} (hl : l.length ≤ 10) (hz : l.sum = 0) : ∃ c, Col l (nzB l) (grpL l).length c := by
  have hb := best_eq l hl hz
  rcases best_le l l.length 0 [] (by omega) with h | ⟨m, e, h1, h2⟩
  · rw [h] at hb; omega
  · have : m = (grpL l).length := by omega
    subst this
    exact ⟨e, fill_col.1 h2⟩
theorem grp_turn {a b : List Int} (hl : (a ++ b).length ≤ 10) (hz : (a ++ b).sum = 0) : (grpL (b ++ a)).length = (grpL (a ++ b)).length := by
  have hl' : (b ++ a).length ≤ 10 := by rw [List.length_append] at hl ⊢; omega
  have hz' : (b ++ a).sum = 0 := by rw [List.sum_append] at hz ⊢; omega
  obtain ⟨c, hc⟩ := grp_col hl hz
  obtain ⟨e, he⟩ := grp_col hl' hz'
  have h1 := col_le hl' hc.turn
  have h2 := col_le hl he.turn
  omega
theorem grp_neg {l : List Int} (hl : l.length ≤ 10) (hz : l.sum = 0) : (grpL (negL l)).length = (grpL l).length := by
  have hl' : (negL l).length ≤ 10 := by rw [negL_len]; exact hl
  have hs : ∀ l : List Int, (negL l).sum = - l.sum := fun l => by
    induction l with
    | nil => rfl
    | cons x t ih => simp only [negL, List.map_cons, List.sum_cons] at ih ⊢; rw [ih]; omega
  have hz' : (negL l).sum = 0 := by rw [hs, hz]; rfl
  obtain ⟨c, hc⟩ := grp_col hl hz
  obtain ⟨e, he⟩ := grp_col hl' hz'
  have h1 := col_le hl' hc.neg
  have h2 := he.neg
  rw [negL_negL] at h2
  have h3 := col_le hl h2
  omega
theorem grp_join {a b : List Int} (hl : (a ++ b).length ≤ 10) (ha : a.sum = 0) (hb : b.sum = 0) : (grpL a).length + (grpL b).length ≤ (grpL (a ++ b)).length := by
  rw [List.length_append] at hl
  obtain ⟨c, hc⟩ := grp_col (l := a) (by omega) ha
  obtain ⟨e, he⟩ := grp_col (l := b) (by omega) hb
  exact col_le (by rw [List.length_append]; omega) (hc.join he)
/-- As many payments are enough. -/
theorem settle_turn {a b : List Int} (h1 : balsErr (a ++ b) = 0) (h2 : balsErr (b ++ a) = 0) : (settleL (b ++ a)).length = (settleL (a ++ b)).length := by
  obtain ⟨l1, _, d1, z1⟩ := balsErr_ok h1
  obtain ⟨l2, _, d2, z2⟩ := balsErr_ok h2
  have s1 := (settleL_ok (by omega) z1 (debts d1)).2
  have s2 := (settleL_ok (by omega) z2 (debts d2)).2
  have g := grp_turn (by omega) z1
  rw [cnt_app] at s1 s2
  omega
theorem settle_neg {l : List Int} (h1 : balsErr l = 0) (h2 : balsErr (negL l) = 0) : (settleL (negL l)).length = (settleL l).length := by
  obtain ⟨l1, _, d1, z1⟩ := balsErr_ok h1
  obtain ⟨l2, _, d2, z2⟩ := balsErr_ok h2
  have s1 := (settleL_ok (by omega) z1 (debts d1)).2
  have s2 := (settleL_ok (by omega) z2 (debts d2)).2
  have g := grp_neg (by omega) z1
  rw [negL_len, cntP_congr l.length (fun i _ => negL_nz l i)] at s2
  omega
theorem settle_join {a b : List Int} (h1 : balsErr a = 0) (h2 : balsErr b = 0) (h3 : balsErr (a ++ b) = 0) : (settleL (a ++ b)).length ≤ (settleL a).length + (settleL b).length := by
  obtain ⟨l1, _, d1, z1⟩ := balsErr_ok h1
  obtain ⟨l2, _, d2, z2⟩ := balsErr_ok h2
  obtain ⟨l3, _, d3, z3⟩ := balsErr_ok h3
  have s1 := (settleL_ok (by omega) z1 (debts d1)).2
  have s2 := (settleL_ok (by omega) z2 (debts d2)).2
  have s3 := (settleL_ok (by omega) z3 (debts d3)).2
  have g := grp_join (by omega) z1 z2
  rw [cnt_app] at s3
  omega
theorem balsErr_of {l : List Int} (h1 : l.length ≤ 7) (h2 : l ≠ []) (h3 : ∀ x ∈ l, -100000 ≤ x ∧ x ≤ 100000) (h4 : l.sum = 0) : balsErr l = 0 := by
  unfold balsErr
  have : l.all debtB = true := by rw [List.all_eq_true]; intro x hx; have := h3 x hx; exact inR_iff.2 (by omega)
  rw [if_neg (by omega), if_neg (by rintro (h | h); exact h2 h; rw [this] at h; cases h), if_neg (by simpa using h4)]
end Go.Proofs.Ytomjlmhnjgohdaa
