/- pay, plain: lists that are groups -/
import Derived.Test.YtomjlmhnjgohdaaBf
namespace Go.Proofs.Ytomjlmhnjgohdaa
set_option linter.unusedVariables false
set_option linter.unusedSimpArgs false
set_option linter.unnecessarySimpa false

theorem stepB_iff {l g : List Int} {k seen : Nat} : stepB l g k seen = true ↔ (0 ≤ g.getD k 0 ∧ g.getD k 0 < l.length) ∧ (k = 0 ∨ g.getD (k - 1) 0 < g.getD k 0) ∧ nzB l (g.getD k 0).toNat = true ∧ seen.testBit (g.getD k 0).toNat = false := by
  unfold stepB nzB
  simp only [Bool.and_eq_true, inR_iff, Bool.or_eq_true, beq_iff_eq, decide_eq_true_eq, Bool.not_eq_true']
  constructor
  · rintro ⟨⟨⟨a, b⟩, c⟩, d⟩; exact ⟨by omega, b, c, d⟩
  · rintro ⟨a, b, c, d⟩; exact ⟨⟨⟨by omega, b⟩, c⟩, d⟩
theorem or_bit (seen f i : Nat) : (seen ||| 2 ^ f).testBit i = (seen.testBit i || decide (f = i)) := by rw [Nat.testBit_or, Nat.testBit_two_pow]
theorem runG_sound (l g : List Int) : ∀ (m k seen : Nat) (sum : Int) (r : Nat × Int), runG l g m k seen sum = some r →
    (∀ i, seen.testBit i = true → r.1.testBit i = true) ∧ (∀ i, r.1.testBit i = true → seen.testBit i = false → i < l.length ∧ nzB l i = true) ∧ sumP l (fun i => r.1.testBit i && !seen.testBit i) l.length = r.2 - sum ∧ (0 < m → ∃ i, r.1.testBit i = true ∧ seen.testBit i = false)
  | 0, k, seen, sum, r, h => by
    simp only [runG, Option.some.injEq] at h
    subst h
    refine ⟨fun i h => h, fun i h1 h2 => absurd h1 (by rw [h2]; simp), ?_, fun h => absurd h (Nat.lt_irrefl 0)⟩
    rw [sumP_none]
    · simp
    · intro i _ h; simp at h
  | m + 1, k, seen, sum, r, h => by
    rw [runG] at h
    split at h
    · rename_i hs
      obtain ⟨h1, _, h3, h4⟩ := stepB_iff.1 hs
      obtain ⟨f, hf⟩ : ∃ f : Nat, g.getD k 0 = (f : Int) := ⟨(g.getD k 0).toNat, by omega⟩
      rw [hf] at h h1 h3 h4
      simp only [Int.toNat_natCast] at h h3 h4
      obtain ⟨a, b, c, _⟩ := runG_sound l g m (k + 1) _ _ r h
      have hfr : r.1.testBit f = true := a f (by rw [or_bit]; simp)
      have hfl : f < l.length := by omega
      refine ⟨fun i hi => a i (by rw [or_bit, hi]; rfl), fun i hi hn => ?_, ?_, fun _ => ⟨f, hfr, h4⟩⟩
      · by_cases e : f = i
        · subst e; exact ⟨hfl, h3⟩
        · exact b i hi (by rw [or_bit, hn]; simpa using e)
      · have e : sumP l (fun i => r.1.testBit i && !seen.testBit i) l.length = sumP l (fun i => (r.1.testBit i && !(seen ||| 2 ^ f).testBit i) || i == f) l.length := sumP_congr _ fun i _ => by
          rw [or_bit]
          by_cases e : f = i
          · subst e; simp [hfr, h4]
          · have e2 : (i == f) = false := by simpa using fun h => e h.symm
            simp [e, e2]
        rw [e, sumP_or, sumP_one, if_pos hfl, c]
        · omega
        · intro i _ hi
          have : f ≠ i := fun h => by subst h; rw [or_bit] at hi; simp at hi
          simpa using fun h => this h.symm
    · cases h
/-- A list that rises, of stations that owe or get something and that are in no group yet, is a group's. -/
theorem runG_full (l g : List Int) (h1 : ∀ j, j < g.length → (0 ≤ g.getD j 0 ∧ g.getD j 0 < l.length) ∧ nzB l (g.getD j 0).toNat = true) (h2 : ∀ i j, i < j → j < g.length → g.getD i 0 < g.getD j 0) :
    ∀ (m k seen : Nat) (sum : Int), k + m = g.length → (∀ j, k ≤ j → j < g.length → seen.testBit (g.getD j 0).toNat = false) → ∃ r, runG l g m k seen sum = some r ∧ ∀ i, r.1.testBit i = true ↔ (seen.testBit i = true ∨ ∃ j, k ≤ j ∧ j < g.length ∧ (g.getD j 0).toNat = i)
  | 0, k, seen, sum, hk, _ => ⟨(seen, sum), rfl, fun i => ⟨.inl, fun h => by
      rcases h with h | ⟨j, h1, h2, _⟩
      · exact h
      · omega⟩⟩
  | m + 1, k, seen, sum, hk, h3 => by
    have hs : stepB l g k seen = true := stepB_iff.2 ⟨(h1 k (by omega)).1, by
      rcases Nat.eq_zero_or_pos k with h | h
      · exact .inl h
      · exact .inr (h2 (k - 1) k (by omega) (by omega)), (h1 k (by omega)).2, h3 k (Nat.le_refl _) (by omega)⟩
    obtain ⟨r, e, hr⟩ := runG_full l g h1 h2 m (k + 1) (seen ||| 2 ^ (g.getD k 0).toNat) (sum + l.getD (g.getD k 0).toNat 0) (by omega) (fun j hj hjl => by
      rw [or_bit, h3 j (by omega) hjl]
      have a := h2 k j (by omega) hjl
      have b := (h1 k (by omega)).1
      have c := (h1 j hjl).1
      simp only [Bool.false_or, decide_eq_false_iff_not]; omega)
    refine ⟨r, by rw [runG, if_pos hs]; exact e, fun i => ?_⟩
    rw [hr i, or_bit]
    constructor
    · rintro (h | ⟨j, a, b, c⟩)
      · simp only [Bool.or_eq_true, decide_eq_true_eq] at h
        rcases h with h | h
        · exact .inl h
        · exact .inr ⟨k, Nat.le_refl _, by omega, h⟩
      · exact .inr ⟨j, by omega, b, c⟩
    · rintro (h | ⟨j, a, b, c⟩)
      · left; rw [h]; rfl
      · by_cases e : j = k
        · subst e; left; rw [c]; simp
        · exact .inr ⟨j, by omega, b, c⟩
/-- Groups colour the stations that owe or get something. -/
theorem areG_col (l : List Int) : ∀ (gs : List (List Int)) (seen : Nat), areG l gs seen = true → ∃ c, Col l (fun i => nzB l i && !seen.testBit i) gs.length c
  | [], seen, h => by
    have hd : ∀ i, i < l.length → (nzB l i && !seen.testBit i) = false := fun i hi => by
      have h : doneB l seen 0 = true := h
      unfold doneB at h
      rw [List.drop_zero, List.all_eq_true] at h
      have := h i (by simpa using hi)
      simp only [Bool.or_eq_true, beq_iff_eq] at this
      rcases this with e | e
      · rw [show nzB l i = false by unfold nzB; rw [e]; rfl]; rfl
      · rw [e]; simp
    exact ⟨fun _ => 0, ⟨fun i hi h2 => (by rw [hd i hi] at h2; cases h2), fun j hj => (by simp at hj), fun j hj => (by simp at hj)⟩⟩
  | g :: gs, seen, h => by
    unfold areG at h
    split at h
    · cases h
    · rename_i r hr
      simp only [Bool.and_eq_true, Bool.not_eq_true', beq_eq_false_iff_ne, beq_iff_eq] at h
      obtain ⟨⟨hg, hz⟩, hA⟩ := h
      obtain ⟨a, b, c, d⟩ := runG_sound l g g.length 0 seen 0 r hr
      obtain ⟨c', C⟩ := areG_col l gs r.1 hA
      have hns : ∀ i, r.1.testBit i = false → seen.testBit i = false := fun i hi => by
        cases hs : seen.testBit i
        · rfl
        · rw [a i hs] at hi; cases hi
      refine ⟨fun i => if r.1.testBit i then gs.length else c' i, fun i hi hd => ?_, fun j hj => ?_, fun j hj => ?_⟩
      · by_cases hs : r.1.testBit i = true
        · simp [hs]
        · simp only [Bool.and_eq_true] at hd
          have := C.lt i hi (by simp only [Bool.and_eq_true]; exact ⟨hd.1, by simpa using hs⟩)
          simp only [hs, List.length_cons]
          simp; omega
      · by_cases e : j = gs.length
        · obtain ⟨i, h1, h2⟩ := d (by omega)
          obtain ⟨h3, h4⟩ := b i h1 h2
          exact ⟨i, h3, by simp [h4, h2], by simp [h1, e]⟩
        · obtain ⟨i, hi, h5, h6⟩ := C.onto j (by simp at hj; omega)
          simp only [Bool.and_eq_true, Bool.not_eq_true'] at h5
          exact ⟨i, hi, by simp [h5.1, hns i h5.2], by simp [h5.2, h6]⟩
      · by_cases e : j = gs.length
        · subst e
          have : sumP l (fun i => (nzB l i && !seen.testBit i) && (if r.1.testBit i then gs.length else c' i) == gs.length) l.length = sumP l (fun i => r.1.testBit i && !seen.testBit i) l.length := sumP_congr _ fun i hi => by
            cases hs : r.1.testBit i
            · have h7 := hns i hs
              cases hn : nzB l i
              · simp
              · have := C.lt i hi (by simp [hn, hs])
                simp [h7]; omega
            · cases hs2 : seen.testBit i
              · simp [(b i hs hs2).2]
              · simp
          rw [this, c, hz]; rfl
        · rw [← C.zero j (by simp at hj; omega)]
          refine sumP_congr _ fun i hi => ?_
          cases hs : r.1.testBit i
          · simp [hns i hs]
          · have : (gs.length == j) = false := by simpa using fun h => e h.symm
            simp [this]
theorem areG_le {l : List Int} (hl : l.length ≤ 10) {gs : List (List Int)} (h : areG l gs 0 = true) : gs.length ≤ (grpL l).length := by
  obtain ⟨c, C⟩ := areG_col l gs 0 h
  exact col_le hl (C.congr fun i _ => by simp)
theorem setN_sorted (S n : Nat) : (setN S n).Pairwise (· < ·) := by
  unfold setN
  rw [List.pairwise_map]
  have : ((List.range n).filter S.testBit).Pairwise (· < ·) := List.Pairwise.filter _ List.pairwise_lt_range
  exact this.imp (fun h => by omega)
theorem getD_eq' {l : List Int} {j : Nat} (h : j < l.length) : l.getD j 0 = l[j] := by simp [h]
/-- The best groups are groups. -/
theorem areG_parts {l : List Int} {n : Nat} (hn : l.length = n) (h10 : n ≤ 10) : ∀ (P : List Nat) (S seen : Nat), Parts l S P → S < 2 ^ n → (∀ i, S.testBit i = true → seen.testBit i = false) → (∀ i, i < n → nzB l i = (S.testBit i || seen.testBit i)) → areG l (P.map fun s => setN s 10) seen = true
  | [], S, seen, hP, hS, hd, hnz => by
    have hS0 : S = 0 := hP
    subst hS0
    show doneB l seen 0 = true
    unfold doneB
    rw [List.drop_zero, List.all_eq_true]
    intro i hi
    have := hnz i (by rw [← hn]; simpa using hi)
    simp only [Nat.zero_testBit, Bool.false_or] at this
    rw [← this]
    simp only [nzB, Bool.or_eq_true, beq_iff_eq, bne_iff_ne, ne_eq]
    exact Classical.em _
  | s :: P, S, seen, ⟨p1, p2, p3, p4⟩, hS, hd, hnz => by
    have hsS : s ≤ S := by have : s &&& S ≤ S := Nat.and_le_right; omega
    have hp10 : 2 ^ n ≤ 2 ^ 10 := Nat.pow_le_pow_right (by omega) h10
    have hs10 : s < 1024 := by omega
    have hmem : ∀ j, j < (setN s 10).length → ∃ i : Nat, (setN s 10).getD j 0 = (i : Int) ∧ s.testBit i = true := fun j hj => by
      obtain ⟨i, _, hb, e⟩ := mem_setN.1 (List.getElem_mem hj)
      exact ⟨i, by rw [getD_eq' hj]; exact e, hb⟩
    have hbn : ∀ i, s.testBit i = true → i < n := fun i hi => bit_lt (n := n) (by omega) hi
    obtain ⟨r, e, hr⟩ := runG_full l (setN s 10) (fun j hj => by
      obtain ⟨i, e, hb⟩ := hmem j hj
      have := hbn i hb
      rw [e]
      refine ⟨by omega, ?_⟩
      rw [Int.toNat_natCast, hnz i (hbn i hb), sub_bit p1 hb]; rfl) (fun i j hij hj => by
      rw [getD_eq' hj, getD_eq' (show i < (setN s 10).length by omega)]
      exact List.pairwise_iff_getElem.1 (setN_sorted s 10) i j (by omega) hj hij) (setN s 10).length 0 seen 0 (by omega) (fun j _ hj => by
      obtain ⟨i, e, hb⟩ := hmem j hj
      rw [e, Int.toNat_natCast]
      exact hd i (sub_bit p1 hb))
    have hrb : ∀ i, r.1.testBit i = (seen.testBit i || s.testBit i) := fun i => by
      rw [Bool.eq_iff_iff, hr i, Bool.or_eq_true]
      constructor
      · rintro (h | ⟨j, _, hj, e⟩)
        · exact .inl h
        · obtain ⟨i', e', hb⟩ := hmem j hj
          rw [e', Int.toNat_natCast] at e
          subst e; exact .inr hb
      · rintro (h | h)
        · exact .inl h
        · have : (i : Int) ∈ setN s 10 := mem_setN.2 ⟨i, by have := hbn i h; omega, h, rfl⟩
          obtain ⟨j, hj, e⟩ := List.getElem_of_mem this
          exact .inr ⟨j, Nat.zero_le _, hj, by rw [getD_eq' hj, e, Int.toNat_natCast]⟩
    obtain ⟨_, _, c, _⟩ := runG_sound l _ _ _ _ _ r e
    have hz : r.2 = 0 := by
      have : sumP l (fun i => r.1.testBit i && !seen.testBit i) l.length = sumM l s := sumP_congr _ fun i _ => by
        rw [hrb i]
        cases hs : s.testBit i
        · cases seen.testBit i <;> rfl
        · rw [hd i (sub_bit p1 hs)]; rfl
      rw [this, p3] at c
      omega
    have hlen : 0 < (setN s 10).length := (setN_first (ne_of_bit p2) hs10).1
    have hx := xor_lt p1 (ne_of_bit p2)
    have ih := areG_parts hn h10 P (S ^^^ s) r.1 p4 (by omega) (fun i hi => by
      rw [Nat.testBit_xor] at hi
      rw [hrb i]
      cases hs : s.testBit i
      · rw [hs] at hi
        rw [hd i (by simpa using hi)]; rfl
      · rw [hs, sub_bit p1 hs] at hi; cases hi) (fun i hi => by
      rw [hnz i hi, hrb i, Nat.testBit_xor]
      cases hs : s.testBit i
      · cases S.testBit i <;> cases seen.testBit i <;> rfl
      · rw [sub_bit p1 hs]; simp)
    show areG l (setN s 10 :: P.map fun s => setN s 10) seen = true
    unfold areG
    rw [e]
    simp only [hz, ih]
    have : ((setN s 10).length == 0) = false := by rw [beq_eq_false_iff_ne]; omega
    rw [this]; rfl
theorem groupsL_are {l : List Int} (hl : l.length ≤ 7) (hz : l.sum = 0) : areG l (groupsL l) 0 = true :=
  areG_parts rfl (by omega) _ (leftM l) 0 (grp_parts l _ (by have := leftM_lt l hl; omega) (by rw [leftM_sum, hz])) (maskOf_lt _ _) (fun i _ => by simp) (fun i hi => by simp [leftM_bit l hi])
/-- The first stations of the best groups rise. -/
theorem parts_rise {l : List Int} : ∀ (P : List Nat) (S : Nat), Parts l S P → S < 1024 → ∀ i, i < P.length → 0 < (setN (P.getD i 0) 10).length ∧ (setN (P.getD i 0) 10).getD 0 0 ≥ (fstB S : Int) ∧ (i + 1 < P.length → (setN (P.getD i 0) 10).getD 0 0 < (setN (P.getD (i + 1) 0) 10).getD 0 0)
  | [], _, _, _, i, hi => by simp at hi
  | s :: P, S, ⟨p1, p2, p3, p4⟩, hS, i, hi => by
    have hsS : s ≤ S := by have : s &&& S ≤ S := Nat.and_le_right; omega
    have hx := xor_lt p1 (ne_of_bit p2)
    have hf := setN_first (ne_of_bit p2) (show s < 1024 by omega)
    have hfs : fstB s = fstB S := by
      have h1 := fstB_le (show s < 1024 by omega) p2
      have h2 := fstB_le hS (sub_bit p1 (fstB_bit (ne_of_bit p2) (show s < 1024 by omega)))
      omega
    have hlt : ∀ T, S ^^^ s = T → T ≠ 0 → fstB S < fstB T := fun T hT h0 => by
      have hb := fstB_bit h0 (show T < 1024 by omega)
      have hb2 : S.testBit (fstB T) = true ∧ s.testBit (fstB T) = false := by
        rw [← hT, Nat.testBit_xor] at hb
        rw [← hT]
        cases hs : s.testBit (fstB (S ^^^ s))
        · rw [hs] at hb; exact ⟨by simpa using hb, rfl⟩
        · rw [hs, sub_bit p1 hs] at hb; cases hb
      have h1 := fstB_le hS hb2.1
      rcases Nat.lt_or_ge (fstB S) (fstB T) with h | h
      · exact h
      · have : fstB S = fstB T := by omega
        rw [← this, p2] at hb2; cases hb2.2
    cases i with
    | zero =>
      refine ⟨hf.1, by show (setN s 10).getD 0 0 ≥ _; rw [hf.2, hfs]; exact Int.le_refl _, fun h1 => ?_⟩
      cases P with
      | nil => simp at h1
      | cons s2 P2 =>
        obtain ⟨q1, q2, q3, q4⟩ := p4
        have h0 : S ^^^ s ≠ 0 := ne_of_bit (sub_bit q1 q2)
        have hr := (parts_rise (s2 :: P2) (S ^^^ s) ⟨q1, q2, q3, q4⟩ (by omega) 0 (by simp)).2.1
        have := hlt _ rfl h0
        show (setN s 10).getD 0 0 < (setN s2 10).getD 0 0
        rw [hf.2, hfs]
        have hr : (setN s2 10).getD 0 0 ≥ (fstB (S ^^^ s) : Int) := hr
        omega
    | succ i =>
      have hi2 : i < P.length := by simpa using hi
      have hr := parts_rise P (S ^^^ s) p4 (by omega) i hi2
      have h0 : S ^^^ s ≠ 0 := by
        cases P with
        | nil => simp at hi2
        | cons s2 P2 => obtain ⟨q1, q2, _⟩ := p4; exact ne_of_bit (sub_bit q1 q2)
      have := hlt _ rfl h0
      refine ⟨hr.1, by have := hr.2.1; show (setN (P.getD i 0) 10).getD 0 0 ≥ _; omega, fun h1 => hr.2.2 (by simpa using h1)⟩
theorem groupsL_rise {l : List Int} (hl : l.length ≤ 7) (hz : l.sum = 0) {i : Nat} (hi : i < (groupsL l).length) : 0 < ((groupsL l).getD i []).length ∧ (i + 1 < (groupsL l).length → 0 < ((groupsL l).getD (i + 1) []).length ∧ ((groupsL l).getD i []).getD 0 0 < ((groupsL l).getD (i + 1) []).getD 0 0) := by
  have hP := grp_parts l (leftM l) (by have := leftM_lt l hl; omega) (by rw [leftM_sum, hz])
  have hR := parts_rise _ _ hP (by have := leftM_lt l hl; omega)
  have hlen : (groupsL l).length = (grpF l (leftM l)).length := by simp [groupsL, grpL]
  have hg : ∀ j, j < (groupsL l).length → (groupsL l).getD j [] = setN ((grpF l (leftM l)).getD j 0) 10 := fun j hj => by
    have hj2 : j < (grpF l (leftM l)).length := by omega
    unfold groupsL grpL
    simp [hj2]
  rw [hg i hi]
  refine ⟨(hR i (by omega)).1, fun h1 => ?_⟩
  rw [hg (i + 1) h1]
  exact ⟨(hR (i + 1) (by omega)).1, (hR i (by omega)).2.2 (by omega)⟩
end Go.Proofs.Ytomjlmhnjgohdaa
