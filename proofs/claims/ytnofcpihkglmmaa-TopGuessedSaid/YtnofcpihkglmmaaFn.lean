/- flash: what was sent is among the texts, plainly -/
import Derived.Test.YtnofcpihkglmmaaFm
namespace Go.Proofs.Ytnofcpihkglmmaa
set_option linter.unusedVariables false
set_option linter.unusedSimpArgs false
set_option linter.unnecessarySimpa false
open Go.RowKit Go.Flow
/-- Signs, what is read of them, and with how many errors. -/
inductive Der : List UInt8 → List UInt8 → Nat → Prop where
  | nil : Der [] [] 0
  | copy {s r : List UInt8} {e : Nat} (x : UInt8) (h : Der s r e) : Der (s ++ [x]) (r ++ [x]) e
  | miss {s r : List UInt8} {e : Nat} (x : UInt8) (h : Der s r e) : Der (s ++ [x]) r (e + 1)
  | split {s r : List UInt8} {e : Nat} (h : Der s r e) : Der (s ++ [45]) (r ++ [46, 46]) (e + 1)
  | join {s r : List UInt8} {e : Nat} (h : Der s r e) : Der (s ++ [46, 46]) (r ++ [45]) (e + 1)
  | gap {s r : List UInt8} {e : Nat} (h : Der s r e) : Der s (r ++ [32]) (e + 1)
/-- The row, the row ahead of the last sign, the last sign. -/
structure RowSt where
  row : Nat → Int
  bef : Nat → Int
  last : UInt8
def stepSt (L : List UInt8) (st : RowSt) (x : UInt8) : RowSt := ⟨sgF L st.row st.bef st.last x, st.row, x⟩
def rowSt (L : List UInt8) (st : RowSt) (s : List UInt8) : RowSt := s.foldl (stepSt L) st
theorem aftF_row (L : List UInt8) : ∀ (s : List UInt8) (st : RowSt), aftF L s st.row st.bef st.last = (rowSt L st s).row
  | [], _ => rfl
  | x :: s, st => by
    rw [aftF, rowSt, List.foldl_cons]
    exact aftF_row L s (stepSt L st x)
def st0 (L : List UInt8) : RowSt := ⟨begF L, fun _ => 0, 32⟩
theorem rowSt_snoc (L : List UInt8) (st : RowSt) (s : List UInt8) (x : UInt8) : rowSt L st (s ++ [x]) = stepSt L (rowSt L st s) x := by rw [rowSt, rowSt, List.foldl_append]; rfl
section
variable (L : List UInt8) (r b : Nat → Int) (last sg : UInt8) (k : Nat)
theorem sg2_le : sg2 L r sg k ≤ sg1 r k := by unfold sg2; split <;> omega
theorem sg3_le : sg3 L r sg k ≤ sg2 L r sg k := by unfold sg3; split <;> omega
theorem sg4_le : sg4 L r b last sg k ≤ sg3 L r sg k := by unfold sg4; split <;> omega
theorem sg5_le (left : Int) : sg5 L r b last sg left k ≤ sg4 L r b last sg k := by unfold sg5; split <;> omega
theorem sgF_le (hk : k ≤ L.length) : sgF L r b last sg k ≤ sg4 L r b last sg k := by
  cases k with
  | zero => have := sg5_le L r b last sg 0 0; rw [sgF]; omega
  | succ k => have := sg5_le L r b last sg (k + 1) (sgF L r b last sg k); rw [sgF, if_pos hk]; omega
end
theorem der_row (L : List UInt8) {s r : List UInt8} {e : Nat} (h : Der s r e) : ∀ t, r ++ t = L → (rowSt L (st0 L) s).row r.length ≤ e := by
  induction h with
  | nil => intro t _; show begF L 0 ≤ 0; rw [begF]; omega
  | @copy s r e x h ih =>
    intro t ht
    have := ih ([x] ++ t) (by rw [← ht]; simp)
    have hl : L.length = r.length + 1 + t.length := by rw [← ht]; simp; omega
    have hg : L.getD r.length 0 = x := by rw [← ht]; simp
    rw [rowSt_snoc, show (r ++ [x]).length = r.length + 1 by simp]
    generalize rowSt L (st0 L) s = st at this
    show sgF L st.row st.bef st.last x (r.length + 1) ≤ e
    have h1 := sgF_le L st.row st.bef st.last x (r.length + 1) (by omega)
    have h2 := sg4_le L st.row st.bef st.last x (r.length + 1)
    have h3 := sg3_le L st.row x (r.length + 1)
    have h4 : sg2 L st.row x (r.length + 1) ≤ st.row r.length := by
      unfold sg2
      rw [if_pos (by rw [Nat.add_sub_cancel, hg]; simp), Nat.add_sub_cancel]
      omega
    omega
  | @miss s r e x h ih =>
    intro t ht
    have := ih t ht
    have hl : L.length = r.length + t.length := by rw [← ht]; simp
    rw [rowSt_snoc]
    generalize rowSt L (st0 L) s = st at this
    show sgF L st.row st.bef st.last x r.length ≤ ((e + 1 : Nat) : Int)
    have h1 := sgF_le L st.row st.bef st.last x r.length (by omega)
    have h2 := sg4_le L st.row st.bef st.last x r.length
    have h3 := sg3_le L st.row x r.length
    have h4 := sg2_le L st.row x r.length
    have h5 : sg1 st.row r.length = st.row r.length + 1 := rfl
    push_cast
    omega
  | @split s r e h ih =>
    intro t ht
    have := ih ([46, 46] ++ t) (by rw [← ht]; simp)
    have hl : L.length = r.length + 2 + t.length := by rw [← ht]; simp; omega
    have hg0 : L.getD r.length 0 = 46 := by rw [← ht]; simp
    have hg1 : L.getD (r.length + 1) 0 = 46 := by rw [← ht]; simp
    rw [rowSt_snoc, List.length_append, show ([46, 46] : List UInt8).length = 2 from rfl]
    generalize rowSt L (st0 L) s = st at this
    show sgF L st.row st.bef st.last 45 (r.length + 2) ≤ ((e + 1 : Nat) : Int)
    have h1 := sgF_le L st.row st.bef st.last 45 (r.length + 2) (by omega)
    have h2 := sg4_le L st.row st.bef st.last 45 (r.length + 2)
    have h4 : sg3 L st.row 45 (r.length + 2) ≤ st.row r.length + 1 := by
      unfold sg3
      rw [if_pos (by rw [Nat.add_sub_cancel, show r.length + 2 - 1 = r.length + 1 by omega, hg0, hg1]; simp), Nat.add_sub_cancel]
      omega
    push_cast
    omega
  | @join s r e h ih =>
    intro t ht
    have := ih ([45] ++ t) (by rw [← ht]; simp)
    have hl : L.length = r.length + 1 + t.length := by rw [← ht]; simp; omega
    have hg : L.getD r.length 0 = 45 := by rw [← ht]; simp
    rw [show s ++ [46, 46] = (s ++ [46]) ++ [46] by simp, rowSt_snoc, rowSt_snoc, List.length_append, show ([45] : List UInt8).length = 1 from rfl]
    generalize rowSt L (st0 L) s = st at this
    show sgF L (sgF L st.row st.bef st.last 46) st.row 46 46 (r.length + 1) ≤ ((e + 1 : Nat) : Int)
    have h1 := sgF_le L (sgF L st.row st.bef st.last 46) st.row 46 46 (r.length + 1) (by omega)
    have h4 : sg4 L (sgF L st.row st.bef st.last 46) st.row 46 46 (r.length + 1) ≤ st.row r.length + 1 := by
      unfold sg4
      rw [if_pos (by rw [Nat.add_sub_cancel, hg]; simp), Nat.add_sub_cancel]
      omega
    push_cast
    omega
  | @gap s r e h ih =>
    intro t ht
    have := ih ([32] ++ t) (by rw [← ht]; simp)
    have hl : L.length = r.length + 1 + t.length := by rw [← ht]; simp; omega
    have hg : L.getD r.length 0 = 32 := by rw [← ht]; simp
    rw [List.length_append, show ([32] : List UInt8).length = 1 from rfl]
    rcases List.eq_nil_or_concat s with rfl | ⟨s', x, rfl⟩
    · change begF L r.length ≤ e at this
      show begF L (r.length + 1) ≤ ((e + 1 : Nat) : Int)
      rw [begF, if_pos (by rw [hg]; simp; omega)]
      push_cast
      omega
    · rw [List.concat_eq_append, rowSt_snoc] at this ⊢
      generalize rowSt L (st0 L) s' = st at this ⊢
      change sgF L st.row st.bef st.last x r.length ≤ e at this
      show sgF L st.row st.bef st.last x (r.length + 1) ≤ ((e + 1 : Nat) : Int)
      rw [sgF, if_pos (by omega)]
      have h5 : sg5 L st.row st.bef st.last x (sgF L st.row st.bef st.last x r.length) (r.length + 1) ≤ sgF L st.row st.bef st.last x r.length + 1 := by
        generalize sgF L st.row st.bef st.last x r.length = lf
        unfold sg5
        rw [if_pos (by rw [Nat.add_sub_cancel, hg]; simp)]
        omega
      push_cast
      omega
/-- A blank parts what is read. -/
theorem der_cut {s r : List UInt8} {e : Nat} (h : Der s r e) : ∀ a b, s = a ++ 32 :: b → ∃ r1 r2 e1, Der a r1 e1 ∧ r1 ++ r2 = r ∧ e1 ≤ e := by
  induction h with
  | nil => intro a b h; simp at h
  | @copy s r e x h ih =>
    intro a b hs
    rcases List.eq_nil_or_concat b with rfl | ⟨b', y, rfl⟩
    · obtain ⟨rfl, _⟩ := List.append_inj' hs rfl
      exact ⟨r, [x], e, h, rfl, Nat.le_refl _⟩
    · rw [List.concat_eq_append, ← List.cons_append, ← List.append_assoc] at hs
      obtain ⟨h1, _⟩ := List.append_inj' hs rfl
      obtain ⟨r1, r2, e1, h2, h3, h4⟩ := ih a b' h1
      exact ⟨r1, r2 ++ [x], e1, h2, by rw [← List.append_assoc, h3], h4⟩
  | @miss s r e x h ih =>
    intro a b hs
    rcases List.eq_nil_or_concat b with rfl | ⟨b', y, rfl⟩
    · obtain ⟨rfl, _⟩ := List.append_inj' hs rfl
      exact ⟨r, [], e, h, by simp, by omega⟩
    · rw [List.concat_eq_append, ← List.cons_append, ← List.append_assoc] at hs
      obtain ⟨h1, _⟩ := List.append_inj' hs rfl
      obtain ⟨r1, r2, e1, h2, h3, h4⟩ := ih a b' h1
      exact ⟨r1, r2, e1, h2, h3, by omega⟩
  | @split s r e h ih =>
    intro a b hs
    rcases List.eq_nil_or_concat b with rfl | ⟨b', y, rfl⟩
    · obtain ⟨_, h1⟩ := List.append_inj' hs rfl
      simp at h1
    · rw [List.concat_eq_append, ← List.cons_append, ← List.append_assoc] at hs
      obtain ⟨h1, _⟩ := List.append_inj' hs rfl
      obtain ⟨r1, r2, e1, h2, h3, h4⟩ := ih a b' h1
      exact ⟨r1, r2 ++ [46, 46], e1, h2, by rw [← List.append_assoc, h3], by omega⟩
  | @join s r e h ih =>
    intro a b hs
    rw [show s ++ [46, 46] = (s ++ [46]) ++ [46] by simp] at hs
    rcases List.eq_nil_or_concat b with rfl | ⟨b', y, rfl⟩
    · obtain ⟨_, h1⟩ := List.append_inj' hs rfl
      simp at h1
    · rw [List.concat_eq_append, ← List.cons_append, ← List.append_assoc] at hs
      obtain ⟨h1, _⟩ := List.append_inj' hs rfl
      rcases List.eq_nil_or_concat b' with rfl | ⟨b'', z, rfl⟩
      · obtain ⟨_, h2⟩ := List.append_inj' h1 rfl
        simp at h2
      · rw [List.concat_eq_append, ← List.cons_append, ← List.append_assoc] at h1
        obtain ⟨h1, _⟩ := List.append_inj' h1 rfl
        obtain ⟨r1, r2, e1, h2, h3, h4⟩ := ih a b'' h1
        exact ⟨r1, r2 ++ [45], e1, h2, by rw [← List.append_assoc, h3], by omega⟩
  | @gap s r e h ih =>
    intro a b hs
    obtain ⟨r1, r2, e1, h2, h3, h4⟩ := ih a b hs
    exact ⟨r1, r2 ++ [32], e1, h2, by rw [← List.append_assoc, h3], by omega⟩
/-- The signs of the rest of a text. -/
def sentF (SS : List (List UInt8)) : List Int → List Int → List UInt8
  | _, [] => []
  | pre, x :: xs => sgsOf pre (SS.getD x.toNat []) ++ sentF SS (pre ++ [x]) xs
theorem hope_of (L : List UInt8) (errs : Int) (r : Nat → Int) (k : Nat) (hk : k ≤ L.length) (h : r k ≤ errs) : hopeF L errs r = false := by
  unfold hopeF
  split
  · rfl
  · rw [Bool.not_eq_false', List.any_eq_true]
    exact ⟨r k, List.mem_map.2 ⟨k, List.mem_range.2 (by omega), rfl⟩, by simpa using h⟩
theorem hope_beg (L : List UInt8) (errs : Int) : hopeF L errs (begF L) = false := by
  unfold hopeF
  rw [if_pos (by unfold rowEq; rw [List.all_eq_true]; intro k _; simp)]
theorem sgF_first (L : List UInt8) (r b b' : Nat → Int) (l l' : UInt8) : sgF L r b l 32 = sgF L r b' l' 32 := by
  have h4 : ∀ k, sg4 L r b l 32 k = sg4 L r b' l' 32 k := fun k => by unfold sg4; simp
  funext k
  induction k with
  | zero => rw [sgF, sgF, sg5, sg5, h4]
  | succ k ih => rw [sgF, sgF, sg5, sg5, h4, ih]
/-- The row behind a letter: as if its signs stood behind all earlier ones. -/
theorem aft_next (L : List UInt8) (pre : List Int) (s S : List UInt8) (hp : pre = [] → S = []) : aftF L (sgsOf pre s) (rowSt L (st0 L) S).row (fun _ => 0) 32 = (rowSt L (st0 L) (S ++ sgsOf pre s)).row := by
  by_cases h : pre = []
  · rw [hp h, sgsOf, if_pos h]
    exact aftF_row L s (st0 L)
  · have e : rowSt L (st0 L) (S ++ 32 :: s) = rowSt L (stepSt L (rowSt L (st0 L) S) 32) s := by rw [rowSt, List.foldl_append, List.foldl_cons]; rfl
    rw [sgsOf, if_neg h, aftF, sgF_first L _ _ (rowSt L (st0 L) S).bef 32 (rowSt L (st0 L) S).last, e]
    exact aftF_row L s (stepSt L (rowSt L (st0 L) S) 32)
theorem sent_cons_ne (SS : List (List UInt8)) (pre : List Int) (x : Int) (xs : List Int) (h : pre ≠ []) : ∃ t, sentF SS pre (x :: xs) = 32 :: t := by
  rw [sentF, sgsOf, if_neg h]
  exact ⟨_, rfl⟩
theorem add_mem (L : List UInt8) (errs : Int) (SS : List (List UInt8)) (e : Nat) (he : (e : Int) ≤ errs) : ∀ (rest pre : List Int) (S : List UInt8), (pre = [] → S = []) → (∀ x ∈ rest, 0 ≤ x ∧ x < SS.length) → Der (S ++ sentF SS pre rest) L e →
    pre ++ rest ∈ addF L errs SS rest.length pre (rowSt L (st0 L) S).row
  | [], pre, S, hp, hx, hd => by
    rw [sentF, List.append_nil] at hd
    have h := der_row L hd [] (by simp)
    have h2 : (rowSt L (st0 L) S).row L.length ≤ errs := Int.le_trans h he
    rw [List.length_nil, addF, hope_of L errs _ L.length (Nat.le_refl _) h2, if_neg (by simp), if_pos h2]
    simp
  | x :: rest, pre, S, hp, hx, hd => by
    have hh : hopeF L errs (rowSt L (st0 L) S).row = false := by
      by_cases h : pre = []
      · rw [hp h]; exact hope_beg L errs
      · obtain ⟨t, ht⟩ := sent_cons_ne SS pre x rest h
        rw [ht] at hd
        obtain ⟨r1, r2, e1, h1, h2, h3⟩ := der_cut hd S t rfl
        have h4 := der_row L h1 r2 h2
        exact hope_of L errs _ r1.length (by rw [← h2]; simp) (by omega)
    obtain ⟨hx0, hx1⟩ := hx x (List.mem_cons_self ..)
    rw [List.length_cons, addF, hh, if_neg (by simp), List.mem_flatMap]
    refine ⟨x.toNat, List.mem_range.2 (by omega), ?_⟩
    rw [aft_next L pre _ S hp, show ((x.toNat : Nat) : Int) = x by omega]
    have := add_mem L errs SS e he rest (pre ++ [x]) (S ++ sgsOf pre (SS.getD x.toNat [])) (fun h => by simp at h) (fun y hy => hx y (List.mem_cons_of_mem _ hy)) (by rw [List.append_assoc]; rw [sentF] at hd; exact hd)
    rw [List.append_assoc] at this
    exact this
theorem texts_mem (L : List UInt8) (errs : Int) (SS : List (List UInt8)) (e : Nat) (he : (e : Int) ≤ errs) (text : List Int) (hx : ∀ x ∈ text, 0 ≤ x ∧ x < SS.length) (hd : Der (sentF SS [] text) L e) (n : Nat) (hn : text.length < n) : text ∈ TextsF L errs SS n :=
  List.mem_flatMap.2 ⟨text.length, List.mem_range.2 hn, add_mem L errs SS e he text [] [] (fun _ => rfl) hx (by simpa using hd)⟩
theorem add_lens (L : List UInt8) (errs : Int) (SS : List (List UInt8)) : ∀ (m : Nat) (pre : List Int) (r : Nat → Int), ∀ t ∈ addF L errs SS m pre r, t.length = pre.length + m
  | 0, pre, r, t, ht => by
    rw [addF] at ht
    split at ht
    · cases ht
    · split at ht
      · simp at ht; rw [ht]; rfl
      · cases ht
  | m + 1, pre, r, t, ht => by
    rw [addF] at ht
    split at ht
    · cases ht
    · obtain ⟨i, _, hi⟩ := List.mem_flatMap.1 ht
      have := add_lens L errs SS m _ _ t hi
      rw [List.length_append] at this
      simp at this
      omega
theorem texts_lens (L : List UInt8) (errs : Int) (SS : List (List UInt8)) (n : Nat) : ∀ t ∈ TextsF L errs SS n, t.length < n := fun t ht => by
  obtain ⟨m, hm, h⟩ := List.mem_flatMap.1 ht
  have := add_lens L errs SS m [] _ t h
  have := List.mem_range.1 hm
  simp at *
  omega
theorem worded_texts : TextsF [45, 32, 46] 0 [[46], [45]] 3 = [[1, 0]] := by decide +kernel
end Go.Proofs.Ytnofcpihkglmmaa
