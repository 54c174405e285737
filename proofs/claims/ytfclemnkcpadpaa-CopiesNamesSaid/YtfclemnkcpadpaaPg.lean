/- copies, plain: the smallest set is the least of all that are tried -/
import Derived.Test.YtfclemnkcpadpaaKz
namespace Go.Proofs.Ytfclemnkcpadpaa
set_option linter.unusedVariables false
set_option linter.unusedSimpArgs false
set_option linter.unnecessarySimpa false
open Go.RowKit Go.Flow Go.Shelf

/-- Less. -/
def lexB : List Int → List Int → Bool
  | [], _ => false
  | _ :: _, [] => false
  | a :: us, b :: vs => if a = b then lexB us vs else decide (a < b)
def lessB (a b : List Int) : Bool := if a.length = b.length then lexB a b else decide (a.length < b.length)
/-- Explained. -/
def explB (p : Post) (l : List Ent) : Bool := (searchF p l).isSome
/-- What is left out, and kept, by a list of choices from an index on. -/
def chOut : List Bool → Nat → List Int
  | [], _ => []
  | true :: t, i => (i : Int) :: chOut t (i + 1)
  | false :: t, i => chOut t (i + 1)
def chKeep (l : List Ent) : List Bool → Nat → List Ent
  | [], _ => []
  | true :: t, i => chKeep l t (i + 1)
  | false :: t, i => l.getD i ⟨0, 0, false⟩ :: chKeep l t (i + 1)
theorem chOut_snoc (c : Bool) : ∀ (t : List Bool) (i : Nat), chOut (t ++ [c]) i = chOut t i ++ if c then [((i + t.length : Nat) : Int)] else []
  | [], i => by cases c <;> simp [chOut]
  | true :: t, i => by
    simp only [List.cons_append, chOut, chOut_snoc c t (i + 1), List.length_cons]
    rw [show i + 1 + t.length = i + (t.length + 1) by omega]
  | false :: t, i => by
    simp only [List.cons_append, chOut, chOut_snoc c t (i + 1), List.length_cons]
    rw [show i + 1 + t.length = i + (t.length + 1) by omega]
theorem chKeep_snoc (l : List Ent) (c : Bool) : ∀ (t : List Bool) (i : Nat), chKeep l (t ++ [c]) i = chKeep l t i ++ if c then [] else [l.getD (i + t.length) ⟨0, 0, false⟩]
  | [], i => by cases c <;> simp [chKeep]
  | true :: t, i => by
    simp only [List.cons_append, chKeep, chKeep_snoc l c t (i + 1), List.length_cons]
    rw [show i + 1 + t.length = i + (t.length + 1) by omega]
  | false :: t, i => by
    simp only [List.cons_append, chKeep, chKeep_snoc l c t (i + 1), List.length_cons]
    rw [show i + 1 + t.length = i + (t.length + 1) by omega]
theorem chOut_ge : ∀ (t : List Bool) (i : Nat), ∀ x ∈ chOut t i, (i : Int) ≤ x
  | [], i, x, h => by cases h
  | true :: t, i, x, h => by
    simp only [chOut, List.mem_cons] at h
    rcases h with rfl | h
    · omega
    · have := chOut_ge t (i + 1) x h; omega
  | false :: t, i, x, h => by
    have := chOut_ge t (i + 1) x h; omega
theorem chOut_len : ∀ (t : List Bool) (i : Nat), (chOut t i).length ≤ t.length
  | [], i => Nat.le_refl _
  | true :: t, i => by have := chOut_len t (i + 1); simp only [chOut, List.length_cons]; omega
  | false :: t, i => by have := chOut_len t (i + 1); simp only [chOut, List.length_cons]; omega
theorem chKeep_len (l : List Ent) : ∀ (t : List Bool) (i : Nat), (chKeep l t i).length ≤ t.length
  | [], i => Nat.le_refl _
  | true :: t, i => by have := chKeep_len l t (i + 1); simp only [chKeep, List.length_cons]; omega
  | false :: t, i => by have := chKeep_len l t (i + 1); simp only [chKeep, List.length_cons]; omega
theorem lexB_head {a b : Int} {us vs : List Int} (h : b < a) : lexB (a :: us) (b :: vs) = false := by
  rw [lexB, if_neg (by omega)]; simp; omega
theorem lexB_same (a : Int) (us vs : List Int) : lexB (a :: us) (a :: vs) = lexB us vs := by rw [lexB, if_pos rfl]
theorem leaveR_spec {p : Post} {l : List Ent} : ∀ (r i : Nat) (out : List Int) (kept : List Ent) (m : Nat),
    (∀ z, leaveR p l r i out kept m = some z → ∃ cs : List Bool, cs.length = r ∧ z = out ++ chOut cs i ∧ (chOut cs i).length = m ∧ explB p (kept ++ chKeep l cs i) = true ∧
      ∀ cs' : List Bool, cs'.length = r → (chOut cs' i).length = m → explB p (kept ++ chKeep l cs' i) = true → lexB (chOut cs' i) (chOut cs i) = false) ∧
    (leaveR p l r i out kept m = none → ∀ cs' : List Bool, cs'.length = r → (chOut cs' i).length = m → explB p (kept ++ chKeep l cs' i) = false)
  | 0, i, out, kept, m => by
    rw [leaveR]
    refine ⟨fun z hz => ?_, fun hz cs' hc hm => ?_⟩
    · split at hz
      · cases hz
      · split at hz
        · rename_i h1 h2
          cases hz
          exact ⟨[], rfl, by simp [chOut], by simp [chOut]; omega, by simpa [chKeep, explB] using h2, fun cs' hc _ _ => by
            obtain rfl := List.length_eq_zero_iff.1 hc; rfl⟩
        · cases hz
    · obtain rfl := List.length_eq_zero_iff.1 hc
      simp only [chOut, List.length_nil] at hm
      subst hm
      rw [if_neg (by omega)] at hz
      split at hz
      · cases hz
      · rename_i h2
        simpa [chKeep, explB] using h2
  | r + 1, i, out, kept, m => by
    have ih1 := leaveR_spec (p := p) (l := l) r (i + 1) (out ++ [(i : Int)]) kept (m - 1)
    have ih2 := leaveR_spec (p := p) (l := l) r (i + 1) out (kept ++ [l.getD i ⟨0, 0, false⟩]) m
    rw [leaveR]
    by_cases hrm : r + 1 < m
    · rw [if_pos hrm]
      refine ⟨(fun z hz => by cases hz), fun _ cs' hc hm => ?_⟩
      have := chOut_len cs' i
      omega
    · rw [if_neg hrm]
      obtain ⟨A, hA⟩ : ∃ A, (if 0 < m then leaveR p l r (i + 1) (out ++ [(i : Int)]) kept (m - 1) else none) = A := ⟨_, rfl⟩
      rw [hA]
      cases A with
      | some z0 =>
        refine ⟨fun z hz => ?_, (fun hz => by cases hz)⟩
        have hz' : some z0 = some z := hz
        cases hz'
        have h0m : 0 < m := by
          rcases Nat.eq_zero_or_pos m with e | e
          · rw [if_neg (by omega)] at hA; cases hA
          · exact e
        rw [if_pos h0m] at hA
        obtain ⟨cs, h1, h2, h3, h4, h5⟩ := ih1.1 _ hA
        refine ⟨true :: cs, by simp [h1], by rw [h2, chOut, List.append_assoc]; rfl, by simp [chOut]; omega, h4, ?_⟩
        intro cs' hc hm he
        match cs', hc with
        | true :: t, hc =>
          simp only [chOut, List.length_cons] at hm ⊢
          rw [lexB_same]
          exact h5 t (by simpa using hc) (by omega) he
        | false :: t, hc =>
          simp only [chOut] at hm ⊢
          obtain ⟨a, us, e⟩ : ∃ a us, chOut t (i + 1) = a :: us := by
            cases hq : chOut t (i + 1) with
            | nil => rw [hq] at hm; simp at hm; omega
            | cons a us => exact ⟨a, us, rfl⟩
          have := chOut_ge t (i + 1) a (by rw [e]; simp)
          rw [e]
          exact lexB_head (by omega)
      | none =>
        have hN : ∀ t : List Bool, t.length = r → (chOut t (i + 1)).length + 1 = m → explB p (kept ++ chKeep l t (i + 1)) = false := by
          intro t ht hm
          rw [if_pos (by omega)] at hA
          exact ih1.2 hA t ht (by omega)
        refine ⟨fun z hz => ?_, fun hz cs' hc hm => ?_⟩
        · obtain ⟨cs, h1, h2, h3, h4, h5⟩ := ih2.1 z hz
          refine ⟨false :: cs, by simp [h1], by rw [h2]; rfl, h3, by rw [List.append_assoc] at h4; exact h4, ?_⟩
          intro cs' hc hm he
          match cs', hc with
          | true :: t, hc =>
            have := hN t (by simpa using hc) (by simpa [chOut] using hm)
            rw [show chKeep l (true :: t) i = chKeep l t (i + 1) from rfl, this] at he
            cases he
          | false :: t, hc => exact h5 t (by simpa using hc) hm (by rw [List.append_assoc]; exact he)
        · match cs', hc with
          | true :: t, hc => exact hN t (by simpa using hc) (by simpa [chOut] using hm)
          | false :: t, hc =>
            have := ih2.2 hz t (by simpa using hc) hm
            rw [List.append_assoc] at this
            exact this
theorem findSome_first {α : Type} {f : Nat → Option α} {z : α} : ∀ n, (List.range n).findSome? f = some z → ∃ k, k < n ∧ f k = some z ∧ ∀ j, j < k → f j = none
  | 0, h => by cases h
  | n + 1, h => by
    rw [List.range_succ, List.findSome?_append] at h
    cases hq : (List.range n).findSome? f with
    | some y =>
      rw [hq] at h
      obtain ⟨k, h1, h2, h3⟩ := findSome_first (z := y) n hq
      have e : y = z := by simpa using h
      exact ⟨k, by omega, by rw [← e]; exact h2, h3⟩
    | none =>
      rw [hq] at h
      refine ⟨n, by omega, ?_, fun j hj => ?_⟩
      · simpa using h
      · exact List.findSome?_eq_none_iff.1 hq j (List.mem_range.2 hj)
theorem lessB_false_of_len {a b : List Int} (h : b.length < a.length) : lessB a b = false := by
  unfold lessB; rw [if_neg (by omega)]; simp; omega
theorem lessB_of_lex {a b : List Int} (h : a.length = b.length) : lessB a b = lexB a b := by unfold lessB; rw [if_pos h]
theorem oddF_spec {p : Post} {l : List Ent} (h0 : postErr p = 0) : ∃ cs : List Bool, cs.length = l.length ∧ oddF p l = chOut cs 0 ∧ explB p (chKeep l cs 0) = true ∧
    ∀ cs' : List Bool, cs'.length = l.length → explB p (chKeep l cs' 0) = true → lessB (chOut cs' 0) (oddF p l) = false := by
  cases hq : (List.range (l.length + 1)).findSome? (oddM p l) with
  | none =>
    have := List.findSome?_eq_none_iff.1 hq l.length (List.mem_range.2 (by omega))
    exact absurd this (leaveR_all h0 l l.length 0 [])
  | some z =>
    have e : oddF p l = z := by unfold oddF; rw [hq]; rfl
    obtain ⟨k, h1, h2, h3⟩ := findSome_first _ hq
    obtain ⟨cs, c1, c2, c3, c4, c5⟩ := (leaveR_spec l.length 0 [] [] k).1 z h2
    rw [List.nil_append] at c2 c4
    rw [e, c2]
    refine ⟨cs, c1, rfl, c4, fun cs' hc he => ?_⟩
    rcases Nat.lt_trichotomy (chOut cs' 0).length k with hlt | heq | hgt
    · have := (leaveR_spec l.length 0 [] [] _).2 (h3 _ hlt) cs' hc rfl
      rw [List.nil_append, he] at this
      cases this
    · rw [lessB_of_lex (by rw [heq, c3])]
      exact c5 cs' hc heq he
    · exact lessB_false_of_len (by rw [c3]; exact hgt)
theorem lexB_trans : ∀ {a b c : List Int}, a.length = b.length → b.length = c.length → lexB a b = true → lexB b c = true → lexB a c = true
  | [], _, _, _, _, h, _ => by cases h
  | x :: xs, y :: ys, z :: zs, h1, h2, h3, h4 => by
    simp only [List.length_cons, Nat.succ.injEq] at h1 h2
    unfold lexB at h3 h4 ⊢
    by_cases e1 : x = y
    · subst e1
      rw [if_pos rfl] at h3
      by_cases e2 : x = z
      · subst e2
        rw [if_pos rfl] at h4 ⊢
        exact lexB_trans (by omega) (by omega) h3 h4
      · rw [if_neg e2] at h4 ⊢; exact h4
    · rw [if_neg e1] at h3
      have h3' := of_decide_eq_true h3
      by_cases e2 : y = z
      · subst e2
        rw [if_neg e1]; exact h3
      · rw [if_neg e2] at h4
        have h4' := of_decide_eq_true h4
        rw [if_neg (by omega)]
        exact decide_eq_true (by omega)
  | _ :: _, [], _, h1, _, _, _ => by simp at h1
  | _ :: _, _ :: _, [], _, h2, _, _ => by simp at h2
theorem lexB_total : ∀ {a b : List Int}, a.length = b.length → lexB a b = false → lexB b a = false → a = b
  | [], [], _, _, _ => rfl
  | x :: xs, y :: ys, h1, h2, h3 => by
    simp only [List.length_cons, Nat.succ.injEq] at h1
    unfold lexB at h2 h3
    by_cases e : x = y
    · subst e
      rw [if_pos rfl] at h2 h3
      rw [lexB_total (by omega) h2 h3]
    · rw [if_neg e] at h2
      rw [if_neg (Ne.symm e)] at h3
      have := of_decide_eq_false h2
      have := of_decide_eq_false h3
      omega
  | [], _ :: _, h, _, _ => by simp at h
  | _ :: _, [], h, _, _ => by simp at h
theorem lexB_irr : ∀ (a : List Int), lexB a a = false
  | [] => rfl
  | x :: xs => by rw [lexB_same]; exact lexB_irr xs
theorem lessB_trans {a b c : List Int} (h1 : lessB a b = true) (h2 : lessB b c = true) : lessB a c = true := by
  unfold lessB at h1 h2 ⊢
  split at h1 <;> split at h2
  · rw [if_pos (by omega)]; exact lexB_trans (by assumption) (by assumption) h1 h2
  · rename_i e1 e2
    have := of_decide_eq_true h2
    rw [if_neg (by omega)]; exact decide_eq_true (by omega)
  · have := of_decide_eq_true h1
    rw [if_neg (by omega)]; exact decide_eq_true (by omega)
  · have := of_decide_eq_true h1
    have := of_decide_eq_true h2
    rw [if_neg (by omega)]; exact decide_eq_true (by omega)
theorem lessB_total {a b : List Int} (h1 : lessB a b = false) (h2 : lessB b a = false) : a = b := by
  unfold lessB at h1 h2
  split at h1
  · rename_i e
    rw [if_pos e.symm] at h2
    exact lexB_total e h1 h2
  · rename_i e
    rw [if_neg (Ne.symm e)] at h2
    have := of_decide_eq_false h1
    have := of_decide_eq_false h2
    omega
/-- The choices that a number's bits are. -/
def bitsL (b n : Nat) : List Bool := (List.range n).map b.testBit
theorem bitsL_len (b n : Nat) : (bitsL b n).length = n := by simp [bitsL]
theorem bitsL_succ (b n : Nat) : bitsL b (n + 1) = bitsL b n ++ [b.testBit n] := by simp [bitsL, List.range_succ]
theorem bitsL_of : ∀ (cs : List Bool), ∃ b, b < 2 ^ cs.length ∧ bitsL b cs.length = cs
  | [] => ⟨0, by simp, rfl⟩
  | c :: t => by
    obtain ⟨b, h1, h2⟩ := bitsL_of t
    refine ⟨2 * b + c.toNat, ?_, ?_⟩
    · rw [List.length_cons, Nat.pow_succ]; cases c <;> simp <;> omega
    · unfold bitsL at h2 ⊢
      rw [List.length_cons, List.range_succ_eq_map, List.map_cons, List.map_map]
      congr 1
      · rw [Nat.testBit_zero]; cases c <;> simp <;> omega
      · refine Eq.trans ?_ h2
        apply List.map_congr_left
        intro i _
        simp only [Function.comp]
        rw [Nat.testBit_succ]
        congr 1
        cases c <;> simp <;> omega
def outB (b n : Nat) : List Int := chOut (bitsL b n) 0
def keepB (l : List Ent) (b n : Nat) : List Ent := chKeep l (bitsL b n) 0
theorem outB_succ (b n : Nat) : outB b (n + 1) = outB b n ++ if b.testBit n then [(n : Int)] else [] := by
  unfold outB; rw [bitsL_succ, chOut_snoc, bitsL_len, Nat.zero_add]
theorem keepB_succ (l : List Ent) (b n : Nat) : keepB l b (n + 1) = keepB l b n ++ if b.testBit n then [] else [l.getD n ⟨0, 0, false⟩] := by
  unfold keepB; rw [bitsL_succ, chKeep_snoc, bitsL_len, Nat.zero_add]
theorem outB_len (b n : Nat) : (outB b n).length ≤ n := by have := chOut_len (bitsL b n) 0; rw [bitsL_len] at this; exact this
theorem keepB_len (l : List Ent) (b n : Nat) : (keepB l b n).length ≤ n := by have := chKeep_len l (bitsL b n) 0; rw [bitsL_len] at this; exact this
/-- The best of the sets that are tried before one. -/
def tryF (p : Post) (l : List Ent) : Nat → List Int
  | 0 => outB (2 ^ l.length - 1) l.length
  | b + 1 => if lessB (outB b l.length) (tryF p l b) && explB p (keepB l b l.length) then outB b l.length else tryF p l b
theorem chKeep_all (l : List Ent) : ∀ (n i : Nat), chKeep l (List.replicate n true) i = []
  | 0, i => rfl
  | n + 1, i => by rw [List.replicate_succ]; exact chKeep_all l n (i + 1)
theorem keepB_all (l : List Ent) (n : Nat) : keepB l (2 ^ n - 1) n = [] := by
  unfold keepB
  have : bitsL (2 ^ n - 1) n = List.replicate n true := by
    unfold bitsL
    rw [List.eq_replicate_iff]
    refine ⟨by simp, fun b hb => ?_⟩
    obtain ⟨i, hi, rfl⟩ := List.mem_map.1 hb
    rw [Nat.testBit_two_pow_sub_one]
    exact decide_eq_true (List.mem_range.1 hi)
  rw [this, chKeep_all]
theorem tryF_spec {p : Post} (h0 : postErr p = 0) (l : List Ent) : ∀ k, k ≤ 2 ^ l.length → (∃ b, b < 2 ^ l.length ∧ tryF p l k = outB b l.length ∧ explB p (keepB l b l.length) = true) ∧ ∀ b, b < k → explB p (keepB l b l.length) = true → lessB (outB b l.length) (tryF p l k) = false
  | 0, _ => ⟨⟨2 ^ l.length - 1, by have := Nat.two_pow_pos l.length; omega, rfl, by rw [keepB_all]; exact searchF_nil h0⟩, fun b hb => by omega⟩
  | k + 1, hk => by
    obtain ⟨⟨b0, h1, h2, h3⟩, h4⟩ := tryF_spec h0 l k (by omega)
    rw [tryF]
    by_cases hc : (lessB (outB k l.length) (tryF p l k) && explB p (keepB l k l.length)) = true
    · rw [if_pos hc]
      rw [Bool.and_eq_true] at hc
      refine ⟨⟨k, by omega, rfl, hc.2⟩, fun b hb he => ?_⟩
      rcases Nat.lt_or_eq_of_le (Nat.lt_succ_iff.1 hb) with hb | rfl
      · cases hx : lessB (outB b l.length) (outB k l.length)
        · rfl
        · have := h4 b hb he
          rw [lessB_trans hx hc.1] at this
          cases this
      · cases hx : lessB (outB b l.length) (outB b l.length)
        · rfl
        · have : lexB (outB b l.length) (outB b l.length) = true := by rw [← lessB_of_lex rfl]; exact hx
          exact absurd this (by rw [lexB_irr]; simp)
    · rw [if_neg hc]
      refine ⟨⟨b0, h1, h2, h3⟩, fun b hb he => ?_⟩
      rcases Nat.lt_or_eq_of_le (Nat.lt_succ_iff.1 hb) with hb | rfl
      · exact h4 b hb he
      · rw [he, Bool.and_true] at hc
        simpa using hc
/-- What is tried is the smallest set. -/
theorem tryF_odd {p : Post} (h0 : postErr p = 0) (l : List Ent) : tryF p l (2 ^ l.length) = oddF p l := by
  obtain ⟨⟨b, h1, h2, h3⟩, h4⟩ := tryF_spec h0 l _ (Nat.le_refl _)
  obtain ⟨cs, c1, c2, c3, c4⟩ := oddF_spec (l := l) h0
  obtain ⟨b', e1, e2⟩ := bitsL_of cs
  rw [c1] at e1 e2
  refine lessB_total ?_ ?_
  · rw [h2]; exact c4 (bitsL b l.length) (bitsL_len _ _) h3
  · have := h4 b' e1 (by unfold keepB; rw [e2]; exact c3)
    unfold outB at this
    rw [e2, ← c2] at this
    exact this
end Go.Proofs.Ytfclemnkcpadpaa
