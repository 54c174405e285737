/-
  A region that draws its order, walked once in the order of the text: its first operations yield the same values in every world of a class and stay in the class, the last operations wait for all before them.
  Conditions: the Bool 'okB' over the region's own edges.
-/
import Derived.Deep.Quiet
import Derived.StillTail
import Derived.WalkKit
namespace Go.Flow
set_option linter.unusedVariables false
set_option linter.unusedSimpArgs false
set_option linter.unnecessarySimpa false
open Go.RowKit

section
variable {P : Program} {ops : Array Oper}

def Closed (ops : Array Oper) (L : Nat → Bool) : Prop :=
  ∀ j o, ops[j]? = some o → L j = true → ∀ e ∈ o.after, Region.binds .any e = true → L e.on = true

def Pred (ops : Array Oper) (i j : Nat) : Prop :=
  ∀ L : Nat → Bool, Closed ops L → (∀ o, ops[j]? = some o → ∀ e ∈ o.after, Region.binds .any e = true → L e.on = true) → L i = true

def bitsOf (acc : Array Nat) (s : Nat) : List Edge → Nat
  | [] => s
  | e :: l => bitsOf acc (if Region.binds .any e then s ||| 2 ^ e.on ||| acc.getD e.on 0 else s) l

theorem bitsOf_spec (acc : Array Nat) (i : Nat) : ∀ (l : List Edge) (s : Nat), (bitsOf acc s l).testBit i = true →
    s.testBit i = true ∨ ∃ e ∈ l, Region.binds .any e = true ∧ (e.on = i ∨ (acc.getD e.on 0).testBit i = true)
  | [], _, h => .inl h
  | e :: l, s, h => by
    rcases bitsOf_spec acc i l _ h with h1 | ⟨e', he', hb, h2⟩
    · by_cases hb : Region.binds .any e = true
      · rw [if_pos hb] at h1
        simp only [Nat.testBit_or, Bool.or_eq_true, Nat.testBit_two_pow, decide_eq_true_eq] at h1
        rcases h1 with (h1 | h1) | h1
        · exact .inl h1
        · exact .inr ⟨e, List.mem_cons_self .., hb, .inl h1⟩
        · exact .inr ⟨e, List.mem_cons_self .., hb, .inr h1⟩
      · rw [if_neg hb] at h1
        exact .inl h1
    · exact .inr ⟨e', List.mem_cons_of_mem _ he', hb, h2⟩

def predsL (acc : Array Nat) : List Oper → Array Nat
  | [] => acc
  | o :: l => predsL (acc.push (bitsOf acc 0 o.after.toList)) l

theorem predsL_spec : ∀ (l : List Oper) (acc : Array Nat), (∀ j, l[j]? = ops[acc.size + j]?) →
    (∀ j i, (acc.getD j 0).testBit i = true → Pred ops i j) → ∀ j i, ((predsL acc l).getD j 0).testBit i = true → Pred ops i j
  | [], _, _, h => h
  | o :: l, acc, hl, h => by
    refine predsL_spec l _ (fun j => by have := hl (j + 1); simpa [Nat.add_assoc, Nat.add_comm 1 j] using this) ?_
    intro j i hj
    have ho : ops[acc.size]? = some o := by simpa using (hl 0).symm
    by_cases hlt : j < acc.size
    · refine h j i ?_
      have e1 : (acc.push (bitsOf acc 0 o.after.toList)).getD j 0 = acc.getD j 0 := by
        simp only [Array.getD_eq_getD_getElem?, Array.getElem?_push, if_neg (show ¬ j = acc.size by omega)]
      rwa [e1] at hj
    · by_cases heq : j = acc.size
      · subst heq
        have e1 : (acc.push (bitsOf acc 0 o.after.toList)).getD acc.size 0 = bitsOf acc 0 o.after.toList := by
          simp only [Array.getD_eq_getD_getElem?, Array.getElem?_push, if_pos, Option.getD_some]
        rw [e1] at hj
        intro L hL hd
        rcases bitsOf_spec acc i _ _ hj with h0 | ⟨e, he, hb, h1⟩
        · simp at h0
        · have he' : e ∈ o.after := by simpa using he
          have hon : L e.on = true := hd o ho e he' hb
          rcases h1 with h1 | h1
          · rw [← h1]; exact hon
          · exact h e.on i h1 L hL (fun o' ho' e' he'' hb' => hL e.on o' ho' hon e' he'' hb')
      · have e1 : (acc.push (bitsOf acc 0 o.after.toList)).getD j 0 = 0 := by
          rw [Array.getD_eq_getD_getElem?, Array.getElem?_eq_none (by simp; omega)]; rfl
        rw [e1] at hj
        simp at hj

def preds (ops : Array Oper) : Array Nat := predsL #[] ops.toList

theorem preds_spec {i j : Nat} (h : ((preds ops).getD j 0).testBit i = true) : Pred ops i j :=
  predsL_spec ops.toList #[] (by simp) (fun j i h => by simp at h) j i h

/-- the slots of an operation -/
def names (ops : Array Oper) (o : Oper) : List Tmp := o.dst.toList ++ o.looksAt ops

def clash (ops : Array Oper) (x y : Oper) : Bool :=
  (match x.dst with | some d => (names ops y).contains d | none => false) || (match y.dst with | some d => (names ops x).contains d | none => false)

theorem clash_left {x y : Oper} {d : Tmp} (hx : x.dst = some d) (hy : d ∈ names ops y) : clash ops x y = true := by
  simp [clash, hx, hy]
theorem clash_right {x y : Oper} {d : Tmp} (hx : y.dst = some d) (hy : d ∈ names ops x) : clash ops x y = true := by
  simp [clash, hx, hy]

def nthB (f : Nat → Oper → Bool) : Nat → List Oper → Bool
  | _, [] => true
  | k, o :: l => f k o && nthB f (k + 1) l
theorem nthB_spec {f : Nat → Oper → Bool} : ∀ (l : List Oper) (k : Nat), nthB f k l = true → ∀ j o, l[j]? = some o → f (k + j) o = true
  | [], _, _, j, o, h => by simp at h
  | o' :: l, k, h, j, o, hj => by
    simp only [nthB, Bool.and_eq_true] at h
    cases j with
    | zero => simp at hj; subst hj; exact h.1
    | succ j => have := nthB_spec l (k + 1) h.2 j o (by simpa using hj); rwa [show k + 1 + j = k + (j + 1) by omega] at this

/-- The region's own Bool: edges go back; no select; two operations of the head that share a slot are ordered; the tail is one chain behind all of the head. -/
def okB (ops : Array Oper) (n : Nat) : Bool :=
  let b := preds ops
  Region.noSelect ops && decide (n ≤ ops.size) &&
  nthB (fun j o => o.after.all fun e => !Region.binds .any e || decide (e.on < j)) 0 ops.toList &&
  nthB (fun j o => decide (n ≤ j) || nthB (fun i o' => decide (j ≤ i) || !clash ops o' o || (b.getD j 0).testBit i) 0 ops.toList) 0 ops.toList &&
  nthB (fun j _ => decide (j < n) || (List.range j).all fun i => (b.getD j 0).testBit i) 0 ops.toList &&
  Region.seqB .any ops (ops.size - n) n (Array.replicate n true ++ Array.replicate (ops.size - n) false)

structure Ok (ops : Array Oper) (n : Nat) : Prop where
  noSel : Region.noSelect ops = true
  le : n ≤ ops.size
  back : ∀ j o, ops[j]? = some o → ∀ e ∈ o.after, Region.binds .any e = true → e.on < j
  apart : ∀ i j oi oj, j < n → i < j → ops[i]? = some oi → ops[j]? = some oj → clash ops oi oj = true → Pred ops i j
  tail : ∀ i j oj, n ≤ j → i < j → ops[j]? = some oj → Pred ops i j
  seq : Region.seqB .any ops (ops.size - n) n (Array.replicate n true ++ Array.replicate (ops.size - n) false) = true

theorem ok_of {n : Nat} (h : okB ops n = true) : Ok ops n := by
  simp only [okB, Bool.and_eq_true, decide_eq_true_eq] at h
  obtain ⟨⟨⟨⟨⟨h1, h2⟩, h3⟩, h4⟩, h5⟩, h6⟩ := h
  refine ⟨h1, h2, ?_, ?_, ?_, h6⟩
  · intro j o ho e he hb
    have := nthB_spec _ _ h3 j o (by simpa using ho)
    rw [Array.all_eq_true_iff_forall_mem] at this
    have := this e he
    simp [hb] at this
    exact this
  · intro i j oi oj hj hij hi hoj hc
    have := nthB_spec _ _ h4 j oj (by simpa using hoj)
    simp only [Nat.zero_add, Bool.or_eq_true, decide_eq_true_eq] at this
    have := this.resolve_left (by omega)
    have := nthB_spec _ _ this i oi (by simpa using hi)
    simp only [Nat.zero_add, Bool.or_eq_true, decide_eq_true_eq, Bool.not_eq_true', hc] at this
    rcases this with (h | h) | h
    · omega
    · cases h
    · exact preds_spec h
  · intro i j oj hj hij hoj
    have := nthB_spec _ _ h5 j oj (by simpa using hoj)
    simp only [Nat.zero_add, Bool.or_eq_true, decide_eq_true_eq, List.all_eq_true, List.mem_range] at this
    exact preds_spec (this.resolve_left (by omega) i hij)
end

/-! ### Counting -/
def left (L : Nat → Bool) : Nat → Nat
  | 0 => 0
  | n + 1 => left L n + if L n then 0 else 1

theorem left_set (L L' : Nat → Bool) (i : Nat) (hi : L i = false) (hi' : L' i = true) (ho : ∀ j, j ≠ i → L' j = L j) : ∀ n, left L n = left L' n + if i < n then 1 else 0
  | 0 => by simp [left]
  | n + 1 => by
    have ih := left_set L L' i hi hi' ho n
    simp only [left, ih]
    by_cases h : n = i
    · subst h; simp [hi, hi']
    · rw [ho n h]
      by_cases h2 : i < n
      · rw [if_pos h2, if_pos (show i < n + 1 by omega)]; omega
      · rw [if_neg h2, if_neg (show ¬ i < n + 1 by omega)]; omega

theorem left_zero (L : Nat → Bool) : ∀ n, left L n = 0 → ∀ i, i < n → L i = true
  | 0, _, i, h => by omega
  | n + 1, h, i, hi => by
    simp only [left] at h
    by_cases e : i = n
    · subst e
      cases hl : L i
      · rw [hl] at h; simp at h
      · rfl
    · exact left_zero L n (by omega) i (by omega)

theorem left_least (L : Nat → Bool) : ∀ n, left L n ≠ 0 → ∃ i, i < n ∧ L i = false ∧ ∀ j, j < i → L j = true
  | 0, h => by simp [left] at h
  | n + 1, h => by
    by_cases h0 : left L n = 0
    · refine ⟨n, by omega, ?_, fun j hj => left_zero L n h0 j hj⟩
      cases hl : L n
      · rfl
      · simp [left, h0, hl] at h
    · obtain ⟨i, hi, h1, h2⟩ := left_least L n h0
      exact ⟨i, by omega, h1, h2⟩

theorem left_all (n : Nat) : left (fun _ => false) n = n := by
  induction n with
  | zero => rfl
  | succ n ih => simp [left, ih]

section
variable {P : Program} {ops : Array Oper} {C : World → Prop} {le : World → World → Prop} {T : Nat → Value → World → Prop} {n : Nat} {a0 : Act} {Q : Exit → Act → World → Prop}

theorem wp_imp {o : Oper} {a : Act} {w : World} {K K' : Act → World → Prop} (hk : ∀ a w, K a w → K' a w) (h : o.wp P a w K (fun _ _ _ => False)) : o.wp P a w K' Q := by
  unfold Oper.wp at *
  generalize (execOp a.eval o).run P w = r at *
  cases r with
  | ok x w' =>
    cases x <;> simp only [Oper.upon] at h ⊢ <;>
      first
        | exact hk _ _ h
        | exact Calls.mono h (fun e w'' he => by cases e <;> first | exact hk _ _ he | exact he.elim | exact (let ⟨_, _, hf⟩ := he; hf.elim))
        | exact Rows.mono h (fun _ _ he => hk _ _ he)
  | halt x w' => cases x <;> simp only [Oper.upon] at h ⊢

/-- What slot t holds once the operations that L tells of have come up. -/
def SlotOf (ops : Array Oper) (n : Nat) (T : Nat → Value → World → Prop) (a0 : Act) (L : Nat → Bool) (t : Tmp) (v : Value) (w : World) : Prop :=
  (∃ j oj, j < n ∧ L j = true ∧ ops[j]? = some oj ∧ oj.dst = some t ∧ (∀ k ok, k < n → L k = true → ops[k]? = some ok → ok.dst = some t → k ≤ j) ∧ T j v w) ∨
  ((∀ k ok, k < n → L k = true → ops[k]? = some ok → ok.dst ≠ some t) ∧ v = a0.tmps.getD t undef)

theorem SlotOf.congr {L L' : Nat → Bool} {t : Tmp} {v : Value} {w : World} (h : SlotOf ops n T a0 L t v w)
    (he : ∀ k ok, k < n → ops[k]? = some ok → ok.dst = some t → L' k = L k) : SlotOf ops n T a0 L' t v w := by
  rcases h with ⟨j, oj, hj, hl, ho, hd, hm, hT⟩ | ⟨h1, h2⟩
  · exact .inl ⟨j, oj, hj, (he j oj hj ho hd).trans hl, ho, hd, fun k ok hk hlk hok hdk => hm k ok hk ((he k ok hk hok hdk).symm.trans hlk) hok hdk, hT⟩
  · refine .inr ⟨fun k ok hk hlk hok hdk => ?_, h2⟩
    exact h1 k ok hk ((he k ok hk hok hdk).symm.trans hlk) hok hdk

theorem SlotOf.mono {L : Nat → Bool} {t : Tmp} {v : Value} {w w' : World} (hT : ∀ i v w w', T i v w → le w w' → T i v w') (h : SlotOf ops n T a0 L t v w) (hle : le w w') : SlotOf ops n T a0 L t v w' := by
  rcases h with ⟨j, oj, hj, hl, ho, hd, hm, hv⟩ | h
  · exact .inl ⟨j, oj, hj, hl, ho, hd, hm, hT _ _ _ _ hv hle⟩
  · exact .inr h

structure Inv (ops : Array Oper) (C : World → Prop) (T : Nat → Value → World → Prop) (n : Nat) (a0 : Act) (listed : Array Bool) (a : Act) (w : World) : Prop where
  size : listed.size = ops.size
  closed : Closed ops (fun i => listed.getD i false)
  tail : ∀ t, n ≤ t → listed.getD t false = false
  cls : C w
  defers : a.defers = a0.defers
  tsize : a.tmps.size = a0.tmps.size
  slots : ∀ t, t < a0.tmps.size → SlotOf ops n T a0 (fun i => listed.getD i false) t (a.tmps.getD t undef) w

/-- What one operation of the head owes. -/
def Step (P : Program) (ops : Array Oper) (C : World → Prop) (le : World → World → Prop) (T : Nat → Value → World → Prop) (n : Nat) (a0 : Act) (i : Nat) (o : Oper) : Prop :=
  ∀ a w, C w → a.defers = a0.defers → a.tmps.size = a0.tmps.size → (∀ t ∈ o.looksAt ops, t < a0.tmps.size → SlotOf ops n T a0 (fun k => decide (k < i)) t (a.tmps.getD t undef) w) →
    if Region.wanted o (yielded ops a.tmps) then o.wp P a w (fun a' w' => ∃ v, a' = a.put o.dst v ∧ C w' ∧ le w w' ∧ T i v w') (fun _ _ _ => False)
    else T i undef w ∧ le w w

theorem put_getD (a : Act) (d : Tmp) (v : Value) (t : Tmp) (ht : t < a.tmps.size) : (a.put (some d) v).tmps.getD t undef = if d = t then v else a.tmps.getD t undef := by
  simp only [Act.put, Array.getD_eq_getD_getElem?, Array.getElem?_setIfInBounds]
  by_cases h : d = t
  · subst h; simp [ht]
  · simp [h]

theorem put_size (a : Act) (d : Option Tmp) (v : Value) : (a.put d v).tmps.size = a.tmps.size := by cases d <;> simp [Act.put]
theorem put_defers' (a : Act) (d : Option Tmp) (v : Value) : (a.put d v).defers = a.defers := by cases d <;> rfl

theorem getD_setB {listed : Array Bool} {i k : Nat} (hi : i < listed.size) : (listed.setIfInBounds i true).getD k false = if k = i then true else listed.getD k false := by
  simp only [Array.getD_eq_getD_getElem?, Array.getElem?_setIfInBounds]
  by_cases h : i = k
  · subst h; simp [hi]
  · rw [if_neg h, if_neg (by omega)]

theorem Inv.next (hT : ∀ i v w w', T i v w → le w w' → T i v w') (ok : Ok ops n) {listed : Array Bool} {a : Act} {w w' : World} (inv : Inv ops C T n a0 listed a w) {i : Nat} {o : Oper} {v : Value}
    (ho : ops[i]? = some o) (hin : i < n) (hun : listed.getD i false = false) (hall : ∀ e ∈ o.after, Region.binds .any e = true → listed.getD e.on false = true)
    (hC : C w') (hle : le w w') (hv : T i v w') : Inv ops C T n a0 (listed.setIfInBounds i true) (a.put o.dst v) w' := by
  have his : i < listed.size := by rw [inv.size]; exact (Array.getElem?_eq_some_iff.1 ho).1
  refine ⟨by simp [inv.size], ?_, ?_, hC, (put_defers' _ _ _).trans inv.defers, (put_size _ _ _).trans inv.tsize, ?_⟩
  · intro j oj hoj hl e he hb
    simp only [getD_setB his] at hl ⊢
    by_cases h2 : e.on = i
    · simp [h2]
    · rw [if_neg h2]
      by_cases h1 : j = i
      · subst h1
        have : oj = o := Option.some.inj (hoj.symm.trans ho)
        subst this
        exact hall e he hb
      · rw [if_neg h1] at hl
        exact inv.closed j oj hoj hl e he hb
  · intro t ht
    rw [getD_setB his, if_neg (by omega)]
    exact inv.tail t ht
  · intro t ht
    have hs := (inv.slots t ht).mono hT hle
    cases hd : o.dst with
    | none =>
      show SlotOf ops n T a0 _ t ((a.put none v).tmps.getD t undef) w'
      refine hs.congr fun k ok' hk hok hdk => ?_
      have hne : k ≠ i := fun e => by subst e; rw [ho] at hok; cases hok; rw [hd] at hdk; cases hdk
      simp only [getD_setB his, if_neg hne]
    | some d =>
      rw [put_getD a d v t (by rw [inv.tsize]; exact ht)]
      by_cases hdt : d = t
      · subst hdt
        rw [if_pos rfl]
        refine .inl ⟨i, o, hin, by simp [getD_setB his], ho, hd, fun k ok' hk hlk hok hdk => ?_, hv⟩
        by_cases hki : k = i
        · omega
        · dsimp only at hlk
          rw [getD_setB his, if_neg hki] at hlk
          rcases Nat.lt_or_ge i k with h | h
          · have hp := ok.apart i k o ok' hk h ho hok (clash_left hd (by simp [names, hdk]))
            have := hp _ inv.closed (fun o' ho' e he hb => inv.closed k o' ho' hlk e he hb)
            simp only [hun] at this
            cases this
          · exact h
      · rw [if_neg hdt]
        refine hs.congr fun k ok' hk hok hdk => ?_
        have hne : k ≠ i := fun e => by subst e; rw [ho] at hok; cases hok; rw [hd] at hdk; exact hdt (Option.some.inj hdk)
        simp only [getD_setB his, if_neg hne]

theorem flow_any (hT : ∀ i v w w', T i v w → le w w' → T i v w') (ok : Ok ops n) (hstep : ∀ i o, i < n → ops[i]? = some o → Step P ops C le T n a0 i o)
    (hend : ∀ a w, C w → a.defers = a0.defers → a.tmps.size = a0.tmps.size → (∀ t, t < a0.tmps.size → SlotOf ops n T a0 (fun k => decide (k < n)) t (a.tmps.getD t undef) w) → wpList P ops Q (ops.toList.drop n) a w) :
    ∀ (d : Nat) (listed : Array Bool) (a : Act) (w : World), left (fun i => listed.getD i false) n = d → Inv ops C T n a0 listed a w → wpAny P .any ops Q (d + (ops.size - n)) listed a w
  | 0, listed, a, w, hd, inv => by
    have hall := left_zero _ n hd
    have hl : listed = Array.replicate n true ++ Array.replicate (ops.size - n) false := by
      have hle := ok.le
      apply Array.ext
      · simp [inv.size]; omega
      · intro i h1 h2
        by_cases hi : i < n
        · have := hall i hi
          simp only [Array.getD_eq_getD_getElem?, Array.getElem?_eq_getElem h1, Option.getD_some] at this
          rw [this]; simp [hi]
        · have := inv.tail i (by omega)
          simp only [Array.getD_eq_getD_getElem?, Array.getElem?_eq_getElem h1, Option.getD_some] at this
          rw [this]; simp [Array.getElem_append, hi]
    rw [Nat.zero_add]
    have hlen : (ops.toList.drop n).length = ops.size - n := by simp
    rw [← hlen]
    refine wpAny_of_seq (md := .any) (ops.toList.drop n) n listed a w (fun j => by simp [List.getElem?_drop]) (by rw [hlen, hl]; exact ok.seq) ?_
    refine hend a w inv.cls inv.defers inv.tsize fun t ht => ?_
    refine (inv.slots t ht).congr fun k ok' hk _ _ => ?_
    simp only [hk, decide_true]
    exact (hall k hk).symm
  | d + 1, listed, a, w, hd, inv => by
    rw [show d + 1 + (ops.size - n) = (d + (ops.size - n)) + 1 by omega]
    refine ⟨fun h0 => ?_, fun i hi => ?_⟩
    · exfalso
      obtain ⟨i, hi, h1, h2⟩ := left_least _ n (by omega : left (fun i => listed.getD i false) n ≠ 0)
      have hlt : i < ops.size := by have := ok.le; omega
      have hmem : i ∈ Region.ready .any ops listed := by
        refine mem_ready.2 ⟨?_, ops[i], by simp [hlt], fun e he hb => h2 _ (ok.back i ops[i] (by simp [hlt]) e he hb)⟩
        have his : i < listed.size := by rw [inv.size]; exact hlt
        simp only [Array.getD_eq_getD_getElem?, Array.getElem?_eq_getElem his, Option.getD_some] at h1 ⊢
        exact h1
      rw [h0] at hmem
      cases hmem
    · obtain ⟨hun', o, ho, hall⟩ := mem_ready.1 hi
      have hun : listed.getD i false = false := getD_both hun'
      have hin : i < n := by
        rcases Nat.lt_or_ge i n with h | h
        · exact h
        · exfalso
          obtain ⟨m, hm, h1, _⟩ := left_least _ n (by omega : left (fun i => listed.getD i false) n ≠ 0)
          have := ok.tail m i o h (by omega) ho _ inv.closed (fun o' ho' e he hb => hall e (by rw [ho] at ho'; cases ho'; exact he) hb)
          rw [h1] at this
          cases this
      have his : i < listed.size := by rw [inv.size]; exact (Array.getElem?_eq_some_iff.1 ho).1
      have hdn : left (fun k => (listed.setIfInBounds i true).getD k false) n = d := by
        have := left_set (fun k => listed.getD k false) (fun k => (listed.setIfInBounds i true).getD k false) i hun (by simp [getD_setB his]) (fun j hj => by simp only [getD_setB his, if_neg hj]) n
        rw [if_pos hin] at this
        omega
      have hlook : ∀ t ∈ o.looksAt ops, t < a0.tmps.size → SlotOf ops n T a0 (fun k => decide (k < i)) t (a.tmps.getD t undef) w := by
        intro t ht htl
        refine (inv.slots t htl).congr fun k ok' hk hok hdk => ?_
        rcases Nat.lt_trichotomy k i with h | h | h
        · simp only [h, decide_true]
          have hp := ok.apart k i ok' o hin h hok ho (clash_left hdk (by simp [names, ht]))
          exact (hp _ inv.closed (fun o' ho' e he hb => hall e (by rw [ho] at ho'; cases ho'; exact he) hb)).symm
        · subst h
          simp only [Nat.lt_irrefl, decide_false]
          exact hun.symm
        · simp only [show ¬ k < i by omega, decide_false]
          cases hl : listed.getD k false
          · rfl
          · have hp := ok.apart i k o ok' hk h ho hok (clash_right hdk (by simp [names, ht]))
            have := hp _ inv.closed (fun o' ho' e he hb => inv.closed k o' ho' hl e he hb)
            simp only [hun] at this
            cases this
      have hs := hstep i o hin ho a w inv.cls inv.defers inv.tsize hlook
      unfold wpOp
      simp only [ho]
      by_cases hw : Region.wanted o (yielded ops a.tmps) = true
      · rw [if_pos hw] at hs ⊢
        refine .inl (wp_imp ?_ hs)
        rintro a' w' ⟨v, rfl, hC, hle, hv⟩
        exact flow_any hT ok hstep hend d _ _ _ hdn (inv.next hT ok ho hin hun hall hC hle hv)
      · rw [if_neg hw] at hs ⊢
        exact flow_any hT ok hstep hend d _ _ _ hdn (inv.next hT ok ho hin hun hall inv.cls hs.2 hs.1)

theorem wp_region_flow {id : Nat} {w : World} (hm : P.follows .mixedOrders = true) (hB : okB ops n = true) (hC : C { w with drawn := w.drawn + 1 })
    (hT : ∀ i v w w', T i v w → le w w' → T i v w') (hstep : ∀ i o, i < n → ops[i]? = some o → Step P ops C le T n a0 i o)
    (hend : ∀ a w, C w → a.defers = a0.defers → a.tmps.size = a0.tmps.size → (∀ t, t < a0.tmps.size → SlotOf ops n T a0 (fun k => decide (k < n)) t (a.tmps.getD t undef) w) → wpList P ops Q (ops.toList.drop n) a w) :
    (Code.region id ops true).wp P Q a0 w := by
  have ok := ok_of hB
  refine wp_region_any hm ?_
  have hl : left (fun i => (Array.replicate ops.size false).getD i false) n = n := by
    have : (fun i => (Array.replicate ops.size false).getD i false) = (fun _ => false) := funext fun i => getD_replicate_false _ _
    rw [this, left_all]
  have := flow_any (Q := Q) hT ok hstep hend n (Array.replicate ops.size false) a0 { w with drawn := w.drawn + 1 } hl
    { size := by simp
      closed := fun j o _ h => (by simp only [getD_replicate_false] at h; cases h)
      tail := fun t _ => getD_replicate_false _ _
      cls := hC
      defers := rfl
      tsize := rfl
      slots := fun t _ => .inr ⟨fun k ok' _ h => (by simp only [getD_replicate_false] at h; cases h), rfl⟩ }
  rwa [show n + (ops.size - n) = ops.size by have := ok.le; omega] at this
end

/-! ### Values that are the same in every world of the class -/
def lexActs (a : Act) : List Oper → List Value → Act
  | o :: l, v :: vs => lexActs (a.put o.dst v) l vs
  | _, _ => a

theorem lex_size : ∀ (l : List Oper) (vs : List Value) (a : Act), (lexActs a l vs).tmps.size = a.tmps.size
  | [], _, _ => by simp [lexActs]
  | _ :: _, [], _ => by simp [lexActs]
  | o :: l, v :: vs, a => by simp only [lexActs]; rw [lex_size l vs, put_size]
theorem lex_defers : ∀ (l : List Oper) (vs : List Value) (a : Act), (lexActs a l vs).defers = a.defers
  | [], _, _ => by simp [lexActs]
  | _ :: _, [], _ => by simp [lexActs]
  | o :: l, v :: vs, a => by simp only [lexActs]; rw [lex_defers l vs, put_defers']

theorem lex_slot : ∀ (l : List Oper) (vs : List Value) (a : Act) (t : Tmp), vs.length = l.length → t < a.tmps.size →
    (∃ (j : Nat) (oj : Oper), l[j]? = some oj ∧ oj.dst = some t ∧ (∀ (k : Nat) (ok : Oper), l[k]? = some ok → ok.dst = some t → k ≤ j) ∧ (lexActs a l vs).tmps.getD t undef = vs.getD j undef) ∨
    ((∀ (k : Nat) (ok : Oper), l[k]? = some ok → ok.dst ≠ some t) ∧ (lexActs a l vs).tmps.getD t undef = a.tmps.getD t undef)
  | [], [], a, t, _, _ => .inr ⟨fun k ok h => (by simp at h), rfl⟩
  | [], _ :: _, _, _, h, _ => by simp at h
  | _ :: _, [], _, _, h, _ => by simp at h
  | o :: l, v :: vs, a, t, hl, ht => by
    have hl' : vs.length = l.length := by simpa using hl
    rcases lex_slot l vs (a.put o.dst v) t hl' (by rw [put_size]; exact ht) with ⟨j, oj, h1, h2, h3, h4⟩ | ⟨h1, h2⟩
    · refine .inl ⟨j + 1, oj, by simpa using h1, h2, fun k ok hk hd => ?_, by simpa [lexActs] using h4⟩
      cases k with
      | zero => omega
      | succ k => have := h3 k ok (by simpa using hk) hd; omega
    · cases hd : o.dst with
      | none =>
        rw [hd] at h2
        refine .inr ⟨fun k ok hk hdk => ?_, ?_⟩
        · cases k with
          | zero => simp at hk; subst hk; rw [hd] at hdk; cases hdk
          | succ k => exact h1 k ok (by simpa using hk) hdk
        · simp only [lexActs, hd]; exact h2
      | some d =>
        rw [hd, put_getD a d v t ht] at h2
        by_cases hdt : d = t
        · subst hdt
          rw [if_pos rfl] at h2
          refine .inl ⟨0, o, rfl, hd, fun k ok hk hdk => ?_, by simp only [lexActs, hd]; exact h2⟩
          cases k with
          | zero => omega
          | succ k => exact absurd hdk (h1 k ok (by simpa using hk))
        · rw [if_neg hdt] at h2
          refine .inr ⟨fun k ok hk hdk => ?_, ?_⟩
          · cases k with
            | zero => simp at hk; subst hk; rw [hd] at hdk; exact hdt (Option.some.inj hdk)
            | succ k => exact h1 k ok (by simpa using hk) hdk
          · simp only [lexActs, hd]; exact h2

section
variable {P : Program} {ops : Array Oper} {C : World → Prop} {Q : Exit → Act → World → Prop}

theorem quiet_split : ∀ (l : List Oper) (a : Act) {Qt : Act → Prop}, wpQuiet P ops C Qt l a →
    ∃ vs : List Value, vs.length = l.length ∧ (∀ i o, l[i]? = some o → YieldsIn P ops C o (vs.getD i undef) (lexActs a (l.take i) (vs.take i))) ∧ Qt (lexActs a l vs)
  | [], a, _, h => ⟨[], rfl, fun i o h => (by simp at h), h⟩
  | o :: l, a, Qt, h => by
    have hcons : ∀ v, YieldsIn P ops C o v a → wpQuiet P ops C Qt l (a.put o.dst v) →
        ∃ vs : List Value, vs.length = (o :: l).length ∧ (∀ i o', (o :: l)[i]? = some o' → YieldsIn P ops C o' (vs.getD i undef) (lexActs a ((o :: l).take i) (vs.take i))) ∧ Qt (lexActs a (o :: l) vs) := by
      intro v hy hr
      obtain ⟨vs, h1, h2, h3⟩ := quiet_split l _ hr
      refine ⟨v :: vs, by simp [h1], fun i o' hi => ?_, by simpa [lexActs] using h3⟩
      cases i with
      | zero => simp at hi; subst hi; simpa [lexActs] using hy
      | succ i => have := h2 i o' (by simpa using hi); simpa [lexActs] using this
    unfold wpQuiet at h
    by_cases hw : Region.wanted o (yielded ops a.tmps) = true
    · rw [if_pos hw] at h
      obtain ⟨v, h1, h2⟩ := h
      exact hcons v (.inl ⟨hw, h1⟩) h2
    · rw [if_neg hw] at h
      exact hcons undef (.inr ⟨by simpa using hw, rfl⟩) h

theorem getD_out {x : Array Value} {t : Nat} (h : x.size ≤ t) : x.getD t undef = undef := by
  rw [Array.getD_eq_getD_getElem?, Array.getElem?_eq_none h]; rfl
theorem getD_same {x y : Array Value} {t : Nat} (hsz : x.size = y.size) (h : x.getD t undef = y.getD t undef) : x[t]? = y[t]? := by
  simp only [Array.getD_eq_getD_getElem?] at h
  by_cases h1 : t < x.size
  · have h2 : t < y.size := by omega
    rw [Array.getElem?_eq_getElem h1, Array.getElem?_eq_getElem h2] at h ⊢
    simp only [Option.getD_some] at h
    rw [h]
  · have h2 : ¬ t < y.size := by omega
    rw [Array.getElem?_eq_none (by omega), Array.getElem?_eq_none (by omega)]

theorem same_look {o : Oper} {a b : Act} (hs : ∀ cs d, o.op ≠ .select cs d) (h : ∀ t ∈ o.looksAt ops, a.tmps.getD t undef = b.tmps.getD t undef) (hsz : a.tmps.size = b.tmps.size) :
    execOp a.eval o = execOp b.eval o ∧ Region.wanted o (yielded ops a.tmps) = Region.wanted o (yielded ops b.tmps) := by
  constructor
  · refine execOp_congr o hs fun x hx => ?_
    cases x with
    | tmp t => exact h t (by unfold Oper.looksAt; exact List.mem_append_left _ (List.mem_filterMap.2 ⟨.tmp t, by simpa using hx, rfl⟩))
    | _ => rfl
  · unfold Region.wanted
    cases hg : o.guard with
    | none => rfl
    | some gw =>
      obtain ⟨g, want⟩ := gw
      have hy : yielded ops a.tmps g = yielded ops b.tmps g := by
        unfold yielded
        cases ht : (ops[g]?).bind (·.dst) with
        | none => rfl
        | some t =>
          have := getD_same hsz (h t (by simp [Oper.looksAt, hg, ht]))
          simp only [Option.bind_some, this]
      simp only [hy]

/-- THE RULE: the first n operations by one quiet walk over the class, the others in the order of the text. -/
theorem wp_region_quiet_tail {id : Nat} {a : Act} {w : World} {l : List Oper} (n : Nat) (hm : P.follows .mixedOrders = true) (hB : okB l.toArray n = true) (hC : C { w with drawn := w.drawn + 1 })
    (h : wpQuiet P l.toArray C (fun a' => ∀ w', C w' → wpList P l.toArray Q (l.drop n) a' w') (l.take n) a) : (Code.region id l.toArray true).wp P Q a w := by
  obtain ⟨vs, hvl, hy, hq⟩ := quiet_split _ _ h
  have ok := ok_of hB
  have hn : n ≤ l.length := by simpa using ok.le
  have hlen : (l.take n).length = n := by simp; omega
  rw [hlen] at hvl
  have hget : ∀ i, i < n → (l.take n)[i]? = l[i]? := fun i hi => by rw [List.getElem?_take, if_pos hi]
  have htt : ∀ i, i ≤ n → (l.take n).take i = l.take i := fun i hi => by rw [List.take_take, Nat.min_eq_left hi]
  -- what the slots hold in the text's order
  have slot : ∀ (i : Nat), i ≤ n → ∀ (t : Tmp) (v : Value) (w : World), t < a.tmps.size → SlotOf l.toArray n (fun i v _ => v = vs.getD i undef) a (fun k => decide (k < i)) t v w →
      v = (lexActs a ((l.take n).take i) (vs.take i)).tmps.getD t undef := by
    intro i hi t v w ht hs
    have hli : (vs.take i).length = ((l.take n).take i).length := by simp [hvl]; omega
    have hgi : ∀ k, k < i → ((l.take n).take i)[k]? = l[k]? := fun k hk => by rw [htt i hi, List.getElem?_take, if_pos hk]
    have hgn : ∀ k ok', ((l.take n).take i)[k]? = some ok' → k < i := fun k ok' hk => by
      have := (List.getElem?_eq_some_iff.1 hk).1
      simp at this; omega
    rcases lex_slot _ _ a t hli ht with ⟨j, oj, h1, h2, h3, h4⟩ | ⟨h1, h2⟩
    · have hj : j < i := hgn j oj h1
      rw [hgi j hj] at h1
      rcases hs with ⟨j', oj', hj', hlt, ho', hd', hm', hv⟩ | ⟨h5, _⟩
      · simp only [decide_eq_true_eq] at hlt
        have e1 : j' ≤ j := h3 j' oj' (by rw [hgi j' hlt]; simpa using ho') hd'
        have e2 : j ≤ j' := hm' j oj (by omega) (by simp [hj]) (by simpa using h1) h2
        obtain rfl : j' = j := by omega
        rw [hv, h4]
        simp only [List.getD_eq_getElem?_getD, List.getElem?_take, if_pos hj]
      · exact absurd h2 (h5 j oj (by omega) (by simp [hj]) (by simpa using h1))
    · rcases hs with ⟨j', oj', hj', hlt, ho', hd', hm', hv⟩ | ⟨_, h5⟩
      · simp only [decide_eq_true_eq] at hlt
        exact absurd hd' (h1 j' oj' (by rw [hgi j' hlt]; simpa using ho'))
      · rw [h5, h2]
  refine wp_region_flow (C := C) (le := fun _ _ => True) (T := fun i v _ => v = vs.getD i undef) hm hB hC (fun _ _ _ _ h _ => h) ?_ ?_
  · intro i o hi ho a' w' hC' hd hsz hlook
    have ho' : l[i]? = some o := by simpa using ho
    have hyi := hy i o (by rw [hget i hi]; exact ho')
    have hsel : ∀ cs d, o.op ≠ .select cs d := fun cs d => Region.noSelect_spec ok.noSel i o cs d ho
    have hsame : ∀ t ∈ o.looksAt l.toArray, a'.tmps.getD t undef = (lexActs a ((l.take n).take i) (vs.take i)).tmps.getD t undef := by
      intro t ht
      by_cases htl : t < a.tmps.size
      · exact slot i (by omega) t _ w' htl (hlook t ht htl)
      · have htl' : a.tmps.size ≤ t := Nat.not_lt.1 htl
        rw [getD_out (show a'.tmps.size ≤ t by rw [hsz]; exact htl'), getD_out (show (lexActs a ((l.take n).take i) (vs.take i)).tmps.size ≤ t by rw [lex_size]; exact htl')]
    obtain ⟨e1, e2⟩ := same_look (ops := l.toArray) hsel hsame (by rw [lex_size]; exact hsz)
    rcases hyi.of_same e1 e2 with ⟨hw, hv⟩ | ⟨hw, hv⟩
    · rw [if_pos hw]
      refine Oper.wp_of_quiet (C := C) (K := fun a'' => a'' = a'.put o.dst (vs.getD i undef)) hC' (fun a'' w'' hC'' e => ⟨_, e, hC'', trivial, rfl⟩) ⟨_, hv, rfl⟩
    · rw [if_neg (by simp [hw])]
      exact ⟨hv.symm, trivial⟩
  · intro a' w' hC' hd hsz hs
    have htake : (l.take n).take n = l.take n := by rw [List.take_take, Nat.min_self]
    have hvt : vs.take n = vs := List.take_of_length_le (by omega)
    have heq : a' = lexActs a (l.take n) vs := by
      have ht : a'.tmps = (lexActs a (l.take n) vs).tmps := by
        apply Array.ext
        · rw [lex_size]; exact hsz
        · intro i h1 h2
          have hia : i < a.tmps.size := by rw [← hsz]; exact h1
          have := slot n (Nat.le_refl _) i _ w' hia (hs i hia)
          rw [htake, hvt] at this
          simpa only [Array.getD_eq_getD_getElem?, Array.getElem?_eq_getElem h1, Array.getElem?_eq_getElem h2, Option.getD_some] using this
      have hdd : a'.defers = (lexActs a (l.take n) vs).defers := by rw [lex_defers]; exact hd
      cases a'
      cases hb : lexActs a (l.take n) vs
      rw [hb] at ht hdd
      simp only at ht hdd
      rw [ht, hdd]
    rw [heq]
    have := hq w' hC'
    simpa using this
end

/-! ### The class of the worlds that only grow out of one -/
/-- A world that has grown out of w: what was there is as it was. -/
structure Ext (w : World) where
  to : World
  below : Below w.heap.size w to
instance (w : World) : Nonempty (Ext w) := ⟨⟨w, Below.refl _ _⟩⟩
theorem Ext.size {w : World} (e : Ext w) : w.heap.size ≤ e.to.heap.size := e.below.size
@[go_sem] theorem ext_cell {w : World} (e : Ext w) (b o : Nat) (h : b < w.heap.size) : e.to.cell? ⟨b, o, none⟩ = w.cell? ⟨b, o, none⟩ := e.below.cell (p := ⟨b, o, none⟩) h
@[go_sem] theorem ext_frozen {w : World} (e : Ext w) (b o : Nat) (h : b < w.heap.size) : e.to.frozen? ⟨b, o, none⟩ = w.frozen? ⟨b, o, none⟩ := e.below.frozen (p := ⟨b, o, none⟩) h

@[go_sem] theorem run_makeFunc (P : Program) (fn : Fn) (first cap : Array Value) (w : World) : Sem.run P (Instr.makeFunc fn first cap) w = .ok (.func fn first cap) w := rfl

theorem Calls_ext {P : Program} {f : FuncId} {args : Array Value} {w : World} {e : Ext w} {v : Value}
    (h : Calls P f args e.to fun r w' => r = .returned v ∧ Below e.to.heap.size e.to w') : Calls P f args e.to fun r w'' => r = .returned v ∧ ∃ e' : Ext w, w'' = e'.to :=
  h.mono fun _ w' ⟨hr, hb⟩ => ⟨hr, ⟨⟨w', e.below.trans (hb.mono e.size)⟩, rfl⟩⟩
theorem Calls_ext_same {P : Program} {f : FuncId} {args : Array Value} {w : World} {e : Ext w} {v : Value}
    (h : Calls P f args e.to fun r w' => r = .returned v ∧ e.to = w') : Calls P f args e.to fun r w'' => r = .returned v ∧ ∃ e' : Ext w, w'' = e'.to :=
  h.mono fun _ _ ⟨hr, hb⟩ => ⟨hr, ⟨e, hb.symm⟩⟩

/-- The first n operations yield the same in every world that grows out of w; the others follow. -/
theorem wp_region_ext {P : Program} {Q : Exit → Act → World → Prop} {id : Nat} {a : Act} {w : World} {l : List Oper} (n : Nat) (hm : P.follows .mixedOrders = true) (hB : okB l.toArray n = true)
    (h : wpQuiet P l.toArray (fun w' => ∃ e : Ext w, w' = e.to) (fun a' => ∀ w', (∃ e : Ext w, w' = e.to) → wpList P l.toArray Q (l.drop n) a' w') (l.take n) a) : (Code.region id l.toArray true).wp P Q a w :=
  wp_region_quiet_tail n hm hB ⟨⟨_, (Below.refl _ w).drew⟩, rfl⟩ h

/-! ### Values that hang on the world: some operations of the head yield a value of which only a relation is known, one that outlives growth -/
def _root_.Go.Oper.givesUpon (P : Program) (S : Value → World → Prop) : Result Next → Prop
  | .ok (.value v) w' => S v w'
  | .ok .skip w' => S undef w'
  | .ok (.enter f args) w' => Calls P f args w' fun
      | .returned v, w'' => S v w''
      | _, _ => False
  | _ => False
def _root_.Go.Oper.gives (P : Program) (o : Oper) (a : Act) (w : World) (S : Value → World → Prop) : Prop := Oper.givesUpon P S ((execOp a.eval o).run P w)

theorem wp_of_gives {P : Program} {o : Oper} {a b : Act} {w : World} {S : Value → World → Prop} {Q : Exit → Act → World → Prop} (he : execOp a.eval o = execOp b.eval o) (h : o.gives P b w S) :
    o.wp P a w (fun a' w' => ∃ v, a' = a.put o.dst v ∧ S v w') Q := by
  unfold Oper.gives at h
  unfold Oper.wp
  rw [he]
  generalize (execOp b.eval o).run P w = r at *
  cases r with
  | ok x w' =>
    cases x <;> simp only [Oper.givesUpon] at h <;> simp only [Oper.upon]
    case value v => exact ⟨v, rfl, h⟩
    case skip => exact ⟨undef, rfl, h⟩
    case enter f args =>
      refine h.mono fun e w'' he => ?_
      cases e <;> first | exact ⟨_, rfl, he⟩ | exact he.elim
  | halt x w' => simp only [Oper.givesUpon] at h

/-- One value, in every world that has grown out of W; what a callee leaves has grown out of what it got. -/
def _root_.Go.Oper.quietBUpon (P : Program) (w : World) (v : Value) : Result Next → Prop
  | .ok (.value u) w' => w' = w ∧ u = v
  | .ok .skip w' => w' = w ∧ v = undef
  | .ok (.enter f args) w' => w' = w ∧ Calls P f args w (fun e w'' => e = .returned v ∧ Below w.heap.size w w'')
  | _ => False
def _root_.Go.Oper.quietB (P : Program) (o : Oper) (a : Act) (W : World) (next : Act → Prop) : Prop := ∃ v, (∀ e : Ext W, Oper.quietBUpon P e.to v ((execOp a.eval o).run P e.to)) ∧ next (a.put o.dst v)
attribute [go_sem] Oper.givesUpon Oper.gives Oper.quietBUpon Oper.quietB
def wpQB (P : Program) (ops : Array Oper) (W : World) (Q : Act → Prop) : List Oper → Act → Prop
  | [], a => Q a
  | o :: rest, a => if Region.wanted o (yielded ops a.tmps) then o.quietB P a W (wpQB P ops W Q rest) else wpQB P ops W Q rest (a.put o.dst undef)
theorem wpQB_nil {P : Program} {ops : Array Oper} {W : World} {Q : Act → Prop} {a : Act} (h : Q a) : wpQB P ops W Q [] a := h
theorem wpQB_step {P : Program} {ops : Array Oper} {W : World} {Q : Act → Prop} {a : Act} {o : Oper} {rest : List Oper}
    (h : ∀ K : Act → Prop, (∀ a, wpQB P ops W Q rest a → K a) → if Region.wanted o (yielded ops a.tmps) then o.quietB P a W K else K (a.put o.dst undef)) : wpQB P ops W Q (o :: rest) a :=
  h _ (fun _ h => h)
def YieldsB (P : Program) (ops : Array Oper) (W : World) (o : Oper) (v : Value) (a : Act) : Prop :=
  (Region.wanted o (yielded ops a.tmps) = true ∧ ∀ e : Ext W, Oper.quietBUpon P e.to v ((execOp a.eval o).run P e.to)) ∨ (Region.wanted o (yielded ops a.tmps) = false ∧ v = undef)
theorem YieldsB.of_same {P : Program} {ops : Array Oper} {W : World} {o : Oper} {v : Value} {a a' : Act} (hy : YieldsB P ops W o v a) (he : execOp a'.eval o = execOp a.eval o)
    (hw : Region.wanted o (yielded ops a'.tmps) = Region.wanted o (yielded ops a.tmps)) : YieldsB P ops W o v a' := by
  unfold YieldsB at *
  rw [he, hw]
  exact hy
theorem wp_of_quietB {P : Program} {o : Oper} {a : Act} {w : World} {v : Value} {Q : Exit → Act → World → Prop} (h : Oper.quietBUpon P w v ((execOp a.eval o).run P w)) :
    o.wp P a w (fun a' w' => a' = a.put o.dst v ∧ Below w.heap.size w w') Q := by
  unfold Oper.wp
  generalize (execOp a.eval o).run P w = r at *
  cases r with
  | ok n w' =>
    cases n <;> simp only [Oper.quietBUpon] at h <;> simp only [Oper.upon]
    case value u => obtain ⟨rfl, rfl⟩ := h; exact ⟨rfl, Below.refl _ _⟩
    case skip => obtain ⟨rfl, rfl⟩ := h; exact ⟨rfl, Below.refl _ _⟩
    case enter f args =>
      obtain ⟨rfl, hc⟩ := h
      exact hc.mono fun e w'' ⟨he, hb⟩ => by subst he; exact ⟨rfl, hb⟩
  | halt x w' => simp only [Oper.quietBUpon] at h
theorem quietB_split {P : Program} {ops : Array Oper} {W : World} : ∀ (l : List Oper) (a : Act) {Qt : Act → Prop}, wpQB P ops W Qt l a →
    ∃ vs : List Value, vs.length = l.length ∧ (∀ i o, l[i]? = some o → YieldsB P ops W o (vs.getD i undef) (lexActs a (l.take i) (vs.take i))) ∧ Qt (lexActs a l vs)
  | [], a, _, h => ⟨[], rfl, fun i o h => (by simp at h), h⟩
  | o :: l, a, Qt, h => by
    have hcons : ∀ v, YieldsB P ops W o v a → wpQB P ops W Qt l (a.put o.dst v) →
        ∃ vs : List Value, vs.length = (o :: l).length ∧ (∀ i o', (o :: l)[i]? = some o' → YieldsB P ops W o' (vs.getD i undef) (lexActs a ((o :: l).take i) (vs.take i))) ∧ Qt (lexActs a (o :: l) vs) := by
      intro v hy hr
      obtain ⟨vs, h1, h2, h3⟩ := quietB_split l _ hr
      refine ⟨v :: vs, by simp [h1], fun i o' hi => ?_, by simpa [lexActs] using h3⟩
      cases i with
      | zero => simp at hi; subst hi; simpa [lexActs] using hy
      | succ i => have := h2 i o' (by simpa using hi); simpa [lexActs] using this
    unfold wpQB at h
    by_cases hw : Region.wanted o (yielded ops a.tmps) = true
    · rw [if_pos hw] at h
      obtain ⟨v, h1, h2⟩ := h
      exact hcons v (.inl ⟨hw, h1⟩) h2
    · rw [if_neg hw] at h
      exact hcons undef (.inr ⟨by simpa using hw, rfl⟩) h

def dummy (o : Oper) : Oper := { dst := o.dst, op := .move (.const undef), type := o.type, pos := o.pos, after := o.after, guard := none }
def maskOps : List Bool → List Oper → List Oper
  | true :: m, o :: l => o :: maskOps m l
  | false :: m, o :: l => dummy o :: maskOps m l
  | _, _ => []
theorem maskOps_get : ∀ (m : List Bool) (l : List Oper) (i : Nat) (b : Bool) (o : Oper), m[i]? = some b → l[i]? = some o → (maskOps m l)[i]? = some (if b then o else dummy o)
  | [], _, _, _, _, h, _ => by simp at h
  | _ :: _, [], _, _, _, _, h => by simp at h
  | c :: m, o' :: l, i, b, o, h1, h2 => by
    cases i with
    | zero => simp at h1 h2; subst h1; subst h2; cases c <;> simp [maskOps]
    | succ i => have := maskOps_get m l i b o (by simpa using h1) (by simpa using h2); cases c <;> simpa [maskOps] using this
theorem maskOps_len : ∀ (m : List Bool) (l : List Oper), m.length = l.length → (maskOps m l).length = l.length
  | [], [], _ => rfl
  | [], _ :: _, h => by simp at h
  | _ :: _, [], h => by simp at h
  | true :: m, _ :: l, h => by simp [maskOps, maskOps_len m l (by simpa using h)]
  | false :: m, _ :: l, h => by simp [maskOps, maskOps_len m l (by simpa using h)]
theorem maskOps_dst (m : List Bool) (l : List Oper) (i : Nat) (o : Oper) (hml : m.length = l.length) (h : (maskOps m l)[i]? = some o) : ∃ o' b, l[i]? = some o' ∧ m[i]? = some b ∧ o'.dst = o.dst := by
  have hi : i < l.length := by have := (List.getElem?_eq_some_iff.1 h).1; rw [maskOps_len m l hml] at this; exact this
  have h1 := maskOps_get m l i (m[i]'(by omega)) l[i] (by simp) (by simp [hi])
  rw [h1] at h
  refine ⟨l[i], m[i]'(by omega), by simp [hi], by simp, ?_⟩
  cases hb : m[i]'(by omega)
  · rw [hb] at h; simp at h; rw [← h]; rfl
  · rw [hb] at h; simp at h; rw [← h]

/-- the relation of operation i -/
def rAt : List Bool → List (Value → World → Prop) → Nat → Value → World → Prop
  | true :: m, Rs, i + 1 => rAt m Rs i
  | false :: _, R :: _, 0 => R
  | false :: m, _ :: Rs, i + 1 => rAt m Rs i
  | _, _, _ => fun _ _ => True

def relObl (P : Program) (w : World) : List Bool → List Oper → List (Value → World → Prop) → Act → Prop
  | true :: m, _ :: l, Rs, a => relObl P w m l Rs a
  | false :: m, o :: l, R :: Rs, a => (∀ e : Ext w, o.gives P a e.to fun v w'' => Below e.to.heap.size e.to w'' ∧ R v w'') ∧ relObl P w m l Rs a
  | [], _, _, _ => True
  | _ :: _, [], _, _ => True
  | false :: _, _ :: _, [], _ => False
def relEnd (Qt : Act → Prop) (w' : World) : List Bool → List Oper → List (Value → World → Prop) → Act → Prop
  | true :: m, _ :: l, Rs, a => relEnd Qt w' m l Rs a
  | false :: m, o :: l, R :: Rs, a => ∀ v, R v w' → relEnd Qt w' m l Rs (a.put o.dst v)
  | _, _, _, a => Qt a

theorem relObl_get {P : Program} {w : World} {a : Act} : ∀ (m : List Bool) (l : List Oper) (Rs : List (Value → World → Prop)) (i : Nat) (o : Oper), relObl P w m l Rs a → m[i]? = some false → l[i]? = some o →
    ∀ e : Ext w, o.gives P a e.to fun v w'' => Below e.to.heap.size e.to w'' ∧ rAt m Rs i v w''
  | [], _, _, _, _, _, h, _ => by simp at h
  | _ :: _, [], _, _, _, _, _, h => by simp at h
  | true :: m, _ :: l, Rs, i, o, h, h1, h2 => by
    cases i with
    | zero => simp at h1
    | succ i => exact relObl_get m l Rs i o h (by simpa using h1) (by simpa using h2)
  | false :: m, o' :: l, [], i, o, h, _, _ => h.elim
  | false :: m, o' :: l, R :: Rs, i, o, h, h1, h2 => by
    cases i with
    | zero => simp at h2; subst h2; exact h.1
    | succ i => exact relObl_get m l Rs i o h.2 (by simpa using h1) (by simpa using h2)

def putRel (m : List Bool) (l : List Oper) (v : Nat → Value) (k : Nat) (a : Act) : Act :=
  match m, l with
  | true :: m, _ :: l => putRel m l v (k + 1) a
  | false :: m, o :: l => putRel m l v (k + 1) (a.put o.dst (v k))
  | _, _ => a
theorem relEnd_put {Qt : Act → Prop} {w' : World} {P : Program} {w : World} {a0 : Act} : ∀ (m : List Bool) (l : List Oper) (Rs : List (Value → World → Prop)) (v : Nat → Value) (k : Nat) (a : Act), relObl P w m l Rs a0 → relEnd Qt w' m l Rs a →
    (∀ i, i < l.length → m[i]? = some false → rAt m Rs i (v (k + i)) w') → Qt (putRel m l v k a)
  | [], _, _, _, _, _, _, h, _ => by simpa [putRel, relEnd] using h
  | _ :: _, [], _, _, _, _, _, h, _ => by simpa [putRel, relEnd] using h
  | true :: m, _ :: l, Rs, v, k, a, ho, h, hr => by
    simp only [putRel]
    refine relEnd_put m l Rs v (k + 1) a ho h fun i hi hm => ?_
    have := hr (i + 1) (by simpa using hi) (by simpa using hm)
    rw [show k + 1 + i = k + (i + 1) by omega]
    exact this
  | false :: m, o :: l, [], _, _, _, ho, _, _ => ho.elim
  | false :: m, o :: l, R :: Rs, v, k, a, ho, h, hr => by
    simp only [putRel]
    refine relEnd_put m l Rs v (k + 1) _ ho.2 (h (v k) (hr 0 (by simp) rfl)) fun i hi hm => ?_
    have := hr (i + 1) (by simpa using hi) (by simpa using hm)
    rw [show k + 1 + i = k + (i + 1) by omega]
    exact this

/-- The region's Bool: an operation whose value hangs on the world has no guard, its slot is nobody's else and seen by no operation of the head, and the slots that it looks at are not written behind it. -/
def maskOkB (ops : Array Oper) (n sz : Nat) (mask : List Bool) : Bool :=
  decide (mask.length = n) && nthB (fun i o => mask.getD i true || decide (n ≤ i) ||
    (o.guard.isNone && (match o.dst with | some d => decide (d < sz) | none => false) && nthB (fun j o' => decide (n ≤ j) || ((match o.dst with | some d => !(o'.looksAt ops).contains d && (decide (j = i) || o'.dst != some d) | none => true) &&
      (decide (j < i) || (match o'.dst with | some d => !(o.looksAt ops).contains d | none => true)))) 0 ops.toList)) 0 ops.toList

theorem maskOk_spec {ops : Array Oper} {n sz : Nat} {mask : List Bool} (h : maskOkB ops n sz mask = true) : mask.length = n ∧ ∀ i o, ops[i]? = some o → i < n → mask[i]? = some false → (o.guard = none ∧ ∃ d, o.dst = some d ∧ d < sz) ∧
    ∀ j o', ops[j]? = some o' → j < n → (∀ d, o.dst = some d → d ∉ o'.looksAt ops ∧ (j ≠ i → o'.dst ≠ some d)) ∧ (i ≤ j → ∀ d, o'.dst = some d → d ∉ o.looksAt ops) := by
  simp only [maskOkB, Bool.and_eq_true, decide_eq_true_eq] at h
  refine ⟨h.1, fun i o ho hi hm => ?_⟩
  have h1 := nthB_spec _ _ h.2 i o (by simpa using ho)
  simp only [Nat.zero_add, Bool.or_eq_true, decide_eq_true_eq, Bool.and_eq_true] at h1
  rcases h1 with (h1 | h1) | h1
  · simp [List.getD_eq_getElem?_getD, hm] at h1
  · omega
  · refine ⟨⟨by simpa using h1.1.1, ?_⟩, fun j o' ho' hj => ?_⟩
    · have := h1.1.2
      cases hd : o.dst with
      | none => rw [hd] at this; simp at this
      | some d => rw [hd] at this; exact ⟨d, rfl, by simpa using this⟩
    have h2 := nthB_spec _ _ h1.2 j o' (by simpa using ho')
    simp only [Nat.zero_add, Bool.or_eq_true, decide_eq_true_eq, Bool.and_eq_true] at h2
    have h3 := h2.resolve_left (by omega)
    refine ⟨fun d hd => ?_, fun hij d hd => ?_⟩
    · have h4 := h3.1
      rw [hd] at h4
      simp only [Bool.and_eq_true, Bool.not_eq_true', Bool.or_eq_true, decide_eq_true_eq, bne_iff_ne] at h4
      exact ⟨by simpa using h4.1, fun hji => h4.2.resolve_left hji⟩
    · have h4 := h3.2.resolve_left (by omega)
      rw [hd] at h4
      simpa using h4

theorem putRel_size (v : Nat → Value) : ∀ (m : List Bool) (l : List Oper) (k : Nat) (a : Act), (putRel m l v k a).tmps.size = a.tmps.size
  | [], _, _, _ => by simp [putRel]
  | _ :: _, [], _, _ => by simp [putRel]
  | true :: m, _ :: l, k, a => by simp only [putRel]; exact putRel_size v m l (k + 1) a
  | false :: m, o :: l, k, a => by simp only [putRel]; rw [putRel_size v m l (k + 1), put_size]
theorem putRel_defers (v : Nat → Value) : ∀ (m : List Bool) (l : List Oper) (k : Nat) (a : Act), (putRel m l v k a).defers = a.defers
  | [], _, _, _ => by simp [putRel]
  | _ :: _, [], _, _ => by simp [putRel]
  | true :: m, _ :: l, k, a => by simp only [putRel]; exact putRel_defers v m l (k + 1) a
  | false :: m, o :: l, k, a => by simp only [putRel]; rw [putRel_defers v m l (k + 1), put_defers']
theorem putRel_other (v : Nat → Value) (t : Tmp) : ∀ (m : List Bool) (l : List Oper) (k : Nat) (a : Act), t < a.tmps.size → (∀ (i : Nat) (o : Oper), m[i]? = some false → l[i]? = some o → o.dst ≠ some t) →
    (putRel m l v k a).tmps.getD t undef = a.tmps.getD t undef
  | [], _, _, _, _, _ => by simp [putRel]
  | _ :: _, [], _, _, _, _ => by simp [putRel]
  | true :: m, _ :: l, k, a, ht, h => by
    simp only [putRel]
    exact putRel_other v t m l (k + 1) a ht fun i o h1 h2 => h (i + 1) o (by simpa using h1) (by simpa using h2)
  | false :: m, o :: l, k, a, ht, h => by
    simp only [putRel]
    rw [putRel_other v t m l (k + 1) _ (by rw [put_size]; exact ht) fun i o h1 h2 => h (i + 1) o (by simpa using h1) (by simpa using h2)]
    cases hd : o.dst with
    | none => rfl
    | some d =>
      have hne : d ≠ t := fun e => h 0 o rfl rfl (by rw [hd, e])
      rw [put_getD a d _ t ht, if_neg hne]
theorem putRel_at (v : Nat → Value) (t : Tmp) : ∀ (m : List Bool) (l : List Oper) (k : Nat) (a : Act) (i : Nat) (o : Oper), t < a.tmps.size → m[i]? = some false → l[i]? = some o → o.dst = some t →
    (∀ (j : Nat) (o' : Oper), j ≠ i → m[j]? = some false → l[j]? = some o' → o'.dst ≠ some t) → (putRel m l v k a).tmps.getD t undef = v (k + i)
  | [], _, _, _, _, _, _, h, _, _, _ => by simp at h
  | _ :: _, [], _, _, _, _, _, _, h, _, _ => by simp at h
  | true :: m, _ :: l, k, a, i, o, ht, h1, h2, h3, h4 => by
    cases i with
    | zero => simp at h1
    | succ i =>
      simp only [putRel]
      rw [putRel_at v t m l (k + 1) a i o ht (by simpa using h1) (by simpa using h2) h3 fun j o' hj h5 h6 => h4 (j + 1) o' (by omega) (by simpa using h5) (by simpa using h6)]
      rw [show k + 1 + i = k + (i + 1) by omega]
  | false :: m, o' :: l, k, a, i, o, ht, h1, h2, h3, h4 => by
    cases i with
    | zero =>
      simp at h2
      subst h2
      simp only [putRel]
      rw [putRel_other v t m l (k + 1) _ (by rw [put_size]; exact ht) fun j o'' h5 h6 => h4 (j + 1) o'' (by omega) (by simpa using h5) (by simpa using h6)]
      rw [h3, put_getD a t _ t ht, if_pos rfl]
      rfl
    | succ i =>
      simp only [putRel]
      rw [putRel_at v t m l (k + 1) _ i o (by rw [put_size]; exact ht) (by simpa using h1) (by simpa using h2) h3 fun j o' hj h5 h6 => h4 (j + 1) o' (by omega) (by simpa using h5) (by simpa using h6)]
      rw [show k + 1 + i = k + (i + 1) by omega]

theorem rAt_mono {le : World → World → Prop} : ∀ (m : List Bool) (Rs : List (Value → World → Prop)), (∀ R ∈ Rs, ∀ v w w', R v w → le w w' → R v w') → ∀ i v w w', rAt m Rs i v w → le w w' → rAt m Rs i v w'
  | [], _, _, _, _, _, _, h, _ => by simpa [rAt] using h
  | true :: _, _, _, 0, _, _, _, _, _ => by simp [rAt]
  | true :: m, Rs, hR, i + 1, v, w, w', h, hb => rAt_mono m Rs hR i v w w' h hb
  | false :: _, [], _, _, _, _, _, _, _ => by simp [rAt]
  | false :: _, R :: _, hR, 0, v, w, w', h, hb => hR R (List.mem_cons_self ..) v w w' h hb
  | false :: m, _ :: Rs, hR, i + 1, v, w, w', h, hb => rAt_mono m Rs (fun R hm => hR R (List.mem_cons_of_mem _ hm)) i v w w' h hb

/-- THE RULE WITH RELATIONS. -/
theorem wp_region_rel {P : Program} {Q : Exit → Act → World → Prop} {id : Nat} {a : Act} {w : World} {l : List Oper} (n sz : Nat) (mask : List Bool) (Rs : List (Value → World → Prop)) (hm : P.follows .mixedOrders = true)
    (hB : okB l.toArray n = true) (hS : a.tmps.size = sz) (hM : maskOkB l.toArray n sz mask = true) (hR0 : ∀ R ∈ Rs, ∀ v w w', R v w → Below w.heap.size w w' → R v w')
    (h : wpQB P l.toArray w
      (fun a' => relObl P w mask (l.take n) Rs a' ∧ ∀ e : Ext w, relEnd (fun a'' => wpList P l.toArray Q (l.drop n) a'' e.to) e.to mask (l.take n) Rs a') (maskOps mask (l.take n)) a) :
    (Code.region id l.toArray true).wp P Q a w := by
  have ok := ok_of hB
  have hR := rAt_mono (le := fun w w' => Below w.heap.size w w') mask Rs hR0
  obtain ⟨hml, hms⟩ := maskOk_spec hM
  have hn : n ≤ l.length := by simpa using ok.le
  have hlen : (l.take n).length = n := by simp; omega
  have hml' : mask.length = (l.take n).length := by omega
  have hget : ∀ i, i < n → (l.take n)[i]? = l[i]? := fun i hi => by rw [List.getElem?_take, if_pos hi]
  obtain ⟨vs, hvl, hy, hobl, hend⟩ := quietB_split _ _ h
  rw [maskOps_len _ _ hml', hlen] at hvl
  -- what the lexical frame holds behind the first i operations
  have slot : ∀ (i : Nat), i ≤ n → ∀ (t : Tmp) (v : Value) (w' : World), t < a.tmps.size → (∀ j o, j < n → mask[j]? = some false → l[j]? = some o → o.dst ≠ some t) →
      SlotOf l.toArray n (fun i v w => if mask[i]? = some false then rAt mask Rs i v w else v = vs.getD i undef) a (fun k => decide (k < i)) t v w' →
      v = (lexActs a ((maskOps mask (l.take n)).take i) (vs.take i)).tmps.getD t undef := by
    intro i hi t v w' ht hno hs
    have hli : (vs.take i).length = ((maskOps mask (l.take n)).take i).length := by simp [hvl, maskOps_len _ _ hml']; omega
    have hgn : ∀ k ok', ((maskOps mask (l.take n)).take i)[k]? = some ok' → k < i ∧ ∃ o', l[k]? = some o' ∧ o'.dst = ok'.dst := fun k ok' hk => by
      have h1 := (List.getElem?_eq_some_iff.1 hk).1
      have hki : k < i := by simp at h1; omega
      rw [List.getElem?_take, if_pos hki] at hk
      obtain ⟨o', b, h2, _, h3⟩ := maskOps_dst _ _ _ _ hml' hk
      rw [hget k (by omega)] at h2
      exact ⟨hki, o', h2, h3⟩
    have hto : ∀ k o', k < i → l[k]? = some o' → ∃ ok', ((maskOps mask (l.take n)).take i)[k]? = some ok' ∧ ok'.dst = o'.dst := fun k o' hk ho' => by
      have hb : k < mask.length := by omega
      have := maskOps_get mask (l.take n) k mask[k] o' (by simp [hb]) (by rw [hget k (by omega)]; exact ho')
      refine ⟨_, by rw [List.getElem?_take, if_pos hk]; exact this, ?_⟩
      cases mask[k] <;> rfl
    rcases lex_slot _ _ a t hli ht with ⟨j, oj, h1, h2, h3, h4⟩ | ⟨h1, h2⟩
    · obtain ⟨hj, oj', hoj, hdj⟩ := hgn j oj h1
      rcases hs with ⟨j', oj'', hj', hlt, ho', hd', hm', hv⟩ | ⟨h5, _⟩
      · simp only [decide_eq_true_eq] at hlt
        have ho'l : l[j']? = some oj'' := by simpa using ho'
        obtain ⟨o3, h6, h7⟩ := hto j' oj'' hlt ho'l
        have e1 : j' ≤ j := h3 j' o3 h6 (by rw [h7]; exact hd')
        have e2 : j ≤ j' := hm' j oj' (by omega) (by simp [hj]) (by simpa using hoj) (by rw [hdj]; exact h2)
        obtain rfl : j' = j := by omega
        have hmj : mask[j']? ≠ some false := fun hmf => hno j' oj'' hj' hmf ho'l hd'
        rw [if_neg hmj] at hv
        rw [hv, h4]
        simp only [List.getD_eq_getElem?_getD, List.getElem?_take, if_pos hj]
      · exact absurd (by rw [hdj]; exact h2) (h5 j oj' (by omega) (by simp [hj]) (by simpa using hoj))
    · rcases hs with ⟨j', oj', hj', hlt, ho', hd', hm', hv⟩ | ⟨_, h5⟩
      · simp only [decide_eq_true_eq] at hlt
        obtain ⟨o3, h6, h7⟩ := hto j' oj' hlt (by simpa using ho')
        exact absurd (by rw [h7]; exact hd') (h1 j' o3 h6)
      · rw [h5, h2]
  have hsizeA : (lexActs a (maskOps mask (l.take n)) vs).tmps.size = a.tmps.size := lex_size _ _ _
  have htakeN : (maskOps mask (l.take n)).take n = maskOps mask (l.take n) := List.take_of_length_le (by rw [maskOps_len _ _ hml']; omega)
  have hvtN : vs.take n = vs := List.take_of_length_le (by omega)
  refine wp_region_flow (C := fun w' => ∃ e : Ext w, w' = e.to) (le := fun w w' => Below w.heap.size w w')
    (T := fun i v w => if mask[i]? = some false then rAt mask Rs i v w else v = vs.getD i undef) hm hB ⟨⟨_, (Below.refl _ w).drew⟩, rfl⟩ ?_ ?_ ?_
  · intro i v w1 w2 ht hle
    split
    · rename_i hmi; rw [if_pos hmi] at ht; exact hR i v w1 w2 ht hle
    · rename_i hmi; rw [if_neg hmi] at ht; exact ht
  · intro i o hi ho a' w' hC' hd hsz hlook
    have ho' : l[i]? = some o := by simpa using ho
    have hsel : ∀ cs d, o.op ≠ .select cs d := fun cs d => Region.noSelect_spec ok.noSel i o cs d ho
    by_cases hmi : mask[i]? = some false
    · -- a value that hangs on the world
      obtain ⟨⟨hg, _⟩, hj⟩ := hms i o ho hi hmi
      rw [if_pos (by simp [Region.wanted, hg])]
      obtain ⟨e, rfl⟩ := hC'
      have hsame : ∀ t ∈ o.looksAt l.toArray, a'.tmps.getD t undef = (lexActs a (maskOps mask (l.take n)) vs).tmps.getD t undef := by
        intro t ht
        by_cases htl : t < a.tmps.size
        · have hno : ∀ j oj, j < n → mask[j]? = some false → l[j]? = some oj → oj.dst ≠ some t := fun j oj hjn hmj hoj hdj => by
            have := (hms j oj (by simpa using hoj) hjn hmj).2 i o ho hi
            exact (this.1 t hdj).1 ht
          have hs2 : SlotOf l.toArray n (fun i v w => if mask[i]? = some false then rAt mask Rs i v w else v = vs.getD i undef) a (fun k => decide (k < n)) t (a'.tmps.getD t undef) e.to := by
            refine (hlook t ht htl).congr fun k ok' hk hok hdk => ?_
            by_cases hki : k < i
            · simp [hki, hk]
            · exact absurd ht ((hj k ok' hok hk).2 (by omega) t hdk)
          have := slot n (Nat.le_refl _) t _ e.to htl hno hs2
          rwa [htakeN, hvtN] at this
        · have htl' : a.tmps.size ≤ t := Nat.not_lt.1 htl
          rw [getD_out (show a'.tmps.size ≤ t by rw [hsz]; exact htl'), getD_out (by rw [hsizeA]; exact htl')]
      obtain ⟨e1, _⟩ := same_look (ops := l.toArray) hsel hsame (by rw [hsizeA]; exact hsz)
      refine wp_imp ?_ (wp_of_gives e1 (relObl_get mask (l.take n) Rs i o hobl hmi (by rw [hget i hi]; exact ho') e))
      rintro a'' w'' ⟨v, rfl, hb, hr⟩
      exact ⟨v, rfl, ⟨⟨w'', e.below.trans (hb.mono e.size)⟩, rfl⟩, hb, by dsimp only; rw [if_pos hmi]; exact hr⟩
    · -- a value that is the same in every world
      have hmt : mask[i]? = some true := by
        have hil : i < mask.length := by omega
        rw [List.getElem?_eq_getElem hil] at hmi ⊢
        cases hb : mask[i]
        · rw [hb] at hmi; exact absurd rfl hmi
        · rfl
      have hyi := hy i o (by have := maskOps_get mask (l.take n) i true o hmt (by rw [hget i hi]; exact ho'); simpa using this)
      have hsame : ∀ t ∈ o.looksAt l.toArray, a'.tmps.getD t undef = (lexActs a ((maskOps mask (l.take n)).take i) (vs.take i)).tmps.getD t undef := by
        intro t ht
        by_cases htl : t < a.tmps.size
        · refine slot i (by omega) t _ w' htl (fun j oj hjn hmj hoj hdj => ?_) (hlook t ht htl)
          exact ((hms j oj (by simpa using hoj) hjn hmj).2 i o ho hi).1 t hdj |>.1 ht
        · have htl' : a.tmps.size ≤ t := Nat.not_lt.1 htl
          rw [getD_out (show a'.tmps.size ≤ t by rw [hsz]; exact htl'), getD_out (by rw [lex_size]; exact htl')]
      obtain ⟨e1, e2⟩ := same_look (ops := l.toArray) hsel hsame (by rw [lex_size]; exact hsz)
      obtain ⟨e, rfl⟩ := hC'
      -- a quiet step leaves the world or grows it
      rcases hyi.of_same e1 e2 with ⟨hw, hv⟩ | ⟨hw, hv⟩
      · rw [if_pos hw]
        refine wp_imp ?_ (wp_of_quietB (hv e))
        rintro a'' w'' ⟨rfl, hb⟩
        exact ⟨_, rfl, ⟨⟨w'', e.below.trans (hb.mono e.size)⟩, rfl⟩, hb, by dsimp only; rw [if_neg hmi]⟩
      · rw [if_neg (by simp [hw])]
        exact ⟨by dsimp only; rw [if_neg hmi]; exact hv.symm, Below.refl _ _⟩
  · intro a' w' hC' hd hsz hs
    obtain ⟨e, rfl⟩ := hC'
    -- the relations' values, read off the frame at hand
    have hrel : ∀ i o, i < n → mask[i]? = some false → l[i]? = some o → ∀ t, o.dst = some t → t < a.tmps.size → rAt mask Rs i (a'.tmps.getD t undef) e.to := by
      intro i o hi hmi ho t hd' ht
      rcases hs t ht with ⟨j, oj, hj, _, hoj, hdj, _, hv⟩ | ⟨h5, _⟩
      · by_cases hji : j = i
        · subst hji; rw [if_pos hmi] at hv; exact hv
        · exact absurd hdj (((hms i o (by simpa using ho) hi hmi).2 j oj hoj hj).1 t hd' |>.2 hji)
      · exact absurd hd' (h5 i o hi (by simp [hi]) (by simpa using ho))
    have hval : ∀ i, i < (l.take n).length → mask[i]? = some false → rAt mask Rs i (a'.tmps.getD (((l[i]?).bind (·.dst)).getD 0) undef) e.to := by
      intro i hi hmi
      have hil : i < l.length := by omega
      obtain ⟨⟨_, d, hd', hlt⟩, _⟩ := hms i l[i] (by simp [hil]) (by omega) hmi
      have := hrel i l[i] (by omega) hmi (by simp [hil]) d hd' (by rw [hS]; exact hlt)
      simpa [hil, hd'] using this
    have hpe := relEnd_put mask (l.take n) Rs (fun i => a'.tmps.getD (((l[i]?).bind (·.dst)).getD 0) undef) 0 _ hobl (hend e) (fun i hi hmi => by rw [Nat.zero_add]; exact hval i hi hmi)
    have heq : a' = putRel mask (l.take n) (fun i => a'.tmps.getD (((l[i]?).bind (·.dst)).getD 0) undef) 0 (lexActs a (maskOps mask (l.take n)) vs) := by
      have ht : a'.tmps = (putRel mask (l.take n) (fun i => a'.tmps.getD (((l[i]?).bind (·.dst)).getD 0) undef) 0 (lexActs a (maskOps mask (l.take n)) vs)).tmps := by
        apply Array.ext
        · rw [putRel_size, hsizeA]; exact hsz
        · intro t h1 h2
          have hta : t < a.tmps.size := by rw [← hsz]; exact h1
          have key : a'.tmps.getD t undef = (putRel mask (l.take n) (fun i => a'.tmps.getD (((l[i]?).bind (·.dst)).getD 0) undef) 0 (lexActs a (maskOps mask (l.take n)) vs)).tmps.getD t undef := by
            by_cases hex : ∃ i o, i < n ∧ mask[i]? = some false ∧ l[i]? = some o ∧ o.dst = some t
            · obtain ⟨i, o, hi, hmi, ho, hd'⟩ := hex
              rw [putRel_at _ t mask (l.take n) 0 _ i o (by rw [hsizeA]; exact hta) hmi (by rw [hget i hi]; exact ho) hd' (fun j o' hji hmj ho' hdj => ?_)]
              · simp [ho, hd']
              · have hjn : j < n := by have := (List.getElem?_eq_some_iff.1 ho').1; omega
                rw [hget j hjn] at ho'
                exact ((hms i o (by simpa using ho) hi hmi).2 j o' (by simpa using ho') hjn).1 t hd' |>.2 hji hdj
            · rw [putRel_other _ t mask (l.take n) 0 _ (by rw [hsizeA]; exact hta) (fun i o hmi ho hd' => ?_)]
              · have := slot n (Nat.le_refl _) t _ e.to hta (fun j o hj hmj ho hd' => hex ⟨j, o, hj, hmj, ho, hd'⟩) (hs t hta)
                rwa [htakeN, hvtN] at this
              · have hin : i < n := by have := (List.getElem?_eq_some_iff.1 ho).1; omega
                rw [hget i hin] at ho
                exact hex ⟨i, o, hin, hmi, ho, hd'⟩
          have k2 := getD_same (by rw [putRel_size, hsizeA]; exact hsz) key
          rw [Array.getElem?_eq_getElem h1, Array.getElem?_eq_getElem h2] at k2
          exact Option.some.inj k2
      have hdd : a'.defers = (putRel mask (l.take n) (fun i => a'.tmps.getD (((l[i]?).bind (·.dst)).getD 0) undef) 0 (lexActs a (maskOps mask (l.take n)) vs)).defers := by rw [putRel_defers, lex_defers]; exact hd
      generalize putRel mask (l.take n) (fun i => a'.tmps.getD (((l[i]?).bind (·.dst)).getD 0) undef) 0 (lexActs a (maskOps mask (l.take n)) vs) = b at ht hdd
      cases a'
      cases b
      simp only at ht hdd
      rw [ht, hdd]
    rw [heq]
    simpa using hpe
end Go.Flow
