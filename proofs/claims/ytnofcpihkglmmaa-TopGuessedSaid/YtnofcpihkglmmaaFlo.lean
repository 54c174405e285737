/-
  A drawn region once more: some operations (floats) yield their value in every world and may be taken first; the tail's operations wait for the whole head; values that hang on the world may be looked at by later ones of their kind.
  Conditions: the Bools 'ok2B', 'floatB', 'mask2B' over the region's own edges.
-/
import Derived.Test.YtnofcpihkglmmaaFlow
namespace Go.Flow
set_option linter.unusedVariables false
set_option linter.unusedSimpArgs false
set_option linter.unnecessarySimpa false
open Go.RowKit

/-- what is listed when the head and the floats are over -/
def startB (ops : Array Oper) (n : Nat) (fl : Nat → Bool) : Array Bool := ((List.range ops.size).map fun i => decide (i < n) || fl i).toArray
def seqJ (ops : Array Oper) : List Nat → Array Bool → Bool
  | [], listed => (Region.ready .any ops listed).isEmpty
  | j :: js, listed => decide (Region.ready .any ops listed = [j]) && seqJ ops js (listed.setIfInBounds j true)

theorem wpAny_of_js {P : Program} {ops : Array Oper} {Q : Exit → Act → World → Prop} : ∀ (js : List Nat) (listed : Array Bool) (a : Act) (w : World), seqJ ops js listed = true → (∀ j ∈ js, j < ops.size) →
    wpList P ops Q (js.filterMap fun j => ops[j]?) a w → wpAny P .any ops Q js.length listed a w
  | [], _, _, _, hB, _, h => ⟨by simpa [seqJ] using hB, h⟩
  | j :: js, listed, a, w, hB, hin, h => by
    have h0 : ops[j]? = some (ops[j]'(hin j (List.mem_cons_self ..))) := Array.getElem?_eq_getElem _
    simp only [List.length_cons, seqJ, Bool.and_eq_true, decide_eq_true_eq] at hB
    refine ⟨fun h1 => (by rw [hB.1] at h1; cases h1), fun i hi => ?_⟩
    rw [hB.1] at hi
    have hij : i = j := by simpa using hi
    subst hij
    rw [List.filterMap_cons_some h0] at h
    have hw : wpOp P ops Q i (wpList P ops Q (js.filterMap fun j => ops[j]?)) a w := by unfold wpOp; simp only [h0]; exact h
    exact wpOp_mono (fun a' w' h' => wpAny_of_js js _ a' w' hB.2 (fun j hj => hin j (List.mem_cons_of_mem _ hj)) h') hw

/-- The region's own Bool: as 'okB', but the tail is the list js, in this order, and the floats fs are out of it. -/
def ok2B (ops : Array Oper) (n : Nat) (fs js : List Nat) : Bool :=
  let b := preds ops
  Region.noSelect ops && decide (n ≤ ops.size) &&
  nthB (fun j o => decide (n ≤ j) || o.after.all fun e => !Region.binds .any e || decide (e.on < j)) 0 ops.toList &&
  nthB (fun j o => decide (n ≤ j) || nthB (fun i o' => decide (j ≤ i) || !clash ops o' o || (b.getD j 0).testBit i) 0 ops.toList) 0 ops.toList &&
  nthB (fun j _ => decide (j < n) || fs.contains j || (List.range n).all fun i => (b.getD j 0).testBit i) 0 ops.toList &&
  (js.all fun j => decide (j < ops.size)) &&
  seqJ ops js (startB ops n fs.contains)

structure Ok2 (ops : Array Oper) (n : Nat) (fl : Nat → Bool) (js : List Nat) : Prop where
  noSel : Region.noSelect ops = true
  le : n ≤ ops.size
  back : ∀ j, j < n → ∀ o, ops[j]? = some o → ∀ e ∈ o.after, Region.binds .any e = true → e.on < j
  apart : ∀ i j oi oj, j < n → i < j → ops[i]? = some oi → ops[j]? = some oj → clash ops oi oj = true → Pred ops i j
  tail : ∀ i j oj, i < n → n ≤ j → fl j = false → ops[j]? = some oj → Pred ops i j
  inb : ∀ j ∈ js, j < ops.size
  seq : seqJ ops js (startB ops n fl) = true

theorem ok2_of {ops : Array Oper} {n : Nat} {fs js : List Nat} (h : ok2B ops n fs js = true) : Ok2 ops n fs.contains js := by
  simp only [ok2B, Bool.and_eq_true, decide_eq_true_eq] at h
  obtain ⟨⟨⟨⟨⟨⟨h1, h2⟩, h3⟩, h4⟩, h5⟩, h6⟩, h7⟩ := h
  refine ⟨h1, h2, ?_, ?_, ?_, ?_, h7⟩
  · intro j hj o ho e he hb
    have := nthB_spec _ _ h3 j o (by simpa using ho)
    simp only [Nat.zero_add, Bool.or_eq_true, decide_eq_true_eq] at this
    have := this.resolve_left (by omega)
    rw [Array.all_eq_true_iff_forall_mem] at this
    have := this e he
    simp [hb] at this
    exact this
  · intro i j oi oj hj hij hi hoj hc
    have := nthB_spec _ _ h4 j oj (by simpa using hoj)
    simp only [Nat.zero_add, Bool.or_eq_true, decide_eq_true_eq] at this
    have := this.resolve_left (by omega)
    have := nthB_spec _ _ this i oi (by simpa using hi)
    simp only [Nat.zero_add, Bool.or_eq_true, decide_eq_true_eq, Bool.not_eq_true', hc] at this
    rcases this with (h | h) | h
    · omega
    · cases h
    · exact preds_spec h
  · intro i j oj hi hj hfl hoj
    have := nthB_spec _ _ h5 j oj (by simpa using hoj)
    simp only [Nat.zero_add, Bool.or_eq_true, decide_eq_true_eq, List.all_eq_true, List.mem_range] at this
    rcases this with (h | h) | h
    · omega
    · rw [hfl] at h; cases h
    · exact preds_spec (h i hi)
  · intro j hj
    have := List.all_eq_true.1 h6 j hj
    simpa using this

section
variable {P : Program} {ops : Array Oper} {C : World → Prop} {le : World → World → Prop} {T : Nat → Value → World → Prop} {n : Nat} {a0 : Act} {Q : Exit → Act → World → Prop}

structure Inv2 (ops : Array Oper) (fl : Nat → Bool) (C : World → Prop) (T : Nat → Value → World → Prop) (n : Nat) (a0 : Act) (listed : Array Bool) (a : Act) (w : World) : Prop where
  size : listed.size = ops.size
  closed : Closed ops (fun i => listed.getD i false)
  tail : ∀ t, n ≤ t → t < ops.size → listed.getD t false = fl t
  cls : C w
  defers : a.defers = a0.defers
  tsize : a.tmps.size = a0.tmps.size
  slots : ∀ t, t < a0.tmps.size → SlotOf ops n T a0 (fun i => listed.getD i false) t (a.tmps.getD t undef) w

theorem Inv2.next {fl : Nat → Bool} {js : List Nat} (hT : ∀ i v w w', T i v w → le w w' → T i v w') (ok : Ok2 ops n fl js) {listed : Array Bool} {a : Act} {w w' : World} (inv : Inv2 ops fl C T n a0 listed a w) {i : Nat} {o : Oper} {v : Value}
    (ho : ops[i]? = some o) (hin : i < n) (hun : listed.getD i false = false) (hall : ∀ e ∈ o.after, Region.binds .any e = true → listed.getD e.on false = true)
    (hC : C w') (hle : le w w') (hv : T i v w') : Inv2 ops fl C T n a0 (listed.setIfInBounds i true) (a.put o.dst v) w' := by
  have his : i < listed.size := by rw [inv.size]; exact (Array.getElem?_eq_some_iff.1 ho).1
  refine ⟨by simp [inv.size], ?_, ?_, hC, (put_defers' _ _ _).trans inv.defers, (put_size _ _ _).trans inv.tsize, ?_⟩
  · intro j oj hoj hl e he hb
    simp only [getD_setB his] at hl ⊢
    by_cases h2 : e.on = i
    · simp [h2]
    · rw [if_neg h2]
      by_cases h1 : j = i
      · subst h1
        have : oj = o := Option.some.inj (hoj.symm.trans ho)
        subst this
        exact hall e he hb
      · rw [if_neg h1] at hl
        exact inv.closed j oj hoj hl e he hb
  · intro t ht hts
    rw [getD_setB his, if_neg (by omega)]
    exact inv.tail t ht hts
  · intro t ht
    have hs := (inv.slots t ht).mono hT hle
    cases hd : o.dst with
    | none =>
      show SlotOf ops n T a0 _ t ((a.put none v).tmps.getD t undef) w'
      refine hs.congr fun k ok' hk hok hdk => ?_
      have hne : k ≠ i := fun e => by subst e; rw [ho] at hok; cases hok; rw [hd] at hdk; cases hdk
      simp only [getD_setB his, if_neg hne]
    | some d =>
      rw [put_getD a d v t (by rw [inv.tsize]; exact ht)]
      by_cases hdt : d = t
      · subst hdt
        rw [if_pos rfl]
        refine .inl ⟨i, o, hin, by simp [getD_setB his], ho, hd, fun k ok' hk hlk hok hdk => ?_, hv⟩
        by_cases hki : k = i
        · omega
        · dsimp only at hlk
          rw [getD_setB his, if_neg hki] at hlk
          rcases Nat.lt_or_ge i k with h | h
          · have hp := ok.apart i k o ok' hk h ho hok (clash_left hd (by simp [names, hdk]))
            have := hp _ inv.closed (fun o' ho' e he hb => inv.closed k o' ho' hlk e he hb)
            simp only [hun] at this
            cases this
          · exact h
      · rw [if_neg hdt]
        refine hs.congr fun k ok' hk hok hdk => ?_
        have hne : k ≠ i := fun e => by subst e; rw [ho] at hok; cases hok; rw [hd] at hdk; exact hdt (Option.some.inj hdk)
        simp only [getD_setB his, if_neg hne]

theorem flow_any2 {fl : Nat → Bool} {js : List Nat} (hT : ∀ i v w w', T i v w → le w w' → T i v w') (ok : Ok2 ops n fl js) (hstep : ∀ i o, i < n → ops[i]? = some o → Step P ops C le T n a0 i o)
    (hend : ∀ a w, C w → a.defers = a0.defers → a.tmps.size = a0.tmps.size → (∀ t, t < a0.tmps.size → SlotOf ops n T a0 (fun k => decide (k < n)) t (a.tmps.getD t undef) w) → wpList P ops Q (js.filterMap fun j => ops[j]?) a w) :
    ∀ (d : Nat) (listed : Array Bool) (a : Act) (w : World), left (fun i => listed.getD i false) n = d → Inv2 ops fl C T n a0 listed a w → wpAny P .any ops Q (d + js.length) listed a w
  | 0, listed, a, w, hd, inv => by
    have hall := left_zero _ n hd
    have hl : listed = startB ops n fl := by
      apply Array.ext
      · simp [inv.size, startB]
      · intro i h1 h2
        have his : i < ops.size := by rw [← inv.size]; exact h1
        have e1 : listed[i] = listed.getD i false := by simp only [Array.getD_eq_getD_getElem?, Array.getElem?_eq_getElem h1, Option.getD_some]
        rw [e1]
        simp only [startB, List.getElem_toArray, List.getElem_map, List.getElem_range]
        by_cases hi : i < n
        · rw [hall i hi]; simp [hi]
        · rw [inv.tail i (by omega) his]; simp [hi]
    rw [Nat.zero_add]
    refine wpAny_of_js js listed a w (by rw [hl]; exact ok.seq) ok.inb ?_
    refine hend a w inv.cls inv.defers inv.tsize fun t ht => ?_
    refine (inv.slots t ht).congr fun k ok' hk _ _ => ?_
    simp only [hk, decide_true]
    exact (hall k hk).symm
  | d + 1, listed, a, w, hd, inv => by
    rw [show d + 1 + js.length = (d + js.length) + 1 by omega]
    refine ⟨fun h0 => ?_, fun i hi => ?_⟩
    · exfalso
      obtain ⟨i, hi, h1, h2⟩ := left_least _ n (by omega : left (fun i => listed.getD i false) n ≠ 0)
      have hlt : i < ops.size := by have := ok.le; omega
      have hmem : i ∈ Region.ready .any ops listed := by
        refine mem_ready.2 ⟨?_, ops[i], by simp [hlt], fun e he hb => h2 _ (ok.back i hi ops[i] (by simp [hlt]) e he hb)⟩
        have his : i < listed.size := by rw [inv.size]; exact hlt
        simp only [Array.getD_eq_getD_getElem?, Array.getElem?_eq_getElem his, Option.getD_some] at h1 ⊢
        exact h1
      rw [h0] at hmem
      cases hmem
    · obtain ⟨hun', o, ho, hall⟩ := mem_ready.1 hi
      have hun : listed.getD i false = false := getD_both hun'
      have hios : i < ops.size := (Array.getElem?_eq_some_iff.1 ho).1
      have hin : i < n := by
        rcases Nat.lt_or_ge i n with h | h
        · exact h
        · exfalso
          obtain ⟨m, hm, h1, _⟩ := left_least _ n (by omega : left (fun i => listed.getD i false) n ≠ 0)
          have hfl : fl i = false := by rw [← inv.tail i h hios]; exact hun
          have := ok.tail m i o hm h hfl ho _ inv.closed (fun o' ho' e he hb => hall e (by rw [ho] at ho'; cases ho'; exact he) hb)
          rw [h1] at this
          cases this
      have his : i < listed.size := by rw [inv.size]; exact (Array.getElem?_eq_some_iff.1 ho).1
      have hdn : left (fun k => (listed.setIfInBounds i true).getD k false) n = d := by
        have := left_set (fun k => listed.getD k false) (fun k => (listed.setIfInBounds i true).getD k false) i hun (by simp [getD_setB his]) (fun j hj => by simp only [getD_setB his, if_neg hj]) n
        rw [if_pos hin] at this
        omega
      have hlook : ∀ t ∈ o.looksAt ops, t < a0.tmps.size → SlotOf ops n T a0 (fun k => decide (k < i)) t (a.tmps.getD t undef) w := by
        intro t ht htl
        refine (inv.slots t htl).congr fun k ok' hk hok hdk => ?_
        rcases Nat.lt_trichotomy k i with h | h | h
        · simp only [h, decide_true]
          have hp := ok.apart k i ok' o hin h hok ho (clash_left hdk (by simp [names, ht]))
          exact (hp _ inv.closed (fun o' ho' e he hb => hall e (by rw [ho] at ho'; cases ho'; exact he) hb)).symm
        · subst h
          simp only [Nat.lt_irrefl, decide_false]
          exact hun.symm
        · simp only [show ¬ k < i by omega, decide_false]
          cases hl : listed.getD k false
          · rfl
          · have hp := ok.apart i k o ok' hk h ho hok (clash_right hdk (by simp [names, ht]))
            have := hp _ inv.closed (fun o' ho' e he hb => inv.closed k o' ho' hl e he hb)
            simp only [hun] at this
            cases this
      have hs := hstep i o hin ho a w inv.cls inv.defers inv.tsize hlook
      unfold wpOp
      simp only [ho]
      by_cases hw : Region.wanted o (yielded ops a.tmps) = true
      · rw [if_pos hw] at hs ⊢
        refine .inl (wp_imp ?_ hs)
        rintro a' w' ⟨v, rfl, hC, hle, hv⟩
        exact flow_any2 hT ok hstep hend d _ _ _ hdn (inv.next hT ok ho hin hun hall hC hle hv)
      · rw [if_neg hw] at hs ⊢
        exact flow_any2 hT ok hstep hend d _ _ _ hdn (inv.next hT ok ho hin hun hall inv.cls hs.2 hs.1)

end

/-! ### Floats -/
def floatB (ops : Array Oper) : List Nat → List Nat → Bool
  | _, [] => true
  | done, f :: fs => (match ops[f]? with
    | none => false
    | some o => o.after.all (fun e => !Region.binds .any e || (done.contains e.on && decide (e.on < ops.size))) && !done.contains f &&
      nthB (fun j oj => decide (j = f) || done.contains j || (oj.after.any fun e => Region.binds .any e && decide (e.on = f)) || o.apart ops oj) 0 ops.toList) && floatB ops (f :: done) fs
def wpFl (P : Program) (ops : Array Oper) (K : Act → Prop) : List Oper → Act → Prop
  | [], a => K a
  | o :: l, a => ∃ v, Yields P ops o v a ∧ wpFl P ops K l (a.put o.dst v)
theorem wpFl_step {P : Program} {ops : Array Oper} {K : Act → Prop} {o : Oper} {l : List Oper} {a : Act} (v : Value) (hw : Region.wanted o (yielded ops a.tmps) = true) (h : ∀ w, (execOp a.eval o).run P w = .ok (.value v) w) (hr : wpFl P ops K l (a.put o.dst v)) : wpFl P ops K (o :: l) a := ⟨v, .inl ⟨hw, h⟩, hr⟩

def setAll (listed : Array Bool) : List Nat → Array Bool
  | [] => listed
  | f :: fs => setAll (listed.setIfInBounds f true) fs

theorem take_floats {P : Program} {ops : Array Oper} {K : Act → World → Prop} {Kf : Act → Prop} (hsel : ∀ (j : Nat) (o : Oper) cs b, ops[j]? = some o → o.op ≠ .select cs b) :
    ∀ (fs done : List Nat) (listed : Array Bool) (a : Act) (w : World) (fuel : Nat), floatB ops done fs = true → listed.size = ops.size → (∀ j, j < ops.size → listed.getD j false = done.contains j) →
      wpFl P ops Kf (fs.filterMap fun f => ops[f]?) a → (∀ a', Kf a' → a'.tmps.size = a.tmps.size → a'.defers = a.defers → wpAny P .any ops (Exit.then K (fun _ _ _ => False)) fuel (setAll listed fs) a' w) →
      wpAny P .any ops (Exit.then K (fun _ _ _ => False)) (fuel + fs.length) listed a w
  | [], _, _, a, _, _, _, _, _, hf, h => h a hf rfl rfl
  | f :: fs, done, listed, a, w, fuel, hB, hsz, hl, hf, h => by
    simp only [floatB, Bool.and_eq_true] at hB
    obtain ⟨hB1, hB2⟩ := hB
    cases ho : ops[f]? with
    | none => rw [ho] at hB1; cases hB1
    | some o =>
      rw [ho] at hB1
      simp only [Bool.and_eq_true, Bool.not_eq_true'] at hB1
      obtain ⟨⟨h1, h2⟩, h3⟩ := hB1
      have hfo : f < ops.size := (Array.getElem?_eq_some_iff.1 ho).1
      have hfl : f < listed.size := by rw [hsz]; exact hfo
      rw [List.filterMap_cons_some ho] at hf
      obtain ⟨v, hy, hr⟩ := hf
      rw [List.length_cons, ← Nat.add_assoc]
      have hready : f ∈ Region.ready .any ops listed := by
        refine mem_ready.2 ⟨?_, o, ho, fun e he hb => ?_⟩
        · have := hl f hfo
          rw [h2] at this
          simp only [Array.getD_eq_getD_getElem?, Array.getElem?_eq_getElem hfl, Option.getD_some] at this ⊢
          exact this
        · rw [Array.all_eq_true_iff_forall_mem] at h1
          have h4 := h1 e he
          simp only [hb, Bool.not_true, Bool.false_or, Bool.and_eq_true, decide_eq_true_eq] at h4
          rw [hl e.on h4.2]; exact h4.1
      refine wpAny_first ho hsel (fun c a w hh => hh) (fuel + fs.length) listed a w ?_ hready hy ?_
      · intro j oj hoj hjf hun hno
        have hjs : j < ops.size := (Array.getElem?_eq_some_iff.1 hoj).1
        have h4 := nthB_spec _ _ h3 j oj (by simpa using hoj)
        simp only [Nat.zero_add, Bool.or_eq_true, decide_eq_true_eq] at h4
        rcases h4 with ((h4 | h4) | h4) | h4
        · exact absurd h4 hjf
        · have := hl j hjs
          rw [h4] at this
          have hjl : j < listed.size := by rw [hsz]; exact hjs
          simp only [Array.getD_eq_getD_getElem?, Array.getElem?_eq_getElem hjl, Option.getD_some] at this hun
          rw [this] at hun; cases hun
        · rw [Array.any_eq_true] at h4
          obtain ⟨q, hq, h5⟩ := h4
          simp only [Bool.and_eq_true, decide_eq_true_eq] at h5
          exact absurd h5.2 (hno _ (Array.getElem_mem hq) h5.1)
        · exact h4
      · refine take_floats hsel fs (f :: done) _ _ w fuel hB2 (by simp [hsz]) ?_ hr ?_
        · intro j hj
          rw [getD_setB hfl]
          by_cases hjf : j = f
          · simp [hjf]
          · rw [if_neg hjf, hl j hj]; simp [hjf]
        · intro a' hk h5 h6
          exact h a' hk (h5.trans (put_size _ _ _)) (h6.trans (put_defers' _ _ _))

theorem setAll_size : ∀ (fs : List Nat) (listed : Array Bool), (setAll listed fs).size = listed.size
  | [], _ => rfl
  | f :: fs, listed => by rw [setAll, setAll_size fs]; simp
theorem setAll_getD : ∀ (fs : List Nat) (listed : Array Bool) (k : Nat), k < listed.size → (setAll listed fs).getD k false = (fs.contains k || listed.getD k false)
  | [], _, _, _ => by simp [setAll]
  | f :: fs, listed, k, hk => by
    rw [setAll, setAll_getD fs _ k (by simpa using hk)]
    by_cases hfl : f < listed.size
    · rw [getD_setB hfl]
      by_cases hkf : k = f
      · subst hkf; simp
      · rw [if_neg hkf]; simp [hkf]
    · have : listed.setIfInBounds f true = listed := Array.setIfInBounds_eq_of_size_le (by omega)
      rw [this]
      have hkf : k ≠ f := by omega
      simp [hkf]

theorem wp_weaken {P : Program} {o : Oper} {a : Act} {w : World} {K1 K2 K : Act → World → Prop} {Q : Exit → Act → World → Prop} (hk : ∀ a w, K1 a w → K2 a w) (h : o.wp P a w K1 (Exit.then K (fun _ _ _ => False))) : o.wp P a w K2 Q := by
  unfold Oper.wp at *
  generalize (execOp a.eval o).run P w = r at *
  cases r with
  | ok x w' =>
    cases x <;> simp only [Oper.upon] at h ⊢ <;>
      first
        | exact hk _ _ h
        | exact Calls.mono h (fun e w'' he => by cases e <;> first | exact hk _ _ he | exact he.elim | exact (let ⟨_, _, hf⟩ := he; hf.elim))
        | exact Rows.mono h (fun _ _ he => hk _ _ he)
  | halt x w' => cases x <;> simp only [Oper.upon] at h ⊢ <;> first | exact h | exact h.elim | (exact False.elim h)
theorem wpAny_weaken {P : Program} {ops : Array Oper} {K : Act → World → Prop} {Q : Exit → Act → World → Prop} : ∀ (fuel : Nat) (listed : Array Bool) (a : Act) (w : World), wpAny P .any ops (Exit.then K (fun _ _ _ => False)) fuel listed a w → wpAny P .any ops (Exit.then K Q) fuel listed a w
  | 0, _, _, _, h => h
  | fuel + 1, listed, a, w, h => ⟨h.1, fun i hi => by
    have h2 := h.2 i hi
    unfold wpOp at h2 ⊢
    cases ho : ops[i]? with
    | none => rw [ho] at h2; exact wpAny_weaken fuel _ _ _ h2
    | some o =>
      rw [ho] at h2
      simp only at h2 ⊢
      split at h2
      · rename_i hw
        rw [if_pos hw]
        rcases h2 with h2 | ⟨_, _, _, h3⟩
        · exact .inl (wp_weaken (fun a w hh => wpAny_weaken fuel _ a w hh) h2)
        · exact h3.elim
      · rename_i hw
        rw [if_neg hw]
        exact wpAny_weaken fuel _ _ _ h2⟩

/-! ### Values that hang on the world and on one another -/
def looksB (ops : Array Oper) (o : Oper) : Option Tmp → Bool
  | some t => (o.looksAt ops).contains t
  | none => false
def under (ops : Array Oper) (o : Oper) : List (Option Tmp × (Value → World → Prop)) → (Act → World → Prop) → Act → World → Prop
  | [], K, a, w => K a w
  | (d, R) :: acc, K, a, w => ∀ v, (looksB ops o d = true → R v w) → under ops o acc K (a.put d v) w
def relObl2 (P : Program) (ops : Array Oper) (w : World) : List Bool → List Oper → List (Value → World → Prop) → List (Option Tmp × (Value → World → Prop)) → Act → Prop
  | true :: m, _ :: l, Rs, acc, a => relObl2 P ops w m l Rs acc a
  | false :: m, o :: l, R :: Rs, acc, a => (∀ e : Ext w, under ops o acc (fun a' w' => o.gives P a' w' fun v w'' => Below w'.heap.size w' w'' ∧ R v w'') a e.to) ∧ relObl2 P ops w m l Rs (acc ++ [(o.dst, R)]) a
  | [], _, _, _, _ => True
  | _ :: _, [], _, _, _ => True
  | false :: _, _ :: _, [], _, _ => False

def accOf : List Bool → List Oper → List (Value → World → Prop) → Nat → List (Option Tmp × (Value → World → Prop))
  | true :: m, _ :: l, Rs, i + 1 => accOf m l Rs i
  | false :: m, o :: l, R :: Rs, i + 1 => (o.dst, R) :: accOf m l Rs i
  | _, _, _, _ => []
theorem relObl2_get {P : Program} {ops : Array Oper} {w : World} {a : Act} : ∀ (m : List Bool) (l : List Oper) (Rs : List (Value → World → Prop)) (acc : List (Option Tmp × (Value → World → Prop))) (i : Nat) (o : Oper), relObl2 P ops w m l Rs acc a → m[i]? = some false → l[i]? = some o →
    ∀ e : Ext w, under ops o (acc ++ accOf m l Rs i) (fun a' w' => o.gives P a' w' fun v w'' => Below w'.heap.size w' w'' ∧ rAt m Rs i v w'') a e.to
  | [], _, _, _, _, _, _, h, _ => by simp at h
  | _ :: _, [], _, _, _, _, _, _, h => by simp at h
  | true :: m, _ :: l, Rs, acc, i, o, h, h1, h2 => by
    cases i with
    | zero => simp at h1
    | succ i => exact relObl2_get m l Rs acc i o h (by simpa using h1) (by simpa using h2)
  | false :: m, o' :: l, [], acc, i, o, h, _, _ => h.elim
  | false :: m, o' :: l, R :: Rs, acc, i, o, h, h1, h2 => by
    cases i with
    | zero => simp at h2; subst h2; simpa [accOf, rAt] using h.1
    | succ i =>
      have := relObl2_get m l Rs (acc ++ [(o'.dst, R)]) i o h.2 (by simpa using h1) (by simpa using h2)
      simpa [accOf, rAt, List.append_assoc] using this
theorem accOf_mem : ∀ (m : List Bool) (l : List Oper) (Rs : List (Value → World → Prop)) (i : Nat) (p : Option Tmp × (Value → World → Prop)), p ∈ accOf m l Rs i → ∃ j oj, j < i ∧ m[j]? = some false ∧ l[j]? = some oj ∧ p = (oj.dst, rAt m Rs j)
  | true :: m, _ :: l, Rs, i + 1, p, h => by
    obtain ⟨j, oj, h1, h2, h3, h4⟩ := accOf_mem m l Rs i p (by simpa [accOf] using h)
    exact ⟨j + 1, oj, by omega, by simpa using h2, by simpa using h3, by simpa [rAt] using h4⟩
  | false :: m, o :: l, R :: Rs, i + 1, p, h => by
    simp only [accOf, List.mem_cons] at h
    rcases h with rfl | h
    · exact ⟨0, o, by omega, rfl, rfl, by simp [rAt]⟩
    · obtain ⟨j, oj, h1, h2, h3, h4⟩ := accOf_mem m l Rs i p h
      exact ⟨j + 1, oj, by omega, by simpa using h2, by simpa using h3, by simpa [rAt] using h4⟩
  | [], _, _, _, _, h => by simp [accOf] at h
  | _ :: _, [], _, _, _, h => by simp [accOf] at h
  | true :: _, _ :: _, _, 0, _, h => by simp [accOf] at h
  | false :: _, _ :: _, [], _, _, h => by simp [accOf] at h
  | false :: _, _ :: _, _ :: _, 0, _, h => by simp [accOf] at h

def putG (g : Tmp → Value) : List (Option Tmp × (Value → World → Prop)) → Act → Act
  | [], a => a
  | p :: acc, a => putG g acc (a.put p.1 (g (p.1.getD 0)))
theorem under_inst {ops : Array Oper} {o : Oper} (g : Tmp → Value) : ∀ (acc : List (Option Tmp × (Value → World → Prop))) (K : Act → World → Prop) (a : Act) (w : World), under ops o acc K a w →
    (∀ p ∈ acc, looksB ops o p.1 = true → p.2 (g (p.1.getD 0)) w) → K (putG g acc a) w
  | [], _, _, _, h, _ => h
  | (d, R) :: acc, K, a, w, h, hr => under_inst g acc K _ w (h _ (hr _ (List.mem_cons_self ..))) (fun p hp => hr p (List.mem_cons_of_mem _ hp))
theorem putG_size (g : Tmp → Value) : ∀ (acc : List (Option Tmp × (Value → World → Prop))) (a : Act), (putG g acc a).tmps.size = a.tmps.size
  | [], _ => rfl
  | p :: acc, a => by rw [putG, putG_size g acc, put_size]
theorem putG_getD (g : Tmp → Value) (t : Tmp) : ∀ (acc : List (Option Tmp × (Value → World → Prop))) (a : Act), t < a.tmps.size →
    ((∃ p ∈ acc, p.1 = some t) → (putG g acc a).tmps.getD t undef = g t) ∧ ((∀ p ∈ acc, p.1 ≠ some t) → (putG g acc a).tmps.getD t undef = a.tmps.getD t undef)
  | [], a, _ => ⟨fun ⟨p, hp, _⟩ => (by simp at hp), fun _ => rfl⟩
  | (d, R) :: acc, a, ht => by
    obtain ⟨h1, h2⟩ := putG_getD g t acc (a.put d (g (d.getD 0))) (by rw [put_size]; exact ht)
    refine ⟨fun ⟨p, hp, he⟩ => ?_, fun hno => ?_⟩
    · by_cases hex : ∃ p ∈ acc, p.1 = some t
      · exact h1 hex
      · have hd : d = some t := by
          rcases List.mem_cons.1 hp with rfl | hp
          · exact he
          · exact absurd ⟨p, hp, he⟩ hex
        rw [putG, h2 (fun p hp he => hex ⟨p, hp, he⟩)]
        subst hd
        rw [put_getD a t _ t ht, if_pos rfl]
        rfl
    · rw [putG, h2 (fun p hp => hno p (List.mem_cons_of_mem _ hp))]
      cases d with
      | none => rfl
      | some d =>
        have hne : d ≠ t := fun e => hno (some d, R) (List.mem_cons_self ..) (by rw [e])
        rw [put_getD a d _ t ht, if_neg hne]

theorem relEnd_put2 {Qt : Act → Prop} {w' : World} {P : Program} {ops : Array Oper} {w : World} {a0 : Act} : ∀ (m : List Bool) (l : List Oper) (Rs : List (Value → World → Prop)) (acc : List (Option Tmp × (Value → World → Prop))) (v : Nat → Value) (k : Nat) (a : Act), relObl2 P ops w m l Rs acc a0 → relEnd Qt w' m l Rs a →
    (∀ i, i < l.length → m[i]? = some false → rAt m Rs i (v (k + i)) w') → Qt (putRel m l v k a)
  | [], _, _, _, _, _, _, _, h, _ => by simpa [putRel, relEnd] using h
  | _ :: _, [], _, _, _, _, _, _, h, _ => by simpa [putRel, relEnd] using h
  | true :: m, _ :: l, Rs, acc, v, k, a, ho, h, hr => by
    simp only [putRel]
    refine relEnd_put2 m l Rs acc v (k + 1) a ho h fun i hi hm => ?_
    have := hr (i + 1) (by simpa using hi) (by simpa using hm)
    rw [show k + 1 + i = k + (i + 1) by omega]
    exact this
  | false :: m, o :: l, [], _, v, k, a, ho, _, _ => ho.elim
  | false :: m, o :: l, R :: Rs, acc, v, k, a, ho, h, hr => by
    simp only [putRel]
    refine relEnd_put2 m l Rs _ v (k + 1) _ ho.2 (h (v k) (hr 0 (by simp) rfl)) fun i hi hm => ?_
    have := hr (i + 1) (by simpa using hi) (by simpa using hm)
    rw [show k + 1 + i = k + (i + 1) by omega]
    exact this

/-- As 'maskOkB', but an operation whose value hangs on the world may look at an earlier one of its kind. -/
def mask2B (ops : Array Oper) (n sz : Nat) (mask : List Bool) : Bool :=
  decide (mask.length = n) && nthB (fun i o => mask.getD i true || decide (n ≤ i) ||
    (o.guard.isNone && (match o.dst with | some d => decide (d < sz) | none => false) && nthB (fun j o' => decide (n ≤ j) || ((match o.dst with | some d => (!mask.getD j true || !(o'.looksAt ops).contains d) && (decide (j = i) || o'.dst != some d) | none => true) &&
      (decide (j < i) || (match o'.dst with | some d => !(o.looksAt ops).contains d | none => true)))) 0 ops.toList)) 0 ops.toList

theorem mask2_spec {ops : Array Oper} {n sz : Nat} {mask : List Bool} (h : mask2B ops n sz mask = true) : mask.length = n ∧ ∀ i o, ops[i]? = some o → i < n → mask[i]? = some false → (o.guard = none ∧ ∃ d, o.dst = some d ∧ d < sz) ∧
    ∀ j o', ops[j]? = some o' → j < n → (∀ d, o.dst = some d → (mask[j]? = some true → d ∉ o'.looksAt ops) ∧ (j ≠ i → o'.dst ≠ some d)) ∧ (i ≤ j → ∀ d, o'.dst = some d → d ∉ o.looksAt ops) := by
  simp only [mask2B, Bool.and_eq_true, decide_eq_true_eq] at h
  refine ⟨h.1, fun i o ho hi hm => ?_⟩
  have h1 := nthB_spec _ _ h.2 i o (by simpa using ho)
  simp only [Nat.zero_add, Bool.or_eq_true, decide_eq_true_eq, Bool.and_eq_true] at h1
  rcases h1 with (h1 | h1) | h1
  · simp [List.getD_eq_getElem?_getD, hm] at h1
  · omega
  · refine ⟨⟨by simpa using h1.1.1, ?_⟩, fun j o' ho' hj => ?_⟩
    · have := h1.1.2
      cases hd : o.dst with
      | none => rw [hd] at this; simp at this
      | some d => rw [hd] at this; exact ⟨d, rfl, by simpa using this⟩
    have h2 := nthB_spec _ _ h1.2 j o' (by simpa using ho')
    simp only [Nat.zero_add, Bool.or_eq_true, decide_eq_true_eq, Bool.and_eq_true] at h2
    have h3 := h2.resolve_left (by omega)
    refine ⟨fun d hd => ?_, fun hij d hd => ?_⟩
    · have h4 := h3.1
      rw [hd] at h4
      simp only [Bool.and_eq_true, Bool.not_eq_true', Bool.or_eq_true, decide_eq_true_eq, bne_iff_ne] at h4
      refine ⟨fun hmj => ?_, fun hji => h4.2.resolve_left hji⟩
      have h5 := h4.1.resolve_left (by simp [List.getD_eq_getElem?_getD, hmj])
      simpa using h5
    · have h4 := h3.2.resolve_left (by omega)
      rw [hd] at h4
      simpa using h4

theorem accOf_in {P : Program} {ops : Array Oper} {w : World} {a : Act} {acc : List (Option Tmp × (Value → World → Prop))} : ∀ (m : List Bool) (l : List Oper) (Rs : List (Value → World → Prop)) (i j : Nat) (oj : Oper), j < i → m[j]? = some false → l[j]? = some oj → relObl2 P ops w m l Rs acc a → (oj.dst, rAt m Rs j) ∈ accOf m l Rs i
  | [], _, _, _, _, _, _, h, _, _ => by simp at h
  | _ :: _, [], _, _, _, _, _, _, h, _ => by simp at h
  | _ :: _, _ :: _, _, 0, _, _, h, _, _, _ => by omega
  | true :: m, _ :: l, Rs, i + 1, j, oj, hji, h1, h2, ho => by
    cases j with
    | zero => simp at h1
    | succ j => exact accOf_in m l Rs i j oj (by omega) (by simpa using h1) (by simpa using h2) ho
  | false :: m, o :: l, [], _, _, _, _, _, _, ho => ho.elim
  | false :: m, o :: l, R :: Rs, i + 1, j, oj, hji, h1, h2, ho => by
    cases j with
    | zero => simp at h2; subst h2; simp [accOf, rAt]
    | succ j => exact List.mem_cons_of_mem _ (accOf_in m l Rs i j oj (by omega) (by simpa using h1) (by simpa using h2) ho.2)

/-- THE RULE WITH RELATIONS AND FLOATS, behind the floats. -/
theorem wpAny_rel2 {P : Program} {Q : Exit → Act → World → Prop} {a : Act} {w : World} {l : List Oper} (n : Nat) (fs js : List Nat) (sz : Nat) (mask : List Bool) (Rs : List (Value → World → Prop)) (listed : Array Bool) (w1 : World) (hw1 : ∃ e : Ext w, w1 = e.to)
    (hB : ok2B l.toArray n fs js = true) (hls : listed.size = l.length) (hll : ∀ k, k < l.length → listed.getD k false = fs.contains k) (hfn : ∀ f ∈ fs, n ≤ f)
    (hcl : Closed l.toArray (fun i => listed.getD i false)) (hS : a.tmps.size = sz) (hM : mask2B l.toArray n sz mask = true) (hR0 : ∀ R ∈ Rs, ∀ v w w', R v w → Below w.heap.size w w' → R v w')
    (h : wpQB P l.toArray w
      (fun a' => relObl2 P l.toArray w mask (l.take n) Rs [] a' ∧ ∀ e : Ext w, relEnd (fun a'' => wpList P l.toArray Q (js.filterMap fun j => l.toArray[j]?) a'' e.to) e.to mask (l.take n) Rs a') (maskOps mask (l.take n)) a) :
    wpAny P .any l.toArray Q (n + js.length) listed a w1 := by
  have ok := ok2_of hB
  have hR := rAt_mono (le := fun w w' => Below w.heap.size w w') mask Rs hR0
  obtain ⟨hml, hms⟩ := mask2_spec hM
  have hn : n ≤ l.length := by simpa using ok.le
  have hlen : (l.take n).length = n := by simp; omega
  have hml' : mask.length = (l.take n).length := by omega
  have hget : ∀ i, i < n → (l.take n)[i]? = l[i]? := fun i hi => by rw [List.getElem?_take, if_pos hi]
  obtain ⟨vs, hvl, hy, hobl, hend⟩ := quietB_split _ _ h
  rw [maskOps_len _ _ hml', hlen] at hvl
  have hroom : relObl2 P l.toArray w mask (l.take n) Rs [] (lexActs a (maskOps mask (l.take n)) vs) := hobl
  -- what the lexical frame holds behind the first i operations
  have slot : ∀ (i : Nat), i ≤ n → ∀ (t : Tmp) (v : Value) (w' : World), t < a.tmps.size → (∀ j o, j < n → mask[j]? = some false → l[j]? = some o → o.dst ≠ some t) →
      SlotOf l.toArray n (fun i v w => if mask[i]? = some false then rAt mask Rs i v w else v = vs.getD i undef) a (fun k => decide (k < i)) t v w' →
      v = (lexActs a ((maskOps mask (l.take n)).take i) (vs.take i)).tmps.getD t undef := by
    intro i hi t v w' ht hno hs
    have hli : (vs.take i).length = ((maskOps mask (l.take n)).take i).length := by simp [hvl, maskOps_len _ _ hml']; omega
    have hgn : ∀ k ok', ((maskOps mask (l.take n)).take i)[k]? = some ok' → k < i ∧ ∃ o', l[k]? = some o' ∧ o'.dst = ok'.dst := fun k ok' hk => by
      have h1 := (List.getElem?_eq_some_iff.1 hk).1
      have hki : k < i := by simp at h1; omega
      rw [List.getElem?_take, if_pos hki] at hk
      obtain ⟨o', b, h2, _, h3⟩ := maskOps_dst _ _ _ _ hml' hk
      rw [hget k (by omega)] at h2
      exact ⟨hki, o', h2, h3⟩
    have hto : ∀ k o', k < i → l[k]? = some o' → ∃ ok', ((maskOps mask (l.take n)).take i)[k]? = some ok' ∧ ok'.dst = o'.dst := fun k o' hk ho' => by
      have hb : k < mask.length := by omega
      have := maskOps_get mask (l.take n) k mask[k] o' (by simp [hb]) (by rw [hget k (by omega)]; exact ho')
      refine ⟨_, by rw [List.getElem?_take, if_pos hk]; exact this, ?_⟩
      cases mask[k] <;> rfl
    rcases lex_slot _ _ a t hli ht with ⟨j, oj, h1, h2, h3, h4⟩ | ⟨h1, h2⟩
    · obtain ⟨hj, oj', hoj, hdj⟩ := hgn j oj h1
      rcases hs with ⟨j', oj'', hj', hlt, ho', hd', hm', hv⟩ | ⟨h5, _⟩
      · simp only [decide_eq_true_eq] at hlt
        have ho'l : l[j']? = some oj'' := by simpa using ho'
        obtain ⟨o3, h6, h7⟩ := hto j' oj'' hlt ho'l
        have e1 : j' ≤ j := h3 j' o3 h6 (by rw [h7]; exact hd')
        have e2 : j ≤ j' := hm' j oj' (by omega) (by simp [hj]) (by simpa using hoj) (by rw [hdj]; exact h2)
        obtain rfl : j' = j := by omega
        have hmj : mask[j']? ≠ some false := fun hmf => hno j' oj'' hj' hmf ho'l hd'
        rw [if_neg hmj] at hv
        rw [hv, h4]
        simp only [List.getD_eq_getElem?_getD, List.getElem?_take, if_pos hj]
      · exact absurd (by rw [hdj]; exact h2) (h5 j oj' (by omega) (by simp [hj]) (by simpa using hoj))
    · rcases hs with ⟨j', oj', hj', hlt, ho', hd', hm', hv⟩ | ⟨_, h5⟩
      · simp only [decide_eq_true_eq] at hlt
        obtain ⟨o3, h6, h7⟩ := hto j' oj' hlt (by simpa using ho')
        exact absurd (by rw [h7]; exact hd') (h1 j' o3 h6)
      · rw [h5, h2]
  have hsizeA : (lexActs a (maskOps mask (l.take n)) vs).tmps.size = a.tmps.size := lex_size _ _ _
  have htakeN : (maskOps mask (l.take n)).take n = maskOps mask (l.take n) := List.take_of_length_le (by rw [maskOps_len _ _ hml']; omega)
  have hvtN : vs.take n = vs := List.take_of_length_le (by omega)
  have hleft : left (fun i => listed.getD i false) n = n := by
    have : ∀ m, m ≤ n → left (fun i => listed.getD i false) m = m := by
      intro m
      induction m with
      | zero => intro _; rfl
      | succ m ih =>
        intro hm1
        have h1 : listed.getD m false = false := by
          rw [hll m (by omega)]
          simp only [List.contains_eq_mem, decide_eq_false_iff_not]
          intro hc
          have := hfn m hc
          omega
        simp only [left, h1]
        rw [ih (by omega)]
        rfl
    exact this n (Nat.le_refl _)
  refine flow_any2 (C := fun w' => ∃ e : Ext w, w' = e.to) (le := fun w w' => Below w.heap.size w w')
    (T := fun i v w => if mask[i]? = some false then rAt mask Rs i v w else v = vs.getD i undef) (a0 := a) ?_ ok ?_ ?_ n listed a w1 hleft
    { size := by simpa using hls
      closed := hcl
      tail := fun t _ hts => by rw [hll t (by simpa using hts)]
      cls := hw1
      defers := rfl
      tsize := rfl
      slots := fun t _ => .inr ⟨fun k ok' hk hL _ => by
        have h1 := hll k (by omega)
        simp only at hL
        rw [h1] at hL
        simp only [List.contains_eq_mem, decide_eq_true_eq] at hL
        have := hfn k hL
        omega, rfl⟩ }
  · intro i v w1 w2 ht hle
    split
    · rename_i hmi; rw [if_pos hmi] at ht; exact hR i v w1 w2 ht hle
    · rename_i hmi; rw [if_neg hmi] at ht; exact ht
  · intro i o hi ho a' w' hC' hd hsz hlook
    have ho' : l[i]? = some o := by simpa using ho
    have hsel : ∀ cs d, o.op ≠ .select cs d := fun cs d => Region.noSelect_spec ok.noSel i o cs d ho
    by_cases hmi : mask[i]? = some false
    · -- a value that hangs on the world
      obtain ⟨⟨hg, _⟩, hj⟩ := hms i o ho hi hmi
      rw [if_pos (by simp [Region.wanted, hg])]
      obtain ⟨e, rfl⟩ := hC'
      have hsame : ∀ t ∈ o.looksAt l.toArray, a'.tmps.getD t undef = (putG (fun t => a'.tmps.getD t undef) (accOf mask (l.take n) Rs i) (lexActs a (maskOps mask (l.take n)) vs)).tmps.getD t undef := by
        intro t ht
        by_cases htl : t < a.tmps.size
        · obtain ⟨g1, g2⟩ := putG_getD (fun t => a'.tmps.getD t undef) t (accOf mask (l.take n) Rs i) (lexActs a (maskOps mask (l.take n)) vs) (by rw [hsizeA]; exact htl)
          by_cases hex : ∃ p ∈ accOf mask (l.take n) Rs i, p.1 = some t
          · exact (g1 hex).symm
          · have hno : ∀ j oj, j < n → mask[j]? = some false → l[j]? = some oj → oj.dst ≠ some t := fun j oj hjn hmj hoj hdj => by
              by_cases hji : j < i
              · exact hex ⟨_, accOf_in mask (l.take n) Rs i j oj hji hmj (by rw [hget j hjn]; exact hoj) hroom, hdj⟩
              · exact (hj j oj (by simpa using hoj) hjn).2 (by omega) t hdj ht
            rw [g2 (fun p hp he => hex ⟨p, hp, he⟩)]
            have hs2 : SlotOf l.toArray n (fun i v w => if mask[i]? = some false then rAt mask Rs i v w else v = vs.getD i undef) a (fun k => decide (k < n)) t (a'.tmps.getD t undef) e.to := by
              refine (hlook t ht htl).congr fun k ok' hk hok hdk => ?_
              by_cases hki : k < i
              · simp [hki, hk]
              · exact absurd ht ((hj k ok' hok hk).2 (by omega) t hdk)
            have := slot n (Nat.le_refl _) t _ e.to htl hno hs2
            rwa [htakeN, hvtN] at this
        · have htl' : a.tmps.size ≤ t := Nat.not_lt.1 htl
          rw [getD_out (show a'.tmps.size ≤ t by rw [hsz]; exact htl'), getD_out (by rw [putG_size, hsizeA]; exact htl')]
      obtain ⟨e1, _⟩ := same_look (ops := l.toArray) hsel hsame (by rw [putG_size, hsizeA]; exact hsz)
      have hob := under_inst (fun t => a'.tmps.getD t undef) _ _ _ _ (relObl2_get mask (l.take n) Rs [] i o hobl hmi (by rw [hget i hi]; exact ho') e) (fun p hp hlk => by
        rw [List.nil_append] at hp
        obtain ⟨j, oj, hji, hmj, hoj, rfl⟩ := accOf_mem _ _ _ _ _ hp
        rw [hget j (by omega)] at hoj
        obtain ⟨⟨_, t, hdt, htsz⟩, hjj⟩ := hms j oj (by simpa using hoj) (by omega) hmj
        simp only [hdt, looksB, Option.getD_some, List.contains_eq_mem, decide_eq_true_eq] at hlk ⊢
        have htl : t < a.tmps.size := by rw [hS]; exact htsz
        rcases hlook t hlk htl with ⟨j', oj', hj', hlt, ho2, hd2, _, hv⟩ | ⟨h5, _⟩
        · by_cases hjj' : j' = j
          · subst hjj'; rw [if_pos hmj] at hv; exact hv
          · exact absurd hd2 ((hjj j' oj' ho2 hj').1 t hdt |>.2 hjj')
        · exact absurd hdt (h5 j oj (by omega) (by simp [hji]) (by simpa using hoj)))
      rw [List.nil_append] at hob
      refine wp_imp ?_ (wp_of_gives e1 hob)
      rintro a'' w'' ⟨v, rfl, hb, hr⟩
      exact ⟨v, rfl, ⟨⟨w'', e.below.trans (hb.mono e.size)⟩, rfl⟩, hb, by dsimp only; rw [if_pos hmi]; exact hr⟩
    · -- a value that is the same in every world
      have hmt : mask[i]? = some true := by
        have hil : i < mask.length := by omega
        rw [List.getElem?_eq_getElem hil] at hmi ⊢
        cases hb : mask[i]
        · rw [hb] at hmi; exact absurd rfl hmi
        · rfl
      have hyi := hy i o (by have := maskOps_get mask (l.take n) i true o hmt (by rw [hget i hi]; exact ho'); simpa using this)
      have hsame : ∀ t ∈ o.looksAt l.toArray, a'.tmps.getD t undef = (lexActs a ((maskOps mask (l.take n)).take i) (vs.take i)).tmps.getD t undef := by
        intro t ht
        by_cases htl : t < a.tmps.size
        · refine slot i (by omega) t _ w' htl (fun j oj hjn hmj hoj hdj => ?_) (hlook t ht htl)
          exact (((hms j oj (by simpa using hoj) hjn hmj).2 i o ho hi).1 t hdj).1 hmt ht
        · have htl' : a.tmps.size ≤ t := Nat.not_lt.1 htl
          rw [getD_out (show a'.tmps.size ≤ t by rw [hsz]; exact htl'), getD_out (by rw [lex_size]; exact htl')]
      obtain ⟨e1, e2⟩ := same_look (ops := l.toArray) hsel hsame (by rw [lex_size]; exact hsz)
      obtain ⟨e, rfl⟩ := hC'
      -- a quiet step leaves the world or grows it
      rcases hyi.of_same e1 e2 with ⟨hw, hv⟩ | ⟨hw, hv⟩
      · rw [if_pos hw]
        refine wp_imp ?_ (wp_of_quietB (hv e))
        rintro a'' w'' ⟨rfl, hb⟩
        exact ⟨_, rfl, ⟨⟨w'', e.below.trans (hb.mono e.size)⟩, rfl⟩, hb, by dsimp only; rw [if_neg hmi]⟩
      · rw [if_neg (by simp [hw])]
        exact ⟨by dsimp only; rw [if_neg hmi]; exact hv.symm, Below.refl _ _⟩
  · intro a' w' hC' hd hsz hs
    obtain ⟨e, rfl⟩ := hC'
    -- the relations' values, read off the frame at hand
    have hrel : ∀ i o, i < n → mask[i]? = some false → l[i]? = some o → ∀ t, o.dst = some t → t < a.tmps.size → rAt mask Rs i (a'.tmps.getD t undef) e.to := by
      intro i o hi hmi ho t hd' ht
      rcases hs t ht with ⟨j, oj, hj, _, hoj, hdj, _, hv⟩ | ⟨h5, _⟩
      · by_cases hji : j = i
        · subst hji; rw [if_pos hmi] at hv; exact hv
        · exact absurd hdj (((hms i o (by simpa using ho) hi hmi).2 j oj hoj hj).1 t hd' |>.2 hji)
      · exact absurd hd' (h5 i o hi (by simp [hi]) (by simpa using ho))
    have hval : ∀ i, i < (l.take n).length → mask[i]? = some false → rAt mask Rs i (a'.tmps.getD (((l[i]?).bind (·.dst)).getD 0) undef) e.to := by
      intro i hi hmi
      have hil : i < l.length := by omega
      obtain ⟨⟨_, d, hd', hlt⟩, _⟩ := hms i l[i] (by simp [hil]) (by omega) hmi
      have := hrel i l[i] (by omega) hmi (by simp [hil]) d hd' (by rw [hS]; exact hlt)
      simpa [hil, hd'] using this
    have hpe := relEnd_put2 mask (l.take n) Rs [] (fun i => a'.tmps.getD (((l[i]?).bind (·.dst)).getD 0) undef) 0 _ hobl (hend e) (fun i hi hmi => by rw [Nat.zero_add]; exact hval i hi hmi)
    have heq : a' = putRel mask (l.take n) (fun i => a'.tmps.getD (((l[i]?).bind (·.dst)).getD 0) undef) 0 (lexActs a (maskOps mask (l.take n)) vs) := by
      have ht : a'.tmps = (putRel mask (l.take n) (fun i => a'.tmps.getD (((l[i]?).bind (·.dst)).getD 0) undef) 0 (lexActs a (maskOps mask (l.take n)) vs)).tmps := by
        apply Array.ext
        · rw [putRel_size, hsizeA]; exact hsz
        · intro t h1 h2
          have hta : t < a.tmps.size := by rw [← hsz]; exact h1
          have key : a'.tmps.getD t undef = (putRel mask (l.take n) (fun i => a'.tmps.getD (((l[i]?).bind (·.dst)).getD 0) undef) 0 (lexActs a (maskOps mask (l.take n)) vs)).tmps.getD t undef := by
            by_cases hex : ∃ i o, i < n ∧ mask[i]? = some false ∧ l[i]? = some o ∧ o.dst = some t
            · obtain ⟨i, o, hi, hmi, ho, hd'⟩ := hex
              rw [putRel_at _ t mask (l.take n) 0 _ i o (by rw [hsizeA]; exact hta) hmi (by rw [hget i hi]; exact ho) hd' (fun j o' hji hmj ho' hdj => ?_)]
              · simp [ho, hd']
              · have hjn : j < n := by have := (List.getElem?_eq_some_iff.1 ho').1; omega
                rw [hget j hjn] at ho'
                exact ((hms i o (by simpa using ho) hi hmi).2 j o' (by simpa using ho') hjn).1 t hd' |>.2 hji hdj
            · rw [putRel_other _ t mask (l.take n) 0 _ (by rw [hsizeA]; exact hta) (fun i o hmi ho hd' => ?_)]
              · have := slot n (Nat.le_refl _) t _ e.to hta (fun j o hj hmj ho hd' => hex ⟨j, o, hj, hmj, ho, hd'⟩) (hs t hta)
                rwa [htakeN, hvtN] at this
              · have hin : i < n := by have := (List.getElem?_eq_some_iff.1 ho).1; omega
                rw [hget i hin] at ho
                exact hex ⟨i, o, hin, hmi, ho, hd'⟩
          have k2 := getD_same (by rw [putRel_size, hsizeA]; exact hsz) key
          rw [Array.getElem?_eq_getElem h1, Array.getElem?_eq_getElem h2] at k2
          exact Option.some.inj k2
      have hdd : a'.defers = (putRel mask (l.take n) (fun i => a'.tmps.getD (((l[i]?).bind (·.dst)).getD 0) undef) 0 (lexActs a (maskOps mask (l.take n)) vs)).defers := by rw [putRel_defers, lex_defers]; exact hd
      generalize putRel mask (l.take n) (fun i => a'.tmps.getD (((l[i]?).bind (·.dst)).getD 0) undef) 0 (lexActs a (maskOps mask (l.take n)) vs) = b at ht hdd
      cases a'
      cases b
      simp only at ht hdd
      rw [ht, hdd]
    rw [heq]
    simpa using hpe

def closB (ops : Array Oper) (fs : List Nat) : Bool := fs.all fun f => match ops[f]? with
  | some o => o.after.all fun e => !Region.binds .any e || (fs.contains e.on && decide (e.on < ops.size))
  | none => true
def seqOkB (l : List Oper) (n : Nat) (fs js : List Nat) (sz : Nat) (mask : List Bool) : Bool :=
  ok2B l.toArray n fs js && floatB l.toArray [] fs && closB l.toArray fs && decide (l.length = n + js.length + fs.length) && fs.all (fun f => decide (n ≤ f)) && mask2B l.toArray n sz mask
def pickOps (l : List Oper) (js : List Nat) : List Oper := js.filterMap fun j => l.toArray[j]?

theorem then_self (Q : Exit → Act → World → Prop) : Exit.then (fun a w => Q .normal a w) Q = Q := by
  funext e a w
  cases e <;> rfl
/-- THE RULE. -/
theorem wp_region_seq {P : Program} {Q : Exit → Act → World → Prop} {id : Nat} {a : Act} {w : World} {l : List Oper} (n : Nat) (fs js : List Nat) (sz : Nat) (mask : List Bool) (Rs : List (Value → World → Prop)) (hm : P.follows .mixedOrders = true)
    (hB : seqOkB l n fs js sz mask = true) (hS : a.tmps.size = sz) (hR0 : ∀ R ∈ Rs, ∀ v w w', R v w → Below w.heap.size w w' → R v w')
    (h : wpFl P l.toArray (fun a => wpQB P l.toArray w
      (fun a' => relObl2 P l.toArray w mask (l.take n) Rs [] a' ∧ ∀ e : Ext w, relEnd (fun a'' => wpList P l.toArray (Exit.then (fun a w => Q .normal a w) (fun _ _ _ => False)) (pickOps l js) a'' e.to) e.to mask (l.take n) Rs a') (maskOps mask (l.take n)) a) (pickOps l fs) a) :
    (Code.region id l.toArray true).wp P Q a w := by
  rw [← then_self Q]
  simp only [seqOkB, Bool.and_eq_true, decide_eq_true_eq] at hB
  obtain ⟨⟨⟨⟨⟨h1, h2⟩, h3⟩, h4⟩, h5⟩, h6⟩ := hB
  have ok := ok2_of h1
  refine wp_region_any hm (wpAny_weaken _ _ _ _ ?_)
  have hsz : l.toArray.size = n + js.length + fs.length := by simpa using h4
  rw [hsz]
  have hrep : (Array.replicate (n + js.length + fs.length) false).size = l.toArray.size := by rw [hsz]; simp
  refine take_floats (fun j o cs b ho => Region.noSelect_spec ok.noSel j o cs b ho) fs [] _ a _ (n + js.length) h2 hrep (fun j _ => by rw [getD_replicate_false]; rfl) h ?_
  intro a' hk hts htd
  have hg : ∀ k, k < l.length → (setAll (Array.replicate (n + js.length + fs.length) false) fs).getD k false = fs.contains k := fun k hk => by
    rw [setAll_getD fs _ k (by rw [hrep]; simpa using hk), getD_replicate_false, Bool.or_false]
  refine wpAny_rel2 n fs js sz mask Rs _ _ ⟨⟨_, (Below.refl _ w).drew⟩, rfl⟩ h1 (by rw [setAll_size, hrep]; simp) hg (fun f hf => by simpa using List.all_eq_true.1 h5 f hf) ?_ (hts.trans hS) h6 hR0 hk
  intro j oj hoj hl e he hb
  have hjl : j < l.length := by simpa using (Array.getElem?_eq_some_iff.1 hoj).1
  simp only at hl
  rw [hg j hjl] at hl
  have hmem : j ∈ fs := by simpa using hl
  have := List.all_eq_true.1 h3 j hmem
  rw [hoj] at this
  simp only at this
  rw [Array.all_eq_true_iff_forall_mem] at this
  have h7 := this e he
  simp only [hb, Bool.not_true, Bool.false_or, Bool.and_eq_true, decide_eq_true_eq] at h7
  show (setAll (Array.replicate (n + js.length + fs.length) false) fs).getD e.on false = true
  rw [hg e.on (by simpa using h7.2)]
  exact h7.1
theorem wpFl_nil {P : Program} {ops : Array Oper} {K : Act → Prop} {a : Act} (h : K a) : wpFl P ops K [] a := h
theorem mono_nil : ∀ R ∈ ([] : List (Value → World → Prop)), ∀ v w w', R v w → Below w.heap.size w w' → R v w' := fun _ h => by cases h
theorem mono_cons {R : Value → World → Prop} {Rs : List (Value → World → Prop)} (h : ∀ v w w', R v w → Below w.heap.size w w' → R v w') (hs : ∀ R ∈ Rs, ∀ v w w', R v w → Below w.heap.size w w' → R v w') : ∀ R' ∈ R :: Rs, ∀ v w w', R' v w → Below w.heap.size w w' → R' v w' := fun R' hm => by
  rcases List.mem_cons.1 hm with rfl | hm
  · exact h
  · exact hs R' hm
end Go.Flow
