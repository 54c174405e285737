/- The region rule within a round of a range over a function. -/
import Derived.Test.YtnofcpihkglmmaaFlow
import Derived.OrdersIn
import Derived.TacticsIn
import Derived.RangeFuncCalls
namespace Go.Flow
set_option linter.unusedVariables false
set_option linter.unusedSimpArgs false
set_option linter.unnecessarySimpa false
open Go.RowKit

theorem rowsIn_wide {n : Nat} {P : Program} {row : String} {args : Array Value} {w : World} {R : Value → World → Prop} (h : Rows P row args w R) : RowsIn Fence.wide n P row args w R :=
  fun c cs _ => let ⟨v, w', r, s⟩ := h c cs; ⟨v, w', r, stepsIn_wide.2 s⟩
theorem opIn_of_wp {l0 m0 : Nat} {P : Program} {o : Oper} {a : Act} {w : World} {K : Act → World → Prop} {Q : Exit → Act → World → Prop} (hd : ∀ c, o.op ≠ .defer c) (h : o.wp P a w K (fun _ _ _ => False)) :
    o.wpIn (Fence.wide.inRound l0) m0 P a w K Q := by
  unfold Oper.wpIn
  refine ⟨fun _ _ => trivial, ?_⟩
  rw [show (Fence.wide.inRound l0).round = some l0 from rfl, Oper.semAt_some _ _ _ hd]
  unfold Oper.wp at h
  generalize (execOp a.eval o).run P w = r at *
  cases r with
  | ok x w' =>
    cases x with
    | enter f args =>
      simp only [Oper.upon] at h
      simp only [Oper.uponIn]
      refine ⟨fun h => (by cases h), CallsIn.inRound l0 (callsIn_wide.2 (h.mono fun e w'' he => ?_))⟩
      cases e <;> first | exact he | exact he.elim | exact (let ⟨_, _, hf⟩ := he; hf.elim)
    | row r args =>
      simp only [Oper.upon] at h
      simp only [Oper.uponIn]
      exact ⟨fun h => (by cases h), rowsIn_wide h⟩
    | _ => simp only [Oper.upon] at h <;> first | exact h | exact h.elim
  | halt x w' => cases x <;> simp only [Oper.upon] at h

section
variable {F : Fence} {n : Nat} {P : Program} {ops : Array Oper} {md : Region.Mode}
theorem wpAnyIn_of_seq {Q' : Exit → Act → World → Prop} : ∀ (l : List Oper) (k : Nat) (listed : Array Bool) (a : Act) (w : World), (∀ j, l[j]? = ops[k + j]?) →
    Region.seqB md ops l.length k listed = true → wpListIn F n P ops Q' l a w → wpAnyIn F n P md ops Q' l.length listed a w
  | [], _, _, _, _, _, hB, h => ⟨by simpa [Region.seqB] using hB, h⟩
  | o :: l, k, listed, a, w, hl, hB, h => by
    have h0 : ops[k]? = some o := by simpa using (hl 0).symm
    simp only [List.length_cons, Region.seqB, Bool.and_eq_true, decide_eq_true_eq] at hB
    refine ⟨fun h1 => (by rw [hB.1] at h1; cases h1), fun i hi => ?_⟩
    rw [hB.1] at hi
    have hik : i = k := by simpa using hi
    subst hik
    have hw : wpOpIn F n P ops Q' i (wpListIn F n P ops Q' l) a w := by unfold wpOpIn; simp only [h0]; exact h
    exact wpOpIn_mono (fun a' w' h' => wpAnyIn_of_seq l (i + 1) _ a' w' (fun j => by have := hl (j + 1); simpa [Nat.add_assoc, Nat.add_comm 1 j] using this) hB.2 h') hw
end

section
variable {l0 m0 : Nat} {P : Program} {ops : Array Oper} {C : World → Prop} {le : World → World → Prop} {T : Nat → Value → World → Prop} {n : Nat} {a0 : Act} {Q : Exit → Act → World → Prop}
theorem flow_anyIn (hT : ∀ i v w w', T i v w → le w w' → T i v w') (hnd : ∀ o ∈ ops, ∀ c, o.op ≠ .defer c) (ok : Ok ops n) (hstep : ∀ i o, i < n → ops[i]? = some o → Step P ops C le T n a0 i o)
    (hend : ∀ a w, C w → a.defers = a0.defers → a.tmps.size = a0.tmps.size → (∀ t, t < a0.tmps.size → SlotOf ops n T a0 (fun k => decide (k < n)) t (a.tmps.getD t undef) w) → wpListIn (Fence.wide.inRound l0) m0 P ops Q (ops.toList.drop n) a w) :
    ∀ (d : Nat) (listed : Array Bool) (a : Act) (w : World), left (fun i => listed.getD i false) n = d → Inv ops C T n a0 listed a w → wpAnyIn (Fence.wide.inRound l0) m0 P .any ops Q (d + (ops.size - n)) listed a w
  | 0, listed, a, w, hd, inv => by
    have hall := left_zero _ n hd
    have hl : listed = Array.replicate n true ++ Array.replicate (ops.size - n) false := by
      have hle := ok.le
      apply Array.ext
      · simp [inv.size]; omega
      · intro i h1 h2
        by_cases hi : i < n
        · have := hall i hi
          simp only [Array.getD_eq_getD_getElem?, Array.getElem?_eq_getElem h1, Option.getD_some] at this
          rw [this]; simp [hi]
        · have := inv.tail i (by omega)
          simp only [Array.getD_eq_getD_getElem?, Array.getElem?_eq_getElem h1, Option.getD_some] at this
          rw [this]; simp [Array.getElem_append, hi]
    rw [Nat.zero_add]
    have hlen : (ops.toList.drop n).length = ops.size - n := by simp
    rw [← hlen]
    refine wpAnyIn_of_seq (md := .any) (ops.toList.drop n) n listed a w (fun j => by simp [List.getElem?_drop]) (by rw [hlen, hl]; exact ok.seq) ?_
    refine hend a w inv.cls inv.defers inv.tsize fun t ht => ?_
    refine (inv.slots t ht).congr fun k ok' hk _ _ => ?_
    simp only [hk, decide_true]
    exact (hall k hk).symm
  | d + 1, listed, a, w, hd, inv => by
    rw [show d + 1 + (ops.size - n) = (d + (ops.size - n)) + 1 by omega]
    refine ⟨fun h0 => ?_, fun i hi => ?_⟩
    · exfalso
      obtain ⟨i, hi, h1, h2⟩ := left_least _ n (by omega : left (fun i => listed.getD i false) n ≠ 0)
      have hlt : i < ops.size := by have := ok.le; omega
      have hmem : i ∈ Region.ready .any ops listed := by
        refine mem_ready.2 ⟨?_, ops[i], by simp [hlt], fun e he hb => h2 _ (ok.back i ops[i] (by simp [hlt]) e he hb)⟩
        have his : i < listed.size := by rw [inv.size]; exact hlt
        simp only [Array.getD_eq_getD_getElem?, Array.getElem?_eq_getElem his, Option.getD_some] at h1 ⊢
        exact h1
      rw [h0] at hmem
      cases hmem
    · obtain ⟨hun', o, ho, hall⟩ := mem_ready.1 hi
      have hun : listed.getD i false = false := getD_both hun'
      have hin : i < n := by
        rcases Nat.lt_or_ge i n with h | h
        · exact h
        · exfalso
          obtain ⟨m, hm, h1, _⟩ := left_least _ n (by omega : left (fun i => listed.getD i false) n ≠ 0)
          have := ok.tail m i o h (by omega) ho _ inv.closed (fun o' ho' e he hb => hall e (by rw [ho] at ho'; cases ho'; exact he) hb)
          rw [h1] at this
          cases this
      have his : i < listed.size := by rw [inv.size]; exact (Array.getElem?_eq_some_iff.1 ho).1
      have hdn : left (fun k => (listed.setIfInBounds i true).getD k false) n = d := by
        have := left_set (fun k => listed.getD k false) (fun k => (listed.setIfInBounds i true).getD k false) i hun (by simp [getD_setB his]) (fun j hj => by simp only [getD_setB his, if_neg hj]) n
        rw [if_pos hin] at this
        omega
      have hlook : ∀ t ∈ o.looksAt ops, t < a0.tmps.size → SlotOf ops n T a0 (fun k => decide (k < i)) t (a.tmps.getD t undef) w := by
        intro t ht htl
        refine (inv.slots t htl).congr fun k ok' hk hok hdk => ?_
        rcases Nat.lt_trichotomy k i with h | h | h
        · simp only [h, decide_true]
          have hp := ok.apart k i ok' o hin h hok ho (clash_left hdk (by simp [names, ht]))
          exact (hp _ inv.closed (fun o' ho' e he hb => hall e (by rw [ho] at ho'; cases ho'; exact he) hb)).symm
        · subst h
          simp only [Nat.lt_irrefl, decide_false]
          exact hun.symm
        · simp only [show ¬ k < i by omega, decide_false]
          cases hl : listed.getD k false
          · rfl
          · have hp := ok.apart i k o ok' hk h ho hok (clash_right hdk (by simp [names, ht]))
            have := hp _ inv.closed (fun o' ho' e he hb => inv.closed k o' ho' hl e he hb)
            simp only [hun] at this
            cases this
      have hs := hstep i o hin ho a w inv.cls inv.defers inv.tsize hlook
      unfold wpOpIn
      simp only [ho]
      by_cases hw : Region.wanted o (yielded ops a.tmps) = true
      · rw [if_pos hw] at hs ⊢
        refine opIn_of_wp (hnd o (Array.mem_of_getElem? ho)) (wp_imp ?_ hs)
        rintro a' w' ⟨v, rfl, hC, hle, hv⟩
        exact flow_anyIn hT hnd ok hstep hend d _ _ _ hdn (inv.next hT ok ho hin hun hall hC hle hv)
      · rw [if_neg hw] at hs ⊢
        exact ⟨fun _ _ => trivial, flow_anyIn hT hnd ok hstep hend d _ _ _ hdn (inv.next hT ok ho hin hun hall inv.cls hs.2 hs.1)⟩

theorem wpIn_region_flow {id : Nat} {w : World} (hm : P.follows .mixedOrders = true) (hnd : ∀ o ∈ ops, ∀ c, o.op ≠ .defer c) (hB : okB ops n = true) (hC : C { w with drawn := w.drawn + 1 })
    (hT : ∀ i v w w', T i v w → le w w' → T i v w') (hstep : ∀ i o, i < n → ops[i]? = some o → Step P ops C le T n a0 i o)
    (hend : ∀ a w, C w → a.defers = a0.defers → a.tmps.size = a0.tmps.size → (∀ t, t < a0.tmps.size → SlotOf ops n T a0 (fun k => decide (k < n)) t (a.tmps.getD t undef) w) → wpListIn (Fence.wide.inRound l0) m0 P ops Q (ops.toList.drop n) a w) :
    (Code.region id ops true).wpIn (Fence.wide.inRound l0) m0 P Q a0 w := by
  have ok := ok_of hB
  refine wpIn_region_any hm ?_
  have hl : left (fun i => (Array.replicate ops.size false).getD i false) n = n := by
    have : (fun i => (Array.replicate ops.size false).getD i false) = (fun _ => false) := funext fun i => getD_replicate_false _ _
    rw [this, left_all]
  have := flow_anyIn (l0 := l0) (m0 := m0) (Q := Q) hT hnd ok hstep hend n (Array.replicate ops.size false) a0 { w with drawn := w.drawn + 1 } hl
    { size := by simp
      closed := fun j o _ h => (by simp only [getD_replicate_false] at h; cases h)
      tail := fun t _ => getD_replicate_false _ _
      cls := hC
      defers := rfl
      tsize := rfl
      slots := fun t _ => .inr ⟨fun k ok' _ h => (by simp only [getD_replicate_false] at h; cases h), rfl⟩ }
  rwa [show n + (ops.size - n) = ops.size by have := ok.le; omega] at this
end
section
variable {l0 m0 : Nat} {P : Program} {ops : Array Oper} {C : World → Prop} {Q : Exit → Act → World → Prop}
/-- THE RULE. -/
theorem wpIn_region_quiet_tail {id : Nat} {a : Act} {w : World} {l : List Oper} (n : Nat) (hm : P.follows .mixedOrders = true) (hnd : ∀ o ∈ l.toArray, ∀ c, o.op ≠ .defer c) (hB : okB l.toArray n = true) (hC : C { w with drawn := w.drawn + 1 })
    (h : wpQuiet P l.toArray C (fun a' => ∀ w', C w' → wpListIn (Fence.wide.inRound l0) m0 P l.toArray Q (l.drop n) a' w') (l.take n) a) : (Code.region id l.toArray true).wpIn (Fence.wide.inRound l0) m0 P Q a w := by
  obtain ⟨vs, hvl, hy, hq⟩ := quiet_split _ _ h
  have ok := ok_of hB
  have hn : n ≤ l.length := by simpa using ok.le
  have hlen : (l.take n).length = n := by simp; omega
  rw [hlen] at hvl
  have hget : ∀ i, i < n → (l.take n)[i]? = l[i]? := fun i hi => by rw [List.getElem?_take, if_pos hi]
  have htt : ∀ i, i ≤ n → (l.take n).take i = l.take i := fun i hi => by rw [List.take_take, Nat.min_eq_left hi]
  -- what the slots hold in the text's order
  have slot : ∀ (i : Nat), i ≤ n → ∀ (t : Tmp) (v : Value) (w : World), t < a.tmps.size → SlotOf l.toArray n (fun i v _ => v = vs.getD i undef) a (fun k => decide (k < i)) t v w →
      v = (lexActs a ((l.take n).take i) (vs.take i)).tmps.getD t undef := by
    intro i hi t v w ht hs
    have hli : (vs.take i).length = ((l.take n).take i).length := by simp [hvl]; omega
    have hgi : ∀ k, k < i → ((l.take n).take i)[k]? = l[k]? := fun k hk => by rw [htt i hi, List.getElem?_take, if_pos hk]
    have hgn : ∀ k ok', ((l.take n).take i)[k]? = some ok' → k < i := fun k ok' hk => by
      have := (List.getElem?_eq_some_iff.1 hk).1
      simp at this; omega
    rcases lex_slot _ _ a t hli ht with ⟨j, oj, h1, h2, h3, h4⟩ | ⟨h1, h2⟩
    · have hj : j < i := hgn j oj h1
      rw [hgi j hj] at h1
      rcases hs with ⟨j', oj', hj', hlt, ho', hd', hm', hv⟩ | ⟨h5, _⟩
      · simp only [decide_eq_true_eq] at hlt
        have e1 : j' ≤ j := h3 j' oj' (by rw [hgi j' hlt]; simpa using ho') hd'
        have e2 : j ≤ j' := hm' j oj (by omega) (by simp [hj]) (by simpa using h1) h2
        obtain rfl : j' = j := by omega
        rw [hv, h4]
        simp only [List.getD_eq_getElem?_getD, List.getElem?_take, if_pos hj]
      · exact absurd h2 (h5 j oj (by omega) (by simp [hj]) (by simpa using h1))
    · rcases hs with ⟨j', oj', hj', hlt, ho', hd', hm', hv⟩ | ⟨_, h5⟩
      · simp only [decide_eq_true_eq] at hlt
        exact absurd hd' (h1 j' oj' (by rw [hgi j' hlt]; simpa using ho'))
      · rw [h5, h2]
  refine wpIn_region_flow (C := C) (le := fun _ _ => True) (T := fun i v _ => v = vs.getD i undef) hm hnd hB hC (fun _ _ _ _ h _ => h) ?_ ?_
  · intro i o hi ho a' w' hC' hd hsz hlook
    have ho' : l[i]? = some o := by simpa using ho
    have hyi := hy i o (by rw [hget i hi]; exact ho')
    have hsel : ∀ cs d, o.op ≠ .select cs d := fun cs d => Region.noSelect_spec ok.noSel i o cs d ho
    have hsame : ∀ t ∈ o.looksAt l.toArray, a'.tmps.getD t undef = (lexActs a ((l.take n).take i) (vs.take i)).tmps.getD t undef := by
      intro t ht
      by_cases htl : t < a.tmps.size
      · exact slot i (by omega) t _ w' htl (hlook t ht htl)
      · have htl' : a.tmps.size ≤ t := Nat.not_lt.1 htl
        rw [getD_out (show a'.tmps.size ≤ t by rw [hsz]; exact htl'), getD_out (show (lexActs a ((l.take n).take i) (vs.take i)).tmps.size ≤ t by rw [lex_size]; exact htl')]
    obtain ⟨e1, e2⟩ := same_look (ops := l.toArray) hsel hsame (by rw [lex_size]; exact hsz)
    rcases hyi.of_same e1 e2 with ⟨hw, hv⟩ | ⟨hw, hv⟩
    · rw [if_pos hw]
      refine Oper.wp_of_quiet (C := C) (K := fun a'' => a'' = a'.put o.dst (vs.getD i undef)) hC' (fun a'' w'' hC'' e => ⟨_, e, hC'', trivial, rfl⟩) ⟨_, hv, rfl⟩
    · rw [if_neg (by simp [hw])]
      exact ⟨hv.symm, trivial⟩
  · intro a' w' hC' hd hsz hs
    have htake : (l.take n).take n = l.take n := by rw [List.take_take, Nat.min_self]
    have hvt : vs.take n = vs := List.take_of_length_le (by omega)
    have heq : a' = lexActs a (l.take n) vs := by
      have ht : a'.tmps = (lexActs a (l.take n) vs).tmps := by
        apply Array.ext
        · rw [lex_size]; exact hsz
        · intro i h1 h2
          have hia : i < a.tmps.size := by rw [← hsz]; exact h1
          have := slot n (Nat.le_refl _) i _ w' hia (hs i hia)
          rw [htake, hvt] at this
          simpa only [Array.getD_eq_getD_getElem?, Array.getElem?_eq_getElem h1, Array.getElem?_eq_getElem h2, Option.getD_some] using this
      have hdd : a'.defers = (lexActs a (l.take n) vs).defers := by rw [lex_defers]; exact hd
      cases a'
      cases hb : lexActs a (l.take n) vs
      rw [hb] at ht hdd
      simp only at ht hdd
      rw [ht, hdd]
    rw [heq]
    have := hq w' hC'
    simpa using this
end
def noDeferB (l : List Oper) : Bool := l.all fun o => match o.op with | .defer _ => false | _ => true
theorem noDefer_of {l : List Oper} (h : noDeferB l = true) : ∀ o ∈ l.toArray, ∀ c, o.op ≠ .defer c := fun o ho c hc => by
  have := List.all_eq_true.1 h o (by simpa using ho)
  rw [hc] at this
  cases this
variable {l0 m0 : Nat}
theorem wpIn_region_ext {P : Program} {Q : Exit → Act → World → Prop} {id : Nat} {a : Act} {w : World} {l : List Oper} (n : Nat) (hm : P.follows .mixedOrders = true) (hN : noDeferB l = true) (hB : okB l.toArray n = true)
    (h : wpQuiet P l.toArray (fun w' => ∃ e : Ext w, w' = e.to) (fun a' => ∀ w', (∃ e : Ext w, w' = e.to) → wpListIn (Fence.wide.inRound l0) m0 P l.toArray Q (l.drop n) a' w') (l.take n) a) : (Code.region id l.toArray true).wpIn (Fence.wide.inRound l0) m0 P Q a w :=
  wpIn_region_quiet_tail n hm (noDefer_of hN) hB ⟨⟨_, (Below.refl _ w).drew⟩, rfl⟩ h


end Go.Flow
