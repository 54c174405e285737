/- the region rule with values that hang on the world, within a fence; such operations may be guarded -/
import Derived.Test.YticjeianiahppaaGreatDoorBA
namespace Go.Flow
set_option linter.unusedVariables false
set_option linter.unusedSimpArgs false
set_option linter.unnecessarySimpa false
open Go.RowKit
theorem wpAnyIn_of_js {F : Fence} {m0 : Nat} {P : Program} {ops : Array Oper} {Q : Exit → Act → World → Prop} : ∀ (js : List Nat) (listed : Array Bool) (a : Act) (w : World), seqJ ops js listed = true → (∀ j ∈ js, j < ops.size) →
    wpListIn F m0 P ops Q (js.filterMap fun j => ops[j]?) a w → wpAnyIn F m0 P .any ops Q js.length listed a w
  | [], _, _, _, hB, _, h => ⟨by simpa [seqJ] using hB, h⟩
  | j :: js, listed, a, w, hB, hin, h => by
    have h0 : ops[j]? = some (ops[j]'(hin j (List.mem_cons_self ..))) := Array.getElem?_eq_getElem _
    simp only [List.length_cons, seqJ, Bool.and_eq_true, decide_eq_true_eq] at hB
    refine ⟨fun h1 => (by rw [hB.1] at h1; cases h1), fun i hi => ?_⟩
    rw [hB.1] at hi
    have hij : i = j := by simpa using hi
    subst hij
    rw [List.filterMap_cons_some h0] at h
    have hw : wpOpIn F m0 P ops Q i (wpListIn F m0 P ops Q (js.filterMap fun j => ops[j]?)) a w := by unfold wpOpIn; simp only [h0]; exact h
    exact wpOpIn_mono (fun a' w' h' => wpAnyIn_of_js js _ a' w' hB.2 (fun j hj => hin j (List.mem_cons_of_mem _ hj)) h') hw

section
variable {F : Fence} {m0 : Nat} {P : Program} {ops : Array Oper} {C : World → Prop} {le : World → World → Prop} {T : Nat → Value → World → Prop} {n : Nat} {a0 : Act} {Q : Exit → Act → World → Prop}
theorem flowIn2 (hF : OpF F m0 P) (hnd : ∀ o ∈ ops, ∀ c, o.op ≠ .defer c) {fl : Nat → Bool} {js : List Nat} (hT : ∀ i v w w', T i v w → le w w' → T i v w') (ok : Ok2 ops n fl js) (hstep : ∀ i o, i < n → ops[i]? = some o → Step P ops C le T n a0 i o)
    (hend : ∀ a w, C w → a.defers = a0.defers → a.tmps.size = a0.tmps.size → (∀ t, t < a0.tmps.size → zBM ops n T a0 (fun k => decide (k < n)) t (a.tmps.getD t undef) w) → wpListIn F m0 P ops Q (js.filterMap fun j => ops[j]?) a w) :
    ∀ (d : Nat) (listed : Array Bool) (a : Act) (w : World), left (fun i => listed.getD i false) n = d → Inv2 ops fl C T n a0 listed a w → wpAnyIn F m0 P .any ops Q (d + js.length) listed a w
  | 0, listed, a, w, hd, inv => by
    have hall := zDQ _ n hd
    have hl : listed = zHd ops n fl := by
      apply Array.ext
      · simp [inv.size, zHd]
      · intro i h1 h2
        have his : i < ops.size := by rw [← inv.size]; exact h1
        have e1 : listed[i] = listed.getD i false := by simp only [Array.getD_eq_getD_getElem?, Array.getElem?_eq_getElem h1, Option.getD_some]
        rw [e1]
        simp only [zHd, List.getElem_toArray, List.getElem_map, List.getElem_range]
        by_cases hi : i < n
        · rw [hall i hi]; simp [hi]
        · rw [inv.tail i (by omega) his]; simp [hi]
    rw [Nat.zero_add]
    refine wpAnyIn_of_js js listed a w (by rw [hl]; exact ok.seq) ok.inb ?_
    refine hend a w inv.cls inv.defers inv.tsize fun t ht => ?_
    refine (inv.slots t ht).congr fun k ok' hk _ _ => ?_
    simp only [hk, decide_true]
    exact (hall k hk).symm
  | d + 1, listed, a, w, hd, inv => by
    rw [show d + 1 + js.length = (d + js.length) + 1 by omega]
    refine ⟨fun h0 => ?_, fun i hi => ?_⟩
    · exfalso
      obtain ⟨i, hi, h1, h2⟩ := zBj _ n (by omega : left (fun i => listed.getD i false) n ≠ 0)
      have hlt : i < ops.size := by have := ok.le; omega
      have hmem : i ∈ Region.ready .any ops listed := by
        refine mem_ready.2 ⟨?_, ops[i], by simp [hlt], fun e he hb => h2 _ (ok.back i hi ops[i] (by simp [hlt]) e he hb)⟩
        have his : i < listed.size := by rw [inv.size]; exact hlt
        simp only [Array.getD_eq_getD_getElem?, Array.getElem?_eq_getElem his, Option.getD_some] at h1 ⊢
        exact h1
      rw [h0] at hmem
      cases hmem
    · obtain ⟨hun', o, ho, hall⟩ := mem_ready.1 hi
      have hun : listed.getD i false = false := getD_both hun'
      have hios : i < ops.size := (Array.getElem?_eq_some_iff.1 ho).1
      have hin : i < n := by
        rcases Nat.lt_or_ge i n with h | h
        · exact h
        · exfalso
          obtain ⟨m, hm, h1, _⟩ := zBj _ n (by omega : left (fun i => listed.getD i false) n ≠ 0)
          have hfl : fl i = false := by rw [← inv.tail i h hios]; exact hun
          have := ok.tail m i o hm h hfl ho _ inv.closed (fun o' ho' e he hb => hall e (by rw [ho] at ho'; cases ho'; exact he) hb)
          rw [h1] at this
          cases this
      have his : i < listed.size := by rw [inv.size]; exact (Array.getElem?_eq_some_iff.1 ho).1
      have hdn : left (fun k => (listed.setIfInBounds i true).getD k false) n = d := by
        have := zFI (fun k => listed.getD k false) (fun k => (listed.setIfInBounds i true).getD k false) i hun (by simp [zA9 his]) (fun j hj => by simp only [zA9 his, if_neg hj]) n
        rw [if_pos hin] at this
        omega
      have hlook : ∀ t ∈ o.looksAt ops, t < a0.tmps.size → zBM ops n T a0 (fun k => decide (k < i)) t (a.tmps.getD t undef) w := by
        intro t ht htl
        refine (inv.slots t htl).congr fun k ok' hk hok hdk => ?_
        rcases Nat.lt_trichotomy k i with h | h | h
        · simp only [h, decide_true]
          have hp := ok.apart k i ok' o hin h hok ho (zCi hdk (by simp [names, ht]))
          exact (hp _ inv.closed (fun o' ho' e he hb => hall e (by rw [ho] at ho'; cases ho'; exact he) hb)).symm
        · subst h
          simp only [Nat.lt_irrefl, decide_false]
          exact hun.symm
        · simp only [show ¬ k < i by omega, decide_false]
          cases hl : listed.getD k false
          · rfl
          · have hp := ok.apart i k o ok' hk h ho hok (zDq hdk (by simp [names, ht]))
            have := hp _ inv.closed (fun o' ho' e he hb => inv.closed k o' ho' hl e he hb)
            simp only [hun] at this
            cases this
      have hs := hstep i o hin ho a w inv.cls inv.defers inv.tsize hlook
      unfold wpOpIn
      simp only [ho]
      by_cases hw : Region.wanted o (yielded ops a.tmps) = true
      · rw [if_pos hw] at hs ⊢
        refine hF.op (hnd o (Array.mem_of_getElem? ho)) (zFU ?_ hs)
        rintro a' w' ⟨v, rfl, hC, hle, hv⟩
        exact flowIn2 hF hnd hT ok hstep hend d _ _ _ hdn (inv.next hT ok ho hin hun hall hC hle hv)
      · rw [if_neg hw] at hs ⊢
        exact ⟨fun _ _ => hF.fn _, flowIn2 hF hnd hT ok hstep hend d _ _ _ hdn (inv.next hT ok ho hin hun hall inv.cls hs.2 hs.1)⟩

end
def mask2G (ops : Array Oper) (n sz : Nat) (mask : List Bool) : Bool :=
  decide (mask.length = n) && nthB (fun i o => mask.getD i true || decide (n ≤ i) ||
    ((match o.dst with | some d => decide (d < sz) | none => false) && nthB (fun j o' => decide (n ≤ j) || ((match o.dst with | some d => (!mask.getD j true || !(o'.looksAt ops).contains d) && (decide (j = i) || o'.dst != some d) | none => true) &&
      (decide (j < i) || (match o'.dst with | some d => !(o.looksAt ops).contains d | none => true)))) 0 ops.toList)) 0 ops.toList

theorem mask2G_spec {ops : Array Oper} {n sz : Nat} {mask : List Bool} (h : mask2G ops n sz mask = true) : mask.length = n ∧ ∀ i o, ops[i]? = some o → i < n → mask[i]? = some false → (∃ d, o.dst = some d ∧ d < sz) ∧
    ∀ j o', ops[j]? = some o' → j < n → (∀ d, o.dst = some d → (mask[j]? = some true → d ∉ o'.looksAt ops) ∧ (j ≠ i → o'.dst ≠ some d)) ∧ (i ≤ j → ∀ d, o'.dst = some d → d ∉ o.looksAt ops) := by
  simp only [mask2G, Bool.and_eq_true, decide_eq_true_eq] at h
  refine ⟨h.1, fun i o ho hi hm => ?_⟩
  have h1 := zAx _ _ h.2 i o (by simpa using ho)
  simp only [Nat.zero_add, Bool.or_eq_true, decide_eq_true_eq, Bool.and_eq_true] at h1
  rcases h1 with (h1 | h1) | h1
  · simp [List.getD_eq_getElem?_getD, hm] at h1
  · omega
  · refine ⟨?_, fun j o' ho' hj => ?_⟩
    · have := h1.1
      cases hd : o.dst with
      | none => rw [hd] at this; simp at this
      | some d => rw [hd] at this; exact ⟨d, rfl, by simpa using this⟩
    have h2 := zAx _ _ h1.2 j o' (by simpa using ho')
    simp only [Nat.zero_add, Bool.or_eq_true, decide_eq_true_eq, Bool.and_eq_true] at h2
    have h3 := h2.resolve_left (by omega)
    refine ⟨fun d hd => ?_, fun hij d hd => ?_⟩
    · have h4 := h3.1
      rw [hd] at h4
      simp only [Bool.and_eq_true, Bool.not_eq_true', Bool.or_eq_true, decide_eq_true_eq, bne_iff_ne] at h4
      refine ⟨fun hmj => ?_, fun hji => h4.2.resolve_left hji⟩
      have h5 := h4.1.resolve_left (by simp [List.getD_eq_getElem?_getD, hmj])
      simpa using h5
    · have h4 := h3.2.resolve_left (by omega)
      rw [hd] at h4
      simpa using h4

def relOblG (P : Program) (ops : Array Oper) (w : World) : List Bool → List Oper → List (Value → World → Prop) → List (Option Tmp × (Value → World → Prop)) → Act → Prop
  | true :: m, _ :: l, Rs, acc, a => relOblG P ops w m l Rs acc a
  | false :: m, o :: l, R :: Rs, acc, a => (∀ e : Ext w, under ops o acc (fun a' w' => (Region.wanted o (yielded ops a'.tmps) = true ∧ o.gives P a' w' fun v w'' => Below w'.heap.size w' w'' ∧ R v w'') ∨ (Region.wanted o (yielded ops a'.tmps) = false ∧ R undef w')) a e.to) ∧ relOblG P ops w m l Rs (acc ++ [(o.dst, R)]) a
  | [], _, _, _, _ => True
  | _ :: _, [], _, _, _ => True
  | false :: _, _ :: _, [], _, _ => False

theorem relOblG_get {P : Program} {ops : Array Oper} {w : World} {a : Act} : ∀ (m : List Bool) (l : List Oper) (Rs : List (Value → World → Prop)) (acc : List (Option Tmp × (Value → World → Prop))) (i : Nat) (o : Oper), relOblG P ops w m l Rs acc a → m[i]? = some false → l[i]? = some o →
    ∀ e : Ext w, under ops o (acc ++ zDD m l Rs i) (fun a' w' => (Region.wanted o (yielded ops a'.tmps) = true ∧ o.gives P a' w' fun v w'' => Below w'.heap.size w' w'' ∧ rAt m Rs i v w'') ∨ (Region.wanted o (yielded ops a'.tmps) = false ∧ rAt m Rs i undef w')) a e.to
  | [], _, _, _, _, _, _, h, _ => by simp at h
  | _ :: _, [], _, _, _, _, _, _, h => by simp at h
  | true :: m, _ :: l, Rs, acc, i, o, h, h1, h2 => by
    cases i with
    | zero => simp at h1
    | succ i => exact relOblG_get m l Rs acc i o h (by simpa using h1) (by simpa using h2)
  | false :: m, o' :: l, [], acc, i, o, h, _, _ => h.elim
  | false :: m, o' :: l, R :: Rs, acc, i, o, h, h1, h2 => by
    cases i with
    | zero => simp at h2; subst h2; simpa [zDD, rAt] using h.1
    | succ i =>
      have := relOblG_get m l Rs (acc ++ [(o'.dst, R)]) i o h.2 (by simpa using h1) (by simpa using h2)
      simpa [zDD, rAt, List.append_assoc] using this
theorem accOfG_in {P : Program} {ops : Array Oper} {w : World} {a : Act} {acc : List (Option Tmp × (Value → World → Prop))} : ∀ (m : List Bool) (l : List Oper) (Rs : List (Value → World → Prop)) (i j : Nat) (oj : Oper), j < i → m[j]? = some false → l[j]? = some oj → relOblG P ops w m l Rs acc a → (oj.dst, rAt m Rs j) ∈ zDD m l Rs i
  | [], _, _, _, _, _, _, h, _, _ => by simp at h
  | _ :: _, [], _, _, _, _, _, _, h, _ => by simp at h
  | _ :: _, _ :: _, _, 0, _, _, h, _, _, _ => by omega
  | true :: m, _ :: l, Rs, i + 1, j, oj, hji, h1, h2, ho => by
    cases j with
    | zero => simp at h1
    | succ j => exact accOfG_in m l Rs i j oj (by omega) (by simpa using h1) (by simpa using h2) ho
  | false :: m, o :: l, [], _, _, _, _, _, _, ho => ho.elim
  | false :: m, o :: l, R :: Rs, i + 1, j, oj, hji, h1, h2, ho => by
    cases j with
    | zero => simp at h2; subst h2; simp [zDD, rAt]
    | succ j => exact List.mem_cons_of_mem _ (accOfG_in m l Rs i j oj (by omega) (by simpa using h1) (by simpa using h2) ho.2)

theorem relEnd_putG {Qt : Act → Prop} {w' : World} {P : Program} {ops : Array Oper} {w : World} {a0 : Act} : ∀ (m : List Bool) (l : List Oper) (Rs : List (Value → World → Prop)) (acc : List (Option Tmp × (Value → World → Prop))) (v : Nat → Value) (k : Nat) (a : Act), relOblG P ops w m l Rs acc a0 → zAZ Qt w' m l Rs a →
    (∀ i, i < l.length → m[i]? = some false → rAt m Rs i (v (k + i)) w') → Qt (zA8 m l v k a)
  | [], _, _, _, _, _, _, _, h, _ => by simpa [zA8, zAZ] using h
  | _ :: _, [], _, _, _, _, _, _, h, _ => by simpa [zA8, zAZ] using h
  | true :: m, _ :: l, Rs, acc, v, k, a, ho, h, hr => by
    simp only [zA8]
    refine relEnd_putG m l Rs acc v (k + 1) a ho h fun i hi hm => ?_
    have := hr (i + 1) (by simpa using hi) (by simpa using hm)
    rw [show k + 1 + i = k + (i + 1) by omega]
    exact this
  | false :: m, o :: l, [], _, v, k, a, ho, _, _ => ho.elim
  | false :: m, o :: l, R :: Rs, acc, v, k, a, ho, h, hr => by
    simp only [zA8]
    refine relEnd_putG m l Rs _ v (k + 1) _ ho.2 (h (v k) (hr 0 (by simp) rfl)) fun i hi hm => ?_
    have := hr (i + 1) (by simpa using hi) (by simpa using hm)
    rw [show k + 1 + i = k + (i + 1) by omega]
    exact this

/-- THE RULE WITH RELATIONS AND FLOATS, behind the floats. -/
theorem wpAnyIn_rel2 {F : Fence} {m0 : Nat} {P : Program} {Q : Exit → Act → World → Prop} {a : Act} {w : World} {l : List Oper} (n : Nat) (fs js : List Nat) (sz : Nat) (mask : List Bool) (Rs : List (Value → World → Prop)) (listed : Array Bool) (w1 : World) (hw1 : ∃ e : Ext w, w1 = e.to) (hF : OpF F m0 P) (hnd : ∀ o ∈ l.toArray, ∀ c, o.op ≠ .defer c)
    (hB : ok2B l.toArray n fs js = true) (hls : listed.size = l.length) (hll : ∀ k, k < l.length → listed.getD k false = fs.contains k) (hfn : ∀ f ∈ fs, n ≤ f)
    (hcl : Closed l.toArray (fun i => listed.getD i false)) (hS : a.tmps.size = sz) (hM : mask2G l.toArray n sz mask = true) (hR0 : ∀ R ∈ Rs, ∀ v w w', R v w → Below w.heap.size w w' → R v w')
    (h : wpQB P l.toArray w
      (fun a' => relOblG P l.toArray w mask (l.take n) Rs [] a' ∧ ∀ e : Ext w, zAZ (fun a'' => wpListIn F m0 P l.toArray Q (js.filterMap fun j => l.toArray[j]?) a'' e.to) e.to mask (l.take n) Rs a') (zAF mask (l.take n)) a) :
    wpAnyIn F m0 P .any l.toArray Q (n + js.length) listed a w1 := by
  have ok := zMF hB
  have hR := zFG (le := fun w w' => Below w.heap.size w w') mask Rs hR0
  obtain ⟨hml, hms⟩ := mask2G_spec hM
  have hn : n ≤ l.length := by simpa using ok.le
  have hlen : (l.take n).length = n := by simp; omega
  have hml' : mask.length = (l.take n).length := by omega
  have hget : ∀ i, i < n → (l.take n)[i]? = l[i]? := fun i hi => by rw [List.getElem?_take, if_pos hi]
  obtain ⟨vs, hvl, hy, hobl, hend⟩ := zDK _ _ h
  rw [zBG _ _ hml', hlen] at hvl
  have hroom : relOblG P l.toArray w mask (l.take n) Rs [] (zAN a (zAF mask (l.take n)) vs) := hobl
  -- what the lexical frame holds behind the first i operations
  have slot : ∀ (i : Nat), i ≤ n → ∀ (t : Tmp) (v : Value) (w' : World), t < a.tmps.size → (∀ j o, j < n → mask[j]? = some false → l[j]? = some o → o.dst ≠ some t) →
      zBM l.toArray n (fun i v w => if mask[i]? = some false then rAt mask Rs i v w else v = vs.getD i undef) a (fun k => decide (k < i)) t v w' →
      v = (zAN a ((zAF mask (l.take n)).take i) (vs.take i)).tmps.getD t undef := by
    intro i hi t v w' ht hno hs
    have hli : (vs.take i).length = ((zAF mask (l.take n)).take i).length := by simp [hvl, zBG _ _ hml']; omega
    have hgn : ∀ k ok', ((zAF mask (l.take n)).take i)[k]? = some ok' → k < i ∧ ∃ o', l[k]? = some o' ∧ o'.dst = ok'.dst := fun k ok' hk => by
      have h1 := (List.getElem?_eq_some_iff.1 hk).1
      have hki : k < i := by simp at h1; omega
      rw [List.getElem?_take, if_pos hki] at hk
      obtain ⟨o', b, h2, _, h3⟩ := zFj _ _ _ _ hml' hk
      rw [hget k (by omega)] at h2
      exact ⟨hki, o', h2, h3⟩
    have hto : ∀ k o', k < i → l[k]? = some o' → ∃ ok', ((zAF mask (l.take n)).take i)[k]? = some ok' ∧ ok'.dst = o'.dst := fun k o' hk ho' => by
      have hb : k < mask.length := by omega
      have := zBi mask (l.take n) k mask[k] o' (by simp [hb]) (by rw [hget k (by omega)]; exact ho')
      refine ⟨_, by rw [List.getElem?_take, if_pos hk]; exact this, ?_⟩
      cases mask[k] <;> rfl
    rcases zEM _ _ a t hli ht with ⟨j, oj, h1, h2, h3, h4⟩ | ⟨h1, h2⟩
    · obtain ⟨hj, oj', hoj, hdj⟩ := hgn j oj h1
      rcases hs with ⟨j', oj'', hj', hlt, ho', hd', hm', hv⟩ | ⟨h5, _⟩
      · simp only [decide_eq_true_eq] at hlt
        have ho'l : l[j']? = some oj'' := by simpa using ho'
        obtain ⟨o3, h6, h7⟩ := hto j' oj'' hlt ho'l
        have e1 : j' ≤ j := h3 j' o3 h6 (by rw [h7]; exact hd')
        have e2 : j ≤ j' := hm' j oj' (by omega) (by simp [hj]) (by simpa using hoj) (by rw [hdj]; exact h2)
        obtain rfl : j' = j := by omega
        have hmj : mask[j']? ≠ some false := fun hmf => hno j' oj'' hj' hmf ho'l hd'
        rw [if_neg hmj] at hv
        rw [hv, h4]
        simp only [List.getD_eq_getElem?_getD, List.getElem?_take, if_pos hj]
      · exact absurd (by rw [hdj]; exact h2) (h5 j oj' (by omega) (by simp [hj]) (by simpa using hoj))
    · rcases hs with ⟨j', oj', hj', hlt, ho', hd', hm', hv⟩ | ⟨_, h5⟩
      · simp only [decide_eq_true_eq] at hlt
        obtain ⟨o3, h6, h7⟩ := hto j' oj' hlt (by simpa using ho')
        exact absurd (by rw [h7]; exact hd') (h1 j' o3 h6)
      · rw [h5, h2]
  have hsizeA : (zAN a (zAF mask (l.take n)) vs).tmps.size = a.tmps.size := zBT _ _ _
  have htakeN : (zAF mask (l.take n)).take n = zAF mask (l.take n) := List.take_of_length_le (by rw [zBG _ _ hml']; omega)
  have hvtN : vs.take n = vs := List.take_of_length_le (by omega)
  have hleft : left (fun i => listed.getD i false) n = n := by
    have : ∀ m, m ≤ n → left (fun i => listed.getD i false) m = m := by
      intro m
      induction m with
      | zero => intro _; rfl
      | succ m ih =>
        intro hm1
        have h1 : listed.getD m false = false := by
          rw [hll m (by omega)]
          simp only [List.contains_eq_mem, decide_eq_false_iff_not]
          intro hc
          have := hfn m hc
          omega
        simp only [left, h1]
        rw [ih (by omega)]
        rfl
    exact this n (Nat.le_refl _)
  refine flowIn2 hF hnd (C := fun w' => ∃ e : Ext w, w' = e.to) (le := fun w w' => Below w.heap.size w w')
    (T := fun i v w => if mask[i]? = some false then rAt mask Rs i v w else v = vs.getD i undef) (a0 := a) ?_ ok ?_ ?_ n listed a w1 hleft
    { size := by simpa using hls
      closed := hcl
      tail := fun t _ hts => by rw [hll t (by simpa using hts)]
      cls := hw1
      defers := rfl
      tsize := rfl
      slots := fun t _ => .inr ⟨fun k ok' hk hL _ => by
        have h1 := hll k (by omega)
        simp only at hL
        rw [h1] at hL
        simp only [List.contains_eq_mem, decide_eq_true_eq] at hL
        have := hfn k hL
        omega, rfl⟩ }
  · intro i v w1 w2 ht hle
    split
    · rename_i hmi; rw [if_pos hmi] at ht; exact hR i v w1 w2 ht hle
    · rename_i hmi; rw [if_neg hmi] at ht; exact ht
  · intro i o hi ho a' w' hC' hd hsz hlook
    have ho' : l[i]? = some o := by simpa using ho
    have hsel : ∀ cs d, o.op ≠ .select cs d := fun cs d => Region.noSelect_spec ok.noSel i o cs d ho
    by_cases hmi : mask[i]? = some false
    · -- a value that hangs on the world
      obtain ⟨_, hj⟩ := hms i o ho hi hmi
      obtain ⟨e, rfl⟩ := hC'
      have hsame : ∀ t ∈ o.looksAt l.toArray, a'.tmps.getD t undef = (putG (fun t => a'.tmps.getD t undef) (zDD mask (l.take n) Rs i) (zAN a (zAF mask (l.take n)) vs)).tmps.getD t undef := by
        intro t ht
        by_cases htl : t < a.tmps.size
        · obtain ⟨g1, g2⟩ := zHn (fun t => a'.tmps.getD t undef) t (zDD mask (l.take n) Rs i) (zAN a (zAF mask (l.take n)) vs) (by rw [hsizeA]; exact htl)
          by_cases hex : ∃ p ∈ zDD mask (l.take n) Rs i, p.1 = some t
          · exact (g1 hex).symm
          · have hno : ∀ j oj, j < n → mask[j]? = some false → l[j]? = some oj → oj.dst ≠ some t := fun j oj hjn hmj hoj hdj => by
              by_cases hji : j < i
              · exact hex ⟨_, accOfG_in mask (l.take n) Rs i j oj hji hmj (by rw [hget j hjn]; exact hoj) hroom, hdj⟩
              · exact (hj j oj (by simpa using hoj) hjn).2 (by omega) t hdj ht
            rw [g2 (fun p hp he => hex ⟨p, hp, he⟩)]
            have hs2 : zBM l.toArray n (fun i v w => if mask[i]? = some false then rAt mask Rs i v w else v = vs.getD i undef) a (fun k => decide (k < n)) t (a'.tmps.getD t undef) e.to := by
              refine (hlook t ht htl).congr fun k ok' hk hok hdk => ?_
              by_cases hki : k < i
              · simp [hki, hk]
              · exact absurd ht ((hj k ok' hok hk).2 (by omega) t hdk)
            have := slot n (Nat.le_refl _) t _ e.to htl hno hs2
            rwa [htakeN, hvtN] at this
        · have htl' : a.tmps.size ≤ t := Nat.not_lt.1 htl
          rw [zB1 (show a'.tmps.size ≤ t by rw [hsz]; exact htl'), zB1 (by rw [zFe, hsizeA]; exact htl')]
      obtain ⟨e1, e2⟩ := zCe (ops := l.toArray) hsel hsame (by rw [zFe, hsizeA]; exact hsz)
      have hob := zGS (fun t => a'.tmps.getD t undef) _ _ _ _ (relOblG_get mask (l.take n) Rs [] i o hobl hmi (by rw [hget i hi]; exact ho') e) (fun p hp hlk => by
        rw [List.nil_append] at hp
        obtain ⟨j, oj, hji, hmj, hoj, rfl⟩ := zGE _ _ _ _ _ hp
        rw [hget j (by omega)] at hoj
        obtain ⟨⟨t, hdt, htsz⟩, hjj⟩ := hms j oj (by simpa using hoj) (by omega) hmj
        simp only [hdt, zMU, Option.getD_some, List.contains_eq_mem, decide_eq_true_eq] at hlk ⊢
        have htl : t < a.tmps.size := by rw [hS]; exact htsz
        rcases hlook t hlk htl with ⟨j', oj', hj', hlt, ho2, hd2, _, hv⟩ | ⟨h5, _⟩
        · by_cases hjj' : j' = j
          · subst hjj'; rw [if_pos hmj] at hv; exact hv
          · exact absurd hd2 ((hjj j' oj' ho2 hj').1 t hdt |>.2 hjj')
        · exact absurd hdt (h5 j oj (by omega) (by simp [hji]) (by simpa using hoj)))
      rw [List.nil_append] at hob
      rcases hob with hob | hob
      rotate_left
      · rw [if_neg (by rw [e2, hob.1]; simp)]
        exact ⟨by dsimp only; rw [if_pos hmi]; exact hob.2, Below.refl _ _⟩
      rw [if_pos (e2.trans hob.1)]
      refine zFU ?_ (zFT e1 hob.2)
      rintro a'' w'' ⟨v, rfl, hb, hr⟩
      exact ⟨v, rfl, ⟨⟨w'', e.below.trans (hb.mono e.size)⟩, rfl⟩, hb, by dsimp only; rw [if_pos hmi]; exact hr⟩
    · -- a value that is the same in every world
      have hmt : mask[i]? = some true := by
        have hil : i < mask.length := by omega
        rw [List.getElem?_eq_getElem hil] at hmi ⊢
        cases hb : mask[i]
        · rw [hb] at hmi; exact absurd rfl hmi
        · rfl
      have hyi := hy i o (by have := zBi mask (l.take n) i true o hmt (by rw [hget i hi]; exact ho'); simpa using this)
      have hsame : ∀ t ∈ o.looksAt l.toArray, a'.tmps.getD t undef = (zAN a ((zAF mask (l.take n)).take i) (vs.take i)).tmps.getD t undef := by
        intro t ht
        by_cases htl : t < a.tmps.size
        · refine slot i (by omega) t _ w' htl (fun j oj hjn hmj hoj hdj => ?_) (hlook t ht htl)
          exact (((hms j oj (by simpa using hoj) hjn hmj).2 i o ho hi).1 t hdj).1 hmt ht
        · have htl' : a.tmps.size ≤ t := Nat.not_lt.1 htl
          rw [zB1 (show a'.tmps.size ≤ t by rw [hsz]; exact htl'), zB1 (by rw [zBT]; exact htl')]
      obtain ⟨e1, e2⟩ := zCe (ops := l.toArray) hsel hsame (by rw [zBT]; exact hsz)
      obtain ⟨e, rfl⟩ := hC'
      -- a quiet step leaves the world or grows it
      rcases hyi.of_same e1 e2 with ⟨hw, hv⟩ | ⟨hw, hv⟩
      · rw [if_pos hw]
        refine zFU ?_ (zEm (hv e))
        rintro a'' w'' ⟨rfl, hb⟩
        exact ⟨_, rfl, ⟨⟨w'', e.below.trans (hb.mono e.size)⟩, rfl⟩, hb, by dsimp only; rw [if_neg hmi]⟩
      · rw [if_neg (by simp [hw])]
        exact ⟨by dsimp only; rw [if_neg hmi]; exact hv.symm, Below.refl _ _⟩
  · intro a' w' hC' hd hsz hs
    obtain ⟨e, rfl⟩ := hC'
    -- the relations' values, read off the frame at hand
    have hrel : ∀ i o, i < n → mask[i]? = some false → l[i]? = some o → ∀ t, o.dst = some t → t < a.tmps.size → rAt mask Rs i (a'.tmps.getD t undef) e.to := by
      intro i o hi hmi ho t hd' ht
      rcases hs t ht with ⟨j, oj, hj, _, hoj, hdj, _, hv⟩ | ⟨h5, _⟩
      · by_cases hji : j = i
        · subst hji; rw [if_pos hmi] at hv; exact hv
        · exact absurd hdj (((hms i o (by simpa using ho) hi hmi).2 j oj hoj hj).1 t hd' |>.2 hji)
      · exact absurd hd' (h5 i o hi (by simp [hi]) (by simpa using ho))
    have hval : ∀ i, i < (l.take n).length → mask[i]? = some false → rAt mask Rs i (a'.tmps.getD (((l[i]?).bind (·.dst)).getD 0) undef) e.to := by
      intro i hi hmi
      have hil : i < l.length := by omega
      obtain ⟨⟨d, hd', hlt⟩, _⟩ := hms i l[i] (by simp [hil]) (by omega) hmi
      have := hrel i l[i] (by omega) hmi (by simp [hil]) d hd' (by rw [hS]; exact hlt)
      simpa [hil, hd'] using this
    have hpe := relEnd_putG mask (l.take n) Rs [] (fun i => a'.tmps.getD (((l[i]?).bind (·.dst)).getD 0) undef) 0 _ hobl (hend e) (fun i hi hmi => by rw [Nat.zero_add]; exact hval i hi hmi)
    have heq : a' = zA8 mask (l.take n) (fun i => a'.tmps.getD (((l[i]?).bind (·.dst)).getD 0) undef) 0 (zAN a (zAF mask (l.take n)) vs) := by
      have ht : a'.tmps = (zA8 mask (l.take n) (fun i => a'.tmps.getD (((l[i]?).bind (·.dst)).getD 0) undef) 0 (zAN a (zAF mask (l.take n)) vs)).tmps := by
        apply Array.ext
        · rw [zBf, hsizeA]; exact hsz
        · intro t h1 h2
          have hta : t < a.tmps.size := by rw [← hsz]; exact h1
          have key : a'.tmps.getD t undef = (zA8 mask (l.take n) (fun i => a'.tmps.getD (((l[i]?).bind (·.dst)).getD 0) undef) 0 (zAN a (zAF mask (l.take n)) vs)).tmps.getD t undef := by
            by_cases hex : ∃ i o, i < n ∧ mask[i]? = some false ∧ l[i]? = some o ∧ o.dst = some t
            · obtain ⟨i, o, hi, hmi, ho, hd'⟩ := hex
              rw [zEC _ t mask (l.take n) 0 _ i o (by rw [hsizeA]; exact hta) hmi (by rw [hget i hi]; exact ho) hd' (fun j o' hji hmj ho' hdj => ?_)]
              · simp [ho, hd']
              · have hjn : j < n := by have := (List.getElem?_eq_some_iff.1 ho').1; omega
                rw [hget j hjn] at ho'
                exact ((hms i o (by simpa using ho) hi hmi).2 j o' (by simpa using ho') hjn).1 t hd' |>.2 hji hdj
            · rw [zBq _ t mask (l.take n) 0 _ (by rw [hsizeA]; exact hta) (fun i o hmi ho hd' => ?_)]
              · have := slot n (Nat.le_refl _) t _ e.to hta (fun j o hj hmj ho hd' => hex ⟨j, o, hj, hmj, ho, hd'⟩) (hs t hta)
                rwa [htakeN, hvtN] at this
              · have hin : i < n := by have := (List.getElem?_eq_some_iff.1 ho).1; omega
                rw [hget i hin] at ho
                exact hex ⟨i, o, hin, hmi, ho, hd'⟩
          have k2 := zFs (by rw [zBf, hsizeA]; exact hsz) key
          rw [Array.getElem?_eq_getElem h1, Array.getElem?_eq_getElem h2] at k2
          exact Option.some.inj k2
      have hdd : a'.defers = (zA8 mask (l.take n) (fun i => a'.tmps.getD (((l[i]?).bind (·.dst)).getD 0) undef) 0 (zAN a (zAF mask (l.take n)) vs)).defers := by rw [zCD, zCf]; exact hd
      generalize zA8 mask (l.take n) (fun i => a'.tmps.getD (((l[i]?).bind (·.dst)).getD 0) undef) 0 (zAN a (zAF mask (l.take n)) vs) = b at ht hdd
      cases a'
      cases b
      simp only at ht hdd
      rw [ht, hdd]
    rw [heq]
    simpa using hpe

def seqGB (l : List Oper) (n : Nat) (js : List Nat) (sz : Nat) (mask : List Bool) : Bool :=
  ok2B l.toArray n [] js && decide (l.length = n + js.length) && mask2G l.toArray n sz mask
/-- THE RULE, within a fence, with guarded operations whose values hang on the world. -/
theorem wpIn_region_seqG {F : Fence} {m0 : Nat} {P : Program} {Q : Exit → Act → World → Prop} {id : Nat} {a : Act} {w : World} {l : List Oper} (hF : OpF F m0 P) (n : Nat) (js : List Nat) (sz : Nat) (mask : List Bool) (Rs : List (Value → World → Prop)) (hm : P.follows .mixedOrders = true) (hN : zGu l = true)
    (hB : seqGB l n js sz mask = true) (hS : a.tmps.size = sz) (hR0 : ∀ R ∈ Rs, ∀ v w w', R v w → Below w.heap.size w w' → R v w')
    (h : wpQB P l.toArray w
      (fun a' => relOblG P l.toArray w mask (l.take n) Rs [] a' ∧ ∀ e : Ext w, zAZ (fun a'' => wpListIn F m0 P l.toArray Q (zAU l js) a'' e.to) e.to mask (l.take n) Rs a') (zAF mask (l.take n)) a) :
    (Code.region id l.toArray true).wpIn F m0 P Q a w := by
  simp only [seqGB, Bool.and_eq_true, decide_eq_true_eq] at hB
  obtain ⟨⟨h1, h4⟩, h6⟩ := hB
  refine wpIn_region_any hm ?_
  have hsz : l.toArray.size = n + js.length := by simpa using h4
  rw [hsz]
  refine wpAnyIn_rel2 n [] js sz mask Rs _ _ ⟨⟨_, (Below.refl _ w).drew⟩, rfl⟩ hF (zG5 hN) h1 (by rw [Array.size_replicate]; omega) (fun k _ => by rw [getD_replicate_false]; rfl) (fun f hf => by cases hf) (fun j o _ hl => by simp only [getD_replicate_false] at hl; cases hl) hS h6 hR0 h
theorem opF_wide {m0 : Nat} {P : Program} : OpF Fence.wide m0 P := ⟨fun _ h => zLz h, fun _ => trivial⟩
end Go.Flow
