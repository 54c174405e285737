/- the region rule whose tail is walked by hand -/
import Derived.Test.YticjeianiahppaaGreatDoorGn
namespace Go.Flow
set_option linter.unusedVariables false
set_option linter.unusedSimpArgs false
set_option linter.unnecessarySimpa false
open Go.RowKit
def ok3B (ops : Array Oper) (n : Nat) (fs : List Nat) : Bool :=
  let b := zPH ops
  Region.noSelect ops && decide (n ≤ ops.size) &&
  nthB (fun j o => decide (n ≤ j) || o.after.all fun e => !Region.binds .any e || decide (e.on < j)) 0 ops.toList &&
  nthB (fun j o => decide (n ≤ j) || nthB (fun i o' => decide (j ≤ i) || !clash ops o' o || (b.getD j 0).testBit i) 0 ops.toList) 0 ops.toList &&
  nthB (fun j _ => decide (j < n) || fs.contains j || (List.range n).all fun i => (b.getD j 0).testBit i) 0 ops.toList
structure Ok3 (ops : Array Oper) (n : Nat) (fl : Nat → Bool) : Prop where
  noSel : Region.noSelect ops = true
  le : n ≤ ops.size
  back : ∀ j, j < n → ∀ o, ops[j]? = some o → ∀ e ∈ o.after, Region.binds .any e = true → e.on < j
  apart : ∀ i j oi oj, j < n → i < j → ops[i]? = some oi → ops[j]? = some oj → clash ops oi oj = true → Pred ops i j
  tail : ∀ i j oj, i < n → n ≤ j → fl j = false → ops[j]? = some oj → Pred ops i j

theorem ok3_of {ops : Array Oper} {n : Nat} {fs : List Nat} (h : ok3B ops n fs = true) : Ok3 ops n fs.contains := by
  simp only [ok3B, Bool.and_eq_true, decide_eq_true_eq] at h
  obtain ⟨⟨⟨⟨h1, h2⟩, h3⟩, h4⟩, h5⟩ := h
  refine ⟨h1, h2, ?_, ?_, ?_⟩
  · intro j hj o ho e he hb
    have := zAx _ _ h3 j o (by simpa using ho)
    simp only [Nat.zero_add, Bool.or_eq_true, decide_eq_true_eq] at this
    have := this.resolve_left (by omega)
    rw [Array.all_eq_true_iff_forall_mem] at this
    have := this e he
    simp [hb] at this
    exact this
  · intro i j oi oj hj hij hi hoj hc
    have := zAx _ _ h4 j oj (by simpa using hoj)
    simp only [Nat.zero_add, Bool.or_eq_true, decide_eq_true_eq] at this
    have := this.resolve_left (by omega)
    have := zAx _ _ this i oi (by simpa using hi)
    simp only [Nat.zero_add, Bool.or_eq_true, decide_eq_true_eq, Bool.not_eq_true', hc] at this
    rcases this with (h | h) | h
    · omega
    · cases h
    · exact zD1 h
  · intro i j oj hi hj hfl hoj
    have := zAx _ _ h5 j oj (by simpa using hoj)
    simp only [Nat.zero_add, Bool.or_eq_true, decide_eq_true_eq, List.all_eq_true, List.mem_range] at this
    rcases this with (h | h) | h
    · omega
    · rw [hfl] at h; cases h
    · exact zD1 (h i hi)

section
variable {F : Fence} {m0 : Nat} {P : Program} {ops : Array Oper} {C : World → Prop} {le : World → World → Prop} {T : Nat → Value → World → Prop} {n : Nat} {a0 : Act} {Q : Exit → Act → World → Prop}
theorem Inv2.next3 {fl : Nat → Bool} (hT : ∀ i v w w', T i v w → le w w' → T i v w') (ok : Ok3 ops n fl) {listed : Array Bool} {a : Act} {w w' : World} (inv : Inv2 ops fl C T n a0 listed a w) {i : Nat} {o : Oper} {v : Value}
    (ho : ops[i]? = some o) (hin : i < n) (hun : listed.getD i false = false) (hall : ∀ e ∈ o.after, Region.binds .any e = true → listed.getD e.on false = true)
    (hC : C w') (hle : le w w') (hv : T i v w') : Inv2 ops fl C T n a0 (listed.setIfInBounds i true) (a.put o.dst v) w' := by
  have his : i < listed.size := by rw [inv.size]; exact (Array.getElem?_eq_some_iff.1 ho).1
  refine ⟨by simp [inv.size], ?_, ?_, hC, (zCN _ _ _).trans inv.defers, (zB8 _ _ _).trans inv.tsize, ?_⟩
  · intro j oj hoj hl e he hb
    simp only [zA9 his] at hl ⊢
    by_cases h2 : e.on = i
    · simp [h2]
    · rw [if_neg h2]
      by_cases h1 : j = i
      · subst h1
        have : oj = o := Option.some.inj (hoj.symm.trans ho)
        subst this
        exact hall e he hb
      · rw [if_neg h1] at hl
        exact inv.closed j oj hoj hl e he hb
  · intro t ht hts
    rw [zA9 his, if_neg (by omega)]
    exact inv.tail t ht hts
  · intro t ht
    have hs := (inv.slots t ht).mono hT hle
    cases hd : o.dst with
    | none =>
      show zBM ops n T a0 _ t ((a.put none v).tmps.getD t undef) w'
      refine hs.congr fun k ok' hk hok hdk => ?_
      have hne : k ≠ i := fun e => by subst e; rw [ho] at hok; cases hok; rw [hd] at hdk; cases hdk
      simp only [zA9 his, if_neg hne]
    | some d =>
      rw [zCn a d v t (by rw [inv.tsize]; exact ht)]
      by_cases hdt : d = t
      · subst hdt
        rw [if_pos rfl]
        refine .inl ⟨i, o, hin, by simp [zA9 his], ho, hd, fun k ok' hk hlk hok hdk => ?_, hv⟩
        by_cases hki : k = i
        · omega
        · dsimp only at hlk
          rw [zA9 his, if_neg hki] at hlk
          rcases Nat.lt_or_ge i k with h | h
          · have hp := ok.apart i k o ok' hk h ho hok (zCi hd (by simp [names, hdk]))
            have := hp _ inv.closed (fun o' ho' e he hb => inv.closed k o' ho' hlk e he hb)
            simp only [hun] at this
            cases this
          · exact h
      · rw [if_neg hdt]
        refine hs.congr fun k ok' hk hok hdk => ?_
        have hne : k ≠ i := fun e => by subst e; rw [ho] at hok; cases hok; rw [hd] at hdk; exact hdt (Option.some.inj hdk)
        simp only [zA9 his, if_neg hne]

theorem flowIn3 (hF : OpF F m0 P) (hnd : ∀ o ∈ ops, ∀ c, o.op ≠ .defer c) {fl : Nat → Bool} {M : Nat} (hT : ∀ i v w w', T i v w → le w w' → T i v w') (ok : Ok3 ops n fl) (hstep : ∀ i o, i < n → ops[i]? = some o → Step P ops C le T n a0 i o)
    (hend : ∀ a w, C w → a.defers = a0.defers → a.tmps.size = a0.tmps.size → (∀ t, t < a0.tmps.size → zBM ops n T a0 (fun k => decide (k < n)) t (a.tmps.getD t undef) w) → wpAnyIn F m0 P .any ops Q M (zHd ops n fl) a w) :
    ∀ (d : Nat) (listed : Array Bool) (a : Act) (w : World), left (fun i => listed.getD i false) n = d → Inv2 ops fl C T n a0 listed a w → wpAnyIn F m0 P .any ops Q (d + M) listed a w
  | 0, listed, a, w, hd, inv => by
    have hall := zDQ _ n hd
    have hl : listed = zHd ops n fl := by
      apply Array.ext
      · simp [inv.size, zHd]
      · intro i h1 h2
        have his : i < ops.size := by rw [← inv.size]; exact h1
        have e1 : listed[i] = listed.getD i false := by simp only [Array.getD_eq_getD_getElem?, Array.getElem?_eq_getElem h1, Option.getD_some]
        rw [e1]
        simp only [zHd, List.getElem_toArray, List.getElem_map, List.getElem_range]
        by_cases hi : i < n
        · rw [hall i hi]; simp [hi]
        · rw [inv.tail i (by omega) his]; simp [hi]
    rw [Nat.zero_add]
    rw [hl]
    refine hend a w inv.cls inv.defers inv.tsize fun t ht => ?_
    refine (inv.slots t ht).congr fun k ok' hk _ _ => ?_
    simp only [hk, decide_true]
    exact (hall k hk).symm
  | d + 1, listed, a, w, hd, inv => by
    rw [show d + 1 + M = (d + M) + 1 by omega]
    refine ⟨fun h0 => ?_, fun i hi => ?_⟩
    · exfalso
      obtain ⟨i, hi, h1, h2⟩ := zBj _ n (by omega : left (fun i => listed.getD i false) n ≠ 0)
      have hlt : i < ops.size := by have := ok.le; omega
      have hmem : i ∈ Region.ready .any ops listed := by
        refine mem_ready.2 ⟨?_, ops[i], by simp [hlt], fun e he hb => h2 _ (ok.back i hi ops[i] (by simp [hlt]) e he hb)⟩
        have his : i < listed.size := by rw [inv.size]; exact hlt
        simp only [Array.getD_eq_getD_getElem?, Array.getElem?_eq_getElem his, Option.getD_some] at h1 ⊢
        exact h1
      rw [h0] at hmem
      cases hmem
    · obtain ⟨hun', o, ho, hall⟩ := mem_ready.1 hi
      have hun : listed.getD i false = false := getD_both hun'
      have hios : i < ops.size := (Array.getElem?_eq_some_iff.1 ho).1
      have hin : i < n := by
        rcases Nat.lt_or_ge i n with h | h
        · exact h
        · exfalso
          obtain ⟨m, hm, h1, _⟩ := zBj _ n (by omega : left (fun i => listed.getD i false) n ≠ 0)
          have hfl : fl i = false := by rw [← inv.tail i h hios]; exact hun
          have := ok.tail m i o hm h hfl ho _ inv.closed (fun o' ho' e he hb => hall e (by rw [ho] at ho'; cases ho'; exact he) hb)
          rw [h1] at this
          cases this
      have his : i < listed.size := by rw [inv.size]; exact (Array.getElem?_eq_some_iff.1 ho).1
      have hdn : left (fun k => (listed.setIfInBounds i true).getD k false) n = d := by
        have := zFI (fun k => listed.getD k false) (fun k => (listed.setIfInBounds i true).getD k false) i hun (by simp [zA9 his]) (fun j hj => by simp only [zA9 his, if_neg hj]) n
        rw [if_pos hin] at this
        omega
      have hlook : ∀ t ∈ o.looksAt ops, t < a0.tmps.size → zBM ops n T a0 (fun k => decide (k < i)) t (a.tmps.getD t undef) w := by
        intro t ht htl
        refine (inv.slots t htl).congr fun k ok' hk hok hdk => ?_
        rcases Nat.lt_trichotomy k i with h | h | h
        · simp only [h, decide_true]
          have hp := ok.apart k i ok' o hin h hok ho (zCi hdk (by simp [names, ht]))
          exact (hp _ inv.closed (fun o' ho' e he hb => hall e (by rw [ho] at ho'; cases ho'; exact he) hb)).symm
        · subst h
          simp only [Nat.lt_irrefl, decide_false]
          exact hun.symm
        · simp only [show ¬ k < i by omega, decide_false]
          cases hl : listed.getD k false
          · rfl
          · have hp := ok.apart i k o ok' hk h ho hok (zDq hdk (by simp [names, ht]))
            have := hp _ inv.closed (fun o' ho' e he hb => inv.closed k o' ho' hl e he hb)
            simp only [hun] at this
            cases this
      have hs := hstep i o hin ho a w inv.cls inv.defers inv.tsize hlook
      unfold wpOpIn
      simp only [ho]
      by_cases hw : Region.wanted o (yielded ops a.tmps) = true
      · rw [if_pos hw] at hs ⊢
        refine hF.op (hnd o (Array.mem_of_getElem? ho)) (zFU ?_ hs)
        rintro a' w' ⟨v, rfl, hC, hle, hv⟩
        exact flowIn3 hF hnd hT ok hstep hend d _ _ _ hdn (inv.next3 hT ok ho hin hun hall hC hle hv)
      · rw [if_neg hw] at hs ⊢
        exact ⟨fun _ _ => hF.fn _, flowIn3 hF hnd hT ok hstep hend d _ _ _ hdn (inv.next3 hT ok ho hin hun hall inv.cls hs.2 hs.1)⟩

end
/-- THE RULE WITH RELATIONS AND FLOATS, behind the floats. -/
theorem wpAnyIn_rel3 {F : Fence} {m0 : Nat} {P : Program} {Q : Exit → Act → World → Prop} {a : Act} {w : World} {l : List Oper} (n : Nat) (fs : List Nat) (M sz : Nat) (mask : List Bool) (Rs : List (Value → World → Prop)) (listed : Array Bool) (w1 : World) (hw1 : ∃ e : Ext w, w1 = e.to) (hF : OpF F m0 P) (hnd : ∀ o ∈ l.toArray, ∀ c, o.op ≠ .defer c)
    (hB : ok3B l.toArray n fs = true) (hls : listed.size = l.length) (hll : ∀ k, k < l.length → listed.getD k false = fs.contains k) (hfn : ∀ f ∈ fs, n ≤ f)
    (hcl : Closed l.toArray (fun i => listed.getD i false)) (hS : a.tmps.size = sz) (hM : mask2G l.toArray n sz mask = true) (hR0 : ∀ R ∈ Rs, ∀ v w w', R v w → Below w.heap.size w w' → R v w')
    (h : wpQB P l.toArray w
      (fun a' => relOblG P l.toArray w mask (l.take n) Rs [] a' ∧ ∀ e : Ext w, zAZ (fun a'' => wpAnyIn F m0 P .any l.toArray Q M (zHd l.toArray n fs.contains) a'' e.to) e.to mask (l.take n) Rs a') (zAF mask (l.take n)) a) :
    wpAnyIn F m0 P .any l.toArray Q (n + M) listed a w1 := by
  have ok := ok3_of hB
  have hR := zFG (le := fun w w' => Below w.heap.size w w') mask Rs hR0
  obtain ⟨hml, hms⟩ := mask2G_spec hM
  have hn : n ≤ l.length := by simpa using ok.le
  have hlen : (l.take n).length = n := by simp; omega
  have hml' : mask.length = (l.take n).length := by omega
  have hget : ∀ i, i < n → (l.take n)[i]? = l[i]? := fun i hi => by rw [List.getElem?_take, if_pos hi]
  obtain ⟨vs, hvl, hy, hobl, hend⟩ := zDK _ _ h
  rw [zBG _ _ hml', hlen] at hvl
  have hroom : relOblG P l.toArray w mask (l.take n) Rs [] (zAN a (zAF mask (l.take n)) vs) := hobl
  -- what the lexical frame holds behind the first i operations
  have slot : ∀ (i : Nat), i ≤ n → ∀ (t : Tmp) (v : Value) (w' : World), t < a.tmps.size → (∀ j o, j < n → mask[j]? = some false → l[j]? = some o → o.dst ≠ some t) →
      zBM l.toArray n (fun i v w => if mask[i]? = some false then rAt mask Rs i v w else v = vs.getD i undef) a (fun k => decide (k < i)) t v w' →
      v = (zAN a ((zAF mask (l.take n)).take i) (vs.take i)).tmps.getD t undef := by
    intro i hi t v w' ht hno hs
    have hli : (vs.take i).length = ((zAF mask (l.take n)).take i).length := by simp [hvl, zBG _ _ hml']; omega
    have hgn : ∀ k ok', ((zAF mask (l.take n)).take i)[k]? = some ok' → k < i ∧ ∃ o', l[k]? = some o' ∧ o'.dst = ok'.dst := fun k ok' hk => by
      have h1 := (List.getElem?_eq_some_iff.1 hk).1
      have hki : k < i := by simp at h1; omega
      rw [List.getElem?_take, if_pos hki] at hk
      obtain ⟨o', b, h2, _, h3⟩ := zFj _ _ _ _ hml' hk
      rw [hget k (by omega)] at h2
      exact ⟨hki, o', h2, h3⟩
    have hto : ∀ k o', k < i → l[k]? = some o' → ∃ ok', ((zAF mask (l.take n)).take i)[k]? = some ok' ∧ ok'.dst = o'.dst := fun k o' hk ho' => by
      have hb : k < mask.length := by omega
      have := zBi mask (l.take n) k mask[k] o' (by simp [hb]) (by rw [hget k (by omega)]; exact ho')
      refine ⟨_, by rw [List.getElem?_take, if_pos hk]; exact this, ?_⟩
      cases mask[k] <;> rfl
    rcases zEM _ _ a t hli ht with ⟨j, oj, h1, h2, h3, h4⟩ | ⟨h1, h2⟩
    · obtain ⟨hj, oj', hoj, hdj⟩ := hgn j oj h1
      rcases hs with ⟨j', oj'', hj', hlt, ho', hd', hm', hv⟩ | ⟨h5, _⟩
      · simp only [decide_eq_true_eq] at hlt
        have ho'l : l[j']? = some oj'' := by simpa using ho'
        obtain ⟨o3, h6, h7⟩ := hto j' oj'' hlt ho'l
        have e1 : j' ≤ j := h3 j' o3 h6 (by rw [h7]; exact hd')
        have e2 : j ≤ j' := hm' j oj' (by omega) (by simp [hj]) (by simpa using hoj) (by rw [hdj]; exact h2)
        obtain rfl : j' = j := by omega
        have hmj : mask[j']? ≠ some false := fun hmf => hno j' oj'' hj' hmf ho'l hd'
        rw [if_neg hmj] at hv
        rw [hv, h4]
        simp only [List.getD_eq_getElem?_getD, List.getElem?_take, if_pos hj]
      · exact absurd (by rw [hdj]; exact h2) (h5 j oj' (by omega) (by simp [hj]) (by simpa using hoj))
    · rcases hs with ⟨j', oj', hj', hlt, ho', hd', hm', hv⟩ | ⟨_, h5⟩
      · simp only [decide_eq_true_eq] at hlt
        obtain ⟨o3, h6, h7⟩ := hto j' oj' hlt (by simpa using ho')
        exact absurd (by rw [h7]; exact hd') (h1 j' o3 h6)
      · rw [h5, h2]
  have hsizeA : (zAN a (zAF mask (l.take n)) vs).tmps.size = a.tmps.size := zBT _ _ _
  have htakeN : (zAF mask (l.take n)).take n = zAF mask (l.take n) := List.take_of_length_le (by rw [zBG _ _ hml']; omega)
  have hvtN : vs.take n = vs := List.take_of_length_le (by omega)
  have hleft : left (fun i => listed.getD i false) n = n := by
    have : ∀ m, m ≤ n → left (fun i => listed.getD i false) m = m := by
      intro m
      induction m with
      | zero => intro _; rfl
      | succ m ih =>
        intro hm1
        have h1 : listed.getD m false = false := by
          rw [hll m (by omega)]
          simp only [List.contains_eq_mem, decide_eq_false_iff_not]
          intro hc
          have := hfn m hc
          omega
        simp only [left, h1]
        rw [ih (by omega)]
        rfl
    exact this n (Nat.le_refl _)
  refine flowIn3 hF hnd (C := fun w' => ∃ e : Ext w, w' = e.to) (le := fun w w' => Below w.heap.size w w')
    (T := fun i v w => if mask[i]? = some false then rAt mask Rs i v w else v = vs.getD i undef) (a0 := a) ?_ ok ?_ ?_ n listed a w1 hleft
    { size := by simpa using hls
      closed := hcl
      tail := fun t _ hts => by rw [hll t (by simpa using hts)]
      cls := hw1
      defers := rfl
      tsize := rfl
      slots := fun t _ => .inr ⟨fun k ok' hk hL _ => by
        have h1 := hll k (by omega)
        simp only at hL
        rw [h1] at hL
        simp only [List.contains_eq_mem, decide_eq_true_eq] at hL
        have := hfn k hL
        omega, rfl⟩ }
  · intro i v w1 w2 ht hle
    split
    · rename_i hmi; rw [if_pos hmi] at ht; exact hR i v w1 w2 ht hle
    · rename_i hmi; rw [if_neg hmi] at ht; exact ht
  · intro i o hi ho a' w' hC' hd hsz hlook
    have ho' : l[i]? = some o := by simpa using ho
    have hsel : ∀ cs d, o.op ≠ .select cs d := fun cs d => Region.noSelect_spec ok.noSel i o cs d ho
    by_cases hmi : mask[i]? = some false
    · -- a value that hangs on the world
      obtain ⟨_, hj⟩ := hms i o ho hi hmi
      obtain ⟨e, rfl⟩ := hC'
      have hsame : ∀ t ∈ o.looksAt l.toArray, a'.tmps.getD t undef = (putG (fun t => a'.tmps.getD t undef) (zDD mask (l.take n) Rs i) (zAN a (zAF mask (l.take n)) vs)).tmps.getD t undef := by
        intro t ht
        by_cases htl : t < a.tmps.size
        · obtain ⟨g1, g2⟩ := zHn (fun t => a'.tmps.getD t undef) t (zDD mask (l.take n) Rs i) (zAN a (zAF mask (l.take n)) vs) (by rw [hsizeA]; exact htl)
          by_cases hex : ∃ p ∈ zDD mask (l.take n) Rs i, p.1 = some t
          · exact (g1 hex).symm
          · have hno : ∀ j oj, j < n → mask[j]? = some false → l[j]? = some oj → oj.dst ≠ some t := fun j oj hjn hmj hoj hdj => by
              by_cases hji : j < i
              · exact hex ⟨_, accOfG_in mask (l.take n) Rs i j oj hji hmj (by rw [hget j hjn]; exact hoj) hroom, hdj⟩
              · exact (hj j oj (by simpa using hoj) hjn).2 (by omega) t hdj ht
            rw [g2 (fun p hp he => hex ⟨p, hp, he⟩)]
            have hs2 : zBM l.toArray n (fun i v w => if mask[i]? = some false then rAt mask Rs i v w else v = vs.getD i undef) a (fun k => decide (k < n)) t (a'.tmps.getD t undef) e.to := by
              refine (hlook t ht htl).congr fun k ok' hk hok hdk => ?_
              by_cases hki : k < i
              · simp [hki, hk]
              · exact absurd ht ((hj k ok' hok hk).2 (by omega) t hdk)
            have := slot n (Nat.le_refl _) t _ e.to htl hno hs2
            rwa [htakeN, hvtN] at this
        · have htl' : a.tmps.size ≤ t := Nat.not_lt.1 htl
          rw [zB1 (show a'.tmps.size ≤ t by rw [hsz]; exact htl'), zB1 (by rw [zFe, hsizeA]; exact htl')]
      obtain ⟨e1, e2⟩ := zCe (ops := l.toArray) hsel hsame (by rw [zFe, hsizeA]; exact hsz)
      have hob := zGS (fun t => a'.tmps.getD t undef) _ _ _ _ (relOblG_get mask (l.take n) Rs [] i o hobl hmi (by rw [hget i hi]; exact ho') e) (fun p hp hlk => by
        rw [List.nil_append] at hp
        obtain ⟨j, oj, hji, hmj, hoj, rfl⟩ := zGE _ _ _ _ _ hp
        rw [hget j (by omega)] at hoj
        obtain ⟨⟨t, hdt, htsz⟩, hjj⟩ := hms j oj (by simpa using hoj) (by omega) hmj
        simp only [hdt, zMU, Option.getD_some, List.contains_eq_mem, decide_eq_true_eq] at hlk ⊢
        have htl : t < a.tmps.size := by rw [hS]; exact htsz
        rcases hlook t hlk htl with ⟨j', oj', hj', hlt, ho2, hd2, _, hv⟩ | ⟨h5, _⟩
        · by_cases hjj' : j' = j
          · subst hjj'; rw [if_pos hmj] at hv; exact hv
          · exact absurd hd2 ((hjj j' oj' ho2 hj').1 t hdt |>.2 hjj')
        · exact absurd hdt (h5 j oj (by omega) (by simp [hji]) (by simpa using hoj)))
      rw [List.nil_append] at hob
      rcases hob with hob | hob
      rotate_left
      · rw [if_neg (by rw [e2, hob.1]; simp)]
        exact ⟨by dsimp only; rw [if_pos hmi]; exact hob.2, Below.refl _ _⟩
      rw [if_pos (e2.trans hob.1)]
      refine zFU ?_ (zFT e1 hob.2)
      rintro a'' w'' ⟨v, rfl, hb, hr⟩
      exact ⟨v, rfl, ⟨⟨w'', e.below.trans (hb.mono e.size)⟩, rfl⟩, hb, by dsimp only; rw [if_pos hmi]; exact hr⟩
    · -- a value that is the same in every world
      have hmt : mask[i]? = some true := by
        have hil : i < mask.length := by omega
        rw [List.getElem?_eq_getElem hil] at hmi ⊢
        cases hb : mask[i]
        · rw [hb] at hmi; exact absurd rfl hmi
        · rfl
      have hyi := hy i o (by have := zBi mask (l.take n) i true o hmt (by rw [hget i hi]; exact ho'); simpa using this)
      have hsame : ∀ t ∈ o.looksAt l.toArray, a'.tmps.getD t undef = (zAN a ((zAF mask (l.take n)).take i) (vs.take i)).tmps.getD t undef := by
        intro t ht
        by_cases htl : t < a.tmps.size
        · refine slot i (by omega) t _ w' htl (fun j oj hjn hmj hoj hdj => ?_) (hlook t ht htl)
          exact (((hms j oj (by simpa using hoj) hjn hmj).2 i o ho hi).1 t hdj).1 hmt ht
        · have htl' : a.tmps.size ≤ t := Nat.not_lt.1 htl
          rw [zB1 (show a'.tmps.size ≤ t by rw [hsz]; exact htl'), zB1 (by rw [zBT]; exact htl')]
      obtain ⟨e1, e2⟩ := zCe (ops := l.toArray) hsel hsame (by rw [zBT]; exact hsz)
      obtain ⟨e, rfl⟩ := hC'
      -- a quiet step leaves the world or grows it
      rcases hyi.of_same e1 e2 with ⟨hw, hv⟩ | ⟨hw, hv⟩
      · rw [if_pos hw]
        refine zFU ?_ (zEm (hv e))
        rintro a'' w'' ⟨rfl, hb⟩
        exact ⟨_, rfl, ⟨⟨w'', e.below.trans (hb.mono e.size)⟩, rfl⟩, hb, by dsimp only; rw [if_neg hmi]⟩
      · rw [if_neg (by simp [hw])]
        exact ⟨by dsimp only; rw [if_neg hmi]; exact hv.symm, Below.refl _ _⟩
  · intro a' w' hC' hd hsz hs
    obtain ⟨e, rfl⟩ := hC'
    -- the relations' values, read off the frame at hand
    have hrel : ∀ i o, i < n → mask[i]? = some false → l[i]? = some o → ∀ t, o.dst = some t → t < a.tmps.size → rAt mask Rs i (a'.tmps.getD t undef) e.to := by
      intro i o hi hmi ho t hd' ht
      rcases hs t ht with ⟨j, oj, hj, _, hoj, hdj, _, hv⟩ | ⟨h5, _⟩
      · by_cases hji : j = i
        · subst hji; rw [if_pos hmi] at hv; exact hv
        · exact absurd hdj (((hms i o (by simpa using ho) hi hmi).2 j oj hoj hj).1 t hd' |>.2 hji)
      · exact absurd hd' (h5 i o hi (by simp [hi]) (by simpa using ho))
    have hval : ∀ i, i < (l.take n).length → mask[i]? = some false → rAt mask Rs i (a'.tmps.getD (((l[i]?).bind (·.dst)).getD 0) undef) e.to := by
      intro i hi hmi
      have hil : i < l.length := by omega
      obtain ⟨⟨d, hd', hlt⟩, _⟩ := hms i l[i] (by simp [hil]) (by omega) hmi
      have := hrel i l[i] (by omega) hmi (by simp [hil]) d hd' (by rw [hS]; exact hlt)
      simpa [hil, hd'] using this
    have hpe := relEnd_putG mask (l.take n) Rs [] (fun i => a'.tmps.getD (((l[i]?).bind (·.dst)).getD 0) undef) 0 _ hobl (hend e) (fun i hi hmi => by rw [Nat.zero_add]; exact hval i hi hmi)
    have heq : a' = zA8 mask (l.take n) (fun i => a'.tmps.getD (((l[i]?).bind (·.dst)).getD 0) undef) 0 (zAN a (zAF mask (l.take n)) vs) := by
      have ht : a'.tmps = (zA8 mask (l.take n) (fun i => a'.tmps.getD (((l[i]?).bind (·.dst)).getD 0) undef) 0 (zAN a (zAF mask (l.take n)) vs)).tmps := by
        apply Array.ext
        · rw [zBf, hsizeA]; exact hsz
        · intro t h1 h2
          have hta : t < a.tmps.size := by rw [← hsz]; exact h1
          have key : a'.tmps.getD t undef = (zA8 mask (l.take n) (fun i => a'.tmps.getD (((l[i]?).bind (·.dst)).getD 0) undef) 0 (zAN a (zAF mask (l.take n)) vs)).tmps.getD t undef := by
            by_cases hex : ∃ i o, i < n ∧ mask[i]? = some false ∧ l[i]? = some o ∧ o.dst = some t
            · obtain ⟨i, o, hi, hmi, ho, hd'⟩ := hex
              rw [zEC _ t mask (l.take n) 0 _ i o (by rw [hsizeA]; exact hta) hmi (by rw [hget i hi]; exact ho) hd' (fun j o' hji hmj ho' hdj => ?_)]
              · simp [ho, hd']
              · have hjn : j < n := by have := (List.getElem?_eq_some_iff.1 ho').1; omega
                rw [hget j hjn] at ho'
                exact ((hms i o (by simpa using ho) hi hmi).2 j o' (by simpa using ho') hjn).1 t hd' |>.2 hji hdj
            · rw [zBq _ t mask (l.take n) 0 _ (by rw [hsizeA]; exact hta) (fun i o hmi ho hd' => ?_)]
              · have := slot n (Nat.le_refl _) t _ e.to hta (fun j o hj hmj ho hd' => hex ⟨j, o, hj, hmj, ho, hd'⟩) (hs t hta)
                rwa [htakeN, hvtN] at this
              · have hin : i < n := by have := (List.getElem?_eq_some_iff.1 ho).1; omega
                rw [hget i hin] at ho
                exact hex ⟨i, o, hin, hmi, ho, hd'⟩
          have k2 := zFs (by rw [zBf, hsizeA]; exact hsz) key
          rw [Array.getElem?_eq_getElem h1, Array.getElem?_eq_getElem h2] at k2
          exact Option.some.inj k2
      have hdd : a'.defers = (zA8 mask (l.take n) (fun i => a'.tmps.getD (((l[i]?).bind (·.dst)).getD 0) undef) 0 (zAN a (zAF mask (l.take n)) vs)).defers := by rw [zCD, zCf]; exact hd
      generalize zA8 mask (l.take n) (fun i => a'.tmps.getD (((l[i]?).bind (·.dst)).getD 0) undef) 0 (zAN a (zAF mask (l.take n)) vs) = b at ht hdd
      cases a'
      cases b
      simp only at ht hdd
      rw [ht, hdd]
    rw [heq]
    simpa using hpe

/-- THE RULE, whose tail is walked by hand. -/
theorem wpIn_region_head {F : Fence} {m0 : Nat} {P : Program} {Q : Exit → Act → World → Prop} {id : Nat} {a : Act} {w : World} {l : List Oper} (hF : OpF F m0 P) (n M : Nat) (sz : Nat) (mask : List Bool) (Rs : List (Value → World → Prop)) (hm : P.follows .mixedOrders = true) (hN : zGu l = true)
    (hB : (ok3B l.toArray n [] && decide (l.length = n + M) && mask2G l.toArray n sz mask) = true) (hS : a.tmps.size = sz) (hR0 : ∀ R ∈ Rs, ∀ v w w', R v w → Below w.heap.size w w' → R v w')
    (h : wpQB P l.toArray w
      (fun a' => relOblG P l.toArray w mask (l.take n) Rs [] a' ∧ ∀ e : Ext w, zAZ (fun a'' => wpAnyIn F m0 P .any l.toArray Q M (zHd l.toArray n ([] : List Nat).contains) a'' e.to) e.to mask (l.take n) Rs a') (zAF mask (l.take n)) a) :
    (Code.region id l.toArray true).wpIn F m0 P Q a w := by
  simp only [Bool.and_eq_true, decide_eq_true_eq] at hB
  obtain ⟨⟨h1, h4⟩, h6⟩ := hB
  refine wpIn_region_any hm ?_
  have hsz : l.toArray.size = n + M := by simpa using h4
  rw [hsz]
  refine wpAnyIn_rel3 n [] M sz mask Rs _ _ ⟨⟨_, (Below.refl _ w).drew⟩, rfl⟩ hF (zG5 hN) h1 (by rw [Array.size_replicate]; omega) (fun k _ => by rw [getD_replicate_false]; rfl) (fun f hf => by cases hf) (fun j o _ hl => by simp only [getD_replicate_false] at hl; cases hl) hS h6 hR0 h
end Go.Flow
namespace Go.Flow
set_option linter.unusedVariables false
set_option linter.unusedSimpArgs false
set_option linter.unnecessarySimpa false
open Go.RowKit
section
variable {F : Fence} {m0 : Nat} {P : Program} {md : Region.Mode} {ops : Array Oper} {Q : Exit → Act → World → Prop} {d : Nat} {listed : Array Bool} {a : Act} {w : World}
/-- One operation is ready. -/
theorem wpAnyIn_one (i : Nat) (hr : Region.ready md ops listed = [i]) (h : wpOpIn F m0 P ops Q i (wpAnyIn F m0 P md ops Q d (listed.setIfInBounds i true)) a w) : wpAnyIn F m0 P md ops Q (d + 1) listed a w :=
  ⟨fun h0 => (by rw [hr] at h0; cases h0), fun j hj => by rw [hr] at hj; obtain rfl : j = i := (by simpa using hj); exact h⟩
/-- Two are, in either order. -/
theorem wpAnyIn_two (i j : Nat) (hr : Region.ready md ops listed = [i, j]) (hi : wpOpIn F m0 P ops Q i (wpAnyIn F m0 P md ops Q d (listed.setIfInBounds i true)) a w)
    (hj : wpOpIn F m0 P ops Q j (wpAnyIn F m0 P md ops Q d (listed.setIfInBounds j true)) a w) : wpAnyIn F m0 P md ops Q (d + 1) listed a w :=
  ⟨fun h0 => (by rw [hr] at h0; cases h0), fun k hk => by
    rw [hr] at hk
    rcases List.mem_cons.1 hk with rfl | hk
    · exact hi
    · obtain rfl : k = j := by simpa using hk
      exact hj⟩
theorem wpAnyIn_end (hr : Region.ready md ops listed = []) (h : Q .normal a w) : wpAnyIn F m0 P md ops Q 0 listed a w := ⟨hr, h⟩
theorem wpIf_gives {o : Oper} {K : Act → World → Prop} {X : Prop} {y : Nat → Option Bool} (hF : OpF F m0 P) (hw : Region.wanted o y = true) (hnd : ∀ c, o.op ≠ .defer c) (R : Value → World → Prop) (hg : o.gives P a w R)
    (h : ∀ v w', R v w' → K (a.put o.dst v) w') : if Region.wanted o y = true then o.wpIn F m0 P a w K Q else X := by
  rw [if_pos hw]
  refine hF.op hnd (zFU ?_ (zFT rfl hg))
  rintro a' w' ⟨v, rfl, hr⟩
  exact h v w' hr
end
end Go.Flow
