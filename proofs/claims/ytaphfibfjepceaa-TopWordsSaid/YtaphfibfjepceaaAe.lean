/- pay: a map of lists that may grow: worlds that are the same but for the map's block; what a map of lists remembers -/
import Derived.Test.YtaphfibfjepceaaAa
import Derived.DeepKeys4
import Derived.Maps.OwnSet
namespace Go.Proofs.Ytaphfibfjepceaa
set_option linter.unusedVariables false
set_option linter.unusedSimpArgs false
set_option linter.unnecessarySimpa false
open Go.RowKit Go.Flow
open Go.Maps (Keyed)

def IsMapAt (w : World) (b : Nat) : Prop := ∃ es c, w.heap[b]? = some (.map es c)

/-- w' is w but for new memory and for the map in block bm. -/
structure Keep (bm : Nat) (w w' : World) : Prop where
  grown : w.grownBy w' (some bm)
  old : IsMapAt w bm
  new : IsMapAt w' bm

theorem grown_of_below {w w' : World} (hb : Below w.heap.size w w') (row : Option Nat) : w.grownBy w' row := ⟨hb.os, hb.tape, hb.output, hb.size, fun k hk _ => hb.block k hk⟩
theorem IsMapAt.below {w w' : World} {b : Nat} (h : IsMapAt w b) (hb : Below w.heap.size w w') : IsMapAt w' b := by
  obtain ⟨es, c, hm⟩ := h
  exact ⟨es, c, (hb.block b (Array.getElem?_eq_some_iff.1 hm).1).trans hm⟩
theorem Keep.refl {bm : Nat} {w : World} (h : IsMapAt w bm) : Keep bm w w := ⟨World.grownBy.refl _ _, h, h⟩
theorem Keep.of_below {bm : Nat} {w w' : World} (h : IsMapAt w bm) (hb : Below w.heap.size w w') : Keep bm w w' := ⟨grown_of_below hb _, h, h.below hb⟩
theorem Keep.trans {bm : Nat} {a b c : World} (h : Keep bm a b) (k : Keep bm b c) : Keep bm a c := ⟨h.grown.trans k.grown, h.old, k.new⟩
theorem Keep.size {bm : Nat} {w w' : World} (h : Keep bm w w') : w.heap.size ≤ w'.heap.size := h.grown.size
theorem Keep.below {bm : Nat} {a b c : World} (h : Keep bm a b) (hb : Below b.heap.size b c) : Keep bm a c := h.trans (.of_below h.new hb)

theorem IsMapAt.ne {w : World} {b : Nat} (h : IsMapAt w b) {a : Addr} {v : Value} (hc : w.cell? a = some v) : a.block ≠ b := by
  intro e
  obtain ⟨es, c, hm⟩ := h
  rw [← e] at hm
  simp [World.cell?, hm] at hc
theorem Keep.cell {bm : Nat} {w w' : World} (h : Keep bm w w') {a : Addr} {v : Value} (hc : w.cell? a = some v) : w'.cell? a = some v :=
  h.grown.cell hc (fun e => h.old.ne hc (Option.some.inj e))
theorem IntsAt.keep {bm : Nat} {w w' : World} {a : Option Addr} {xs : List Int} (h : IntsAt w a xs) (k : Keep bm w w') : IntsAt w' a xs := fun i hi =>
  let ⟨b, off, ha, hlt, hc⟩ := h i hi
  ⟨b, off, ha, Nat.lt_of_lt_of_le hlt k.size, k.cell hc⟩
theorem DisAt.keep {bm : Nat} {w w' : World} {a : Option Addr} {ds : List Dis} (h : DisAt w a ds) (k : Keep bm w w') : DisAt w' a ds := fun i hi =>
  let ⟨b, off, al, c, ha, hlt, h0, h1, h2, h3, h4⟩ := h i hi
  ⟨b, off, al, c, ha, Nat.lt_of_lt_of_le hlt k.size, k.cell h0, k.cell h1, k.cell h2, k.cell h3, ⟨h4.at_.keep k, h4.le, h4.nil⟩⟩

theorem laidOut' : laidOutB Try.prog = true := by kernel_rfl
theorem pricedRow : (91 : TypeId) < Try.prog.types.size := of_decide_eq_true (by kernel_rfl)
theorem pricedWide : (match Try.prog.underlying 91 with | some (.array _ _) | some (.struct _) => true | _ => false) = true := by kernel_rfl
set_option maxRecDepth 100000 in
theorem pricedKeyed : Keyed Try.prog 91 := Keyed.of_law (deep_law_laid laidOut' (m := 4) (by omega) pricedRow (by kernel_rfl) pricedWide)
theorem pricedCells : Try.prog.cellsOf 91 = 2 := by kernel_rfl
theorem intCells : Try.prog.cellsOf 3 = 1 := by kernel_rfl
theorem pricedKeyType : Try.prog.keyType 91 = true := by kernel_rfl
theorem manyTypes : 2 ≤ Try.prog.types.size := of_decide_eq_true (by kernel_rfl)
theorem i64_wf (x : Int) (h0 : 0 ≤ x) (h1 : x ≤ 1000000) : (Lit.int .i64 x).wf = true := by
  simp [Lit.wf, IntKind.min, IntKind.max, IntKind.bits, IntKind.signed]
  omega
theorem lits_int (n : Nat) (x : Int) (h : (Lit.int .i64 x).wf = true) : Try.prog.keyLits (n + 1) 3 [.int .i64 x] = some [.int .i64 x] := by
  simp only [Program.keyLits, Try.underlying3]
  simp [h]
def pricedV (d n : Int) : Value := .agg #[.int .i64 d, .int .i64 n]
theorem lits_priced (k : Nat) (d n : Int) (hd : 0 ≤ d ∧ d ≤ 1000000) (hn : 0 ≤ n ∧ n ≤ 1000000) : ∃ l, Try.prog.keyLits (k + 2) 91 (pricedV d n).cells.toList = some l := by
  have e0 := lits_int k d (i64_wf d hd.1 hd.2)
  have e1 := lits_int k n (i64_wf n hn.1 hn.2)
  refine ⟨[.int .i64 d, .int .i64 n], ?_⟩
  unfold Program.keyLits
  rw [Try.underlying91]
  dsimp only
  rw [pricedCells]
  simp only [pricedV, Value.cells]
  simp [intCells, e0, e1]
theorem priced_key (d n : Int) (hd : 0 ≤ d ∧ d ≤ 1000000) (hn : 0 ≤ n ∧ n ≤ 1000000) : ∃ kl, keyOf Try.prog 91 (pricedV d n) = some kl := by
  have hs : Try.prog.types.size + 1 = (Try.prog.types.size - 1) + 2 := by have := manyTypes; omega
  obtain ⟨l, hl⟩ := lits_priced (Try.prog.types.size - 1) d n hd hn
  have hf : Value.formed Try.prog 91 (pricedV d n) = true := by
    simp [Value.formed, Try.underlying91, pricedV, pricedCells]
  unfold keyOf
  rw [hs, pricedKeyType, hf, Try.underlying91]
  dsimp only
  rw [hl]
  exact ⟨_, rfl⟩

/-- How a slice reads: as its own parts. -/
def sliceElem : Value → Option (DataW Unit × List MemPlace)
  | .slice none 0 0 => some (.agg [], [])
  | .slice (some ⟨b, o, none⟩) n c => some (.agg [.lit (.int .i64 b), .lit (.int .i64 o), .lit (.int .i64 n), .lit (.int .i64 c)], [])
  | _ => none
theorem sliceElem_inj {v v' : Value} {z z' : DataW Unit × List MemPlace} (h : sliceElem v = some z) (h' : sliceElem v' = some z') (e : z.1 = z'.1) : v = v' := by
  unfold sliceElem at h h'
  split at h <;> split at h' <;> simp at h h' <;> subst h <;> subst h' <;> simp at e ⊢
  · omega
theorem sliceElem_form {v : Value} {z : DataW Unit × List MemPlace} (h : sliceElem v = some z) : ∃ a n c, v = .slice a n c := by
  unfold sliceElem at h
  split at h
  · exact ⟨_, _, _, rfl⟩
  · exact ⟨_, _, _, rfl⟩
  · cases h

/-- Every entry of the map is a list that reads as F says. -/
def MemoL (w : World) (bm n : Nat) (F : Int → Int → List Int) (av : List (Option Nat)) : Prop :=
  ∃ D : DataW Unit, w.ownsMap Try.prog 91 sliceElem bm n D ∧
    ∀ d x kl, keyOf Try.prog 91 (pricedV d x) = some kl → Go.Maps.has D kl = true →
      ∃ (b c : Nat), D.atKey kl (.agg []) = .agg [.lit (.int .i64 b), .lit (.int .i64 0), .lit (.int .i64 (F d x).length), .lit (.int .i64 c)] ∧ IntsAt w (some ⟨b, 0, none⟩) (F d x) ∧ b < w.heap.size ∧ some b ∉ av
section
variable {w w' : World} {bm n : Nat} {F : Int → Int → List Int} {av : List (Option Nat)}
theorem MemoL.isMap (h : MemoL w bm n F av) : IsMapAt w bm := by
  obtain ⟨D, ⟨es, c, hm, _⟩, _⟩ := h
  exact ⟨es, c, hm⟩
theorem MemoL.lt (h : MemoL w bm n F av) : bm < w.heap.size := by
  obtain ⟨D, ho, _⟩ := h
  exact ho.lt
theorem MemoL.mono {n' : Nat} (h : MemoL w bm n F av) (hn : n ≤ n') : MemoL w bm n' F av := by
  obtain ⟨D, ho, hG⟩ := h
  exact ⟨D, ho.mono hn, hG⟩
theorem MemoL.below (h : MemoL w bm n F av) (hb : Below w.heap.size w w') : MemoL w' bm n F av := by
  obtain ⟨D, ho, hG⟩ := h
  refine ⟨D, ho.kept (grown_of_below hb none) (by simp), fun d x kl h1 h2 => ?_⟩
  obtain ⟨b, c, h3, h4, h5, h6⟩ := hG d x kl h1 h2
  exact ⟨b, c, h3, h4.below hb, Nat.lt_of_lt_of_le h5 hb.size, h6⟩
theorem MemoL.made (w : World) (F : Int → Int → List Int) (av : List (Option Nat)) : MemoL (w.alloc (.map #[] 0)) w.heap.size 0 F av :=
  ⟨.map [], World.ownsMap_made w _ _ _, fun d x kl _ h => by simp [Go.Maps.has] at h⟩
theorem MemoL.avoid (h : MemoL w bm n F av) {av' : List (Option Nat)} (ha : ∀ q, some q ∈ av' → some q ∈ av ∨ w.heap.size ≤ q) : MemoL w bm n F av' := by
  obtain ⟨D, ho, hG⟩ := h
  refine ⟨D, ho, fun d x kl h1 h2 => ?_⟩
  obtain ⟨b, c, h3, h4, h5, h6⟩ := hG d x kl h1 h2
  exact ⟨b, c, h3, h4, h5, fun e => (ha b e).elim h6 (by omega)⟩
/-- The block that is avoided changes. -/
theorem MemoL.grown (h : MemoL w bm n F av) {r : Option Nat} (hg : w.grownBy w' r) (hr : r ∈ av) (hb : r ≠ some bm) : MemoL w' bm n F av := by
  obtain ⟨D, ho, hG⟩ := h
  refine ⟨D, ho.kept hg (fun e => hb e.symm), fun d x kl h1 h2 => ?_⟩
  obtain ⟨b, c, h3, h4, h5, h6⟩ := hG d x kl h1 h2
  refine ⟨b, c, h3, fun k hk => ?_, Nat.lt_of_lt_of_le h5 hg.size, h6⟩
  obtain ⟨b', off, e, hb', hc⟩ := h4 k hk
  cases e
  exact ⟨_, _, rfl, Nat.lt_of_lt_of_le hb' hg.size, (World.cell?_of_block (hg.block _ hb' (fun e => by rw [e] at h6; exact h6 hr))).trans hc⟩
theorem zeroInts (w : World) : (zeroValue 25).run Try.prog w = .ok (.slice none 0 0) w := by kernel_rfl
theorem MemoL.look (h : MemoL w bm n F av) (d x : Int) (hd : 0 ≤ d ∧ d ≤ 1000000) (hx : 0 ≤ x ∧ x ≤ 1000000) :
    ∃ (a : Option Addr) (m c : Nat) (b : Bool), (∀ e : Ext w, (Instr.lookup 108 (.map (some bm)) (pricedV d x) true).run Try.prog e.to = .ok (.tuple #[.slice a m c, .bool b]) e.to) ∧
      (b = true → m = (F d x).length ∧ (∃ g, a = some ⟨g, 0, none⟩) ∧ IntsAt w a (F d x)) := by
  obtain ⟨D, ho, hG⟩ := h
  obtain ⟨kl, hkl⟩ := priced_key d x hd hx
  have key : ∀ e : Ext w, ∃ v z, (Instr.lookup 108 (.map (some bm)) (pricedV d x) true).run Try.prog e.to = .ok (.tuple #[v, .bool (Go.Maps.has D kl)]) e.to ∧ sliceElem v = some z ∧ z.1 = D.atKey kl (.agg []) := by
    intro e
    obtain ⟨v, ps, hrun, hv⟩ := World.ownsMap.look_ok (ho.kept (grown_of_below e.below none) (by simp)) pricedKeyed Try.underlying108 (zeroInts e.to) (zd := .agg []) (zp := []) rfl hkl
    exact ⟨v, _, hrun, hv, rfl⟩
  obtain ⟨v, z, _, h2, h3⟩ := key ⟨w, Below.refl _ _⟩
  obtain ⟨a, m, c, rfl⟩ := sliceElem_form h2
  refine ⟨a, m, c, Go.Maps.has D kl, fun e => ?_, fun hb => ?_⟩
  · obtain ⟨v', z', h1', h2', h3'⟩ := key e
    obtain rfl := sliceElem_inj h2 h2' (h3.trans h3'.symm)
    exact h1'
  · obtain ⟨g, c', e1, hI, _, _⟩ := hG d x kl hkl hb
    have hz : sliceElem (.slice (some ⟨g, 0, none⟩) (F d x).length c') = some (.agg [.lit (.int .i64 g), .lit (.int .i64 0), .lit (.int .i64 (F d x).length), .lit (.int .i64 c')], []) := rfl
    have := sliceElem_inj h2 hz (h3.trans e1)
    simp at this
    obtain ⟨rfl, rfl, rfl⟩ := this
    exact ⟨rfl, ⟨g, rfl⟩, hI⟩
end
theorem wpList_memoL_put {w : World} {ops : Array Oper} {rest : List Oper} {o : Oper} {a : Act} {Q : Exit → Act → World → Prop} {bm n : Nat} {F : Int → Int → List Int} {av : List (Option Nat)} (d x : Int) (hd : 0 ≤ d ∧ d ≤ 1000000) (hx : 0 ≤ x ∧ x ≤ 1000000)
    (hg : o.guard = none) (m k v : Operand) (hop : o.op = Op.mapUpdate 108 m k v) (hm : a.eval m = .map (some bm)) (hk : a.eval k = pricedV d x) (g c : Nat) (hv : a.eval v = .slice (some ⟨g, 0, none⟩) (F d x).length c)
    (hI : IntsAt w (some ⟨g, 0, none⟩) (F d x)) (hgl : g < w.heap.size) (hga : some g ∉ av) (h : MemoL w bm n F av) (hn : n < maxLen) (hK : ∀ w', MemoL w' bm (n + 1) F av → Keep bm w w' → wpList Try.prog ops Q rest (a.put o.dst undef) w') :
    wpList Try.prog ops Q (o :: rest) a w := by
  have hmap := h.isMap
  obtain ⟨D, ho, hG⟩ := h
  obtain ⟨kl, hkl⟩ := priced_key d x hd hx
  refine wpList_mapUpdate_own w hg m k v 108 hop 91 25 pricedKeyed Try.underlying108 sliceElem bm n D hm ho hn (pricedV d x) (.slice (some ⟨g, 0, none⟩) (F d x).length c) kl hk hv hkl
    (.agg [.lit (.int .i64 g), .lit (.int .i64 0), .lit (.int .i64 (F d x).length), .lit (.int .i64 c)]) [] rfl fun w' ho' hgr => ?_
  have hmap' : IsMapAt w' bm := by
    obtain ⟨es, c, hm, _⟩ := ho'
    exact ⟨es, c, hm⟩
  have hkp : Keep bm w w' := ⟨hgr, hmap, hmap'⟩
  refine hK w' ⟨_, ho', fun d' x' kl' hkl' hh => ?_⟩ hkp
  by_cases e : kl' = kl
  · subst e
    have es := pricedKeyed.inj hkl hkl'
    obtain ⟨rfl, rfl⟩ : d = d' ∧ x = x' := by simpa [pricedV] using es
    refine ⟨g, c, ?_, hI.keep hkp, Nat.lt_of_lt_of_le hgl hkp.size, hga⟩
    rw [Go.Maps.atKey_put_same ho.isMap (pricedKeyed.key hkl)]
  · rw [Go.Maps.has_put_other e] at hh
    obtain ⟨b', c', h3, h4, h5, h6⟩ := hG d' x' kl' hkl' hh
    refine ⟨b', c', ?_, h4.keep hkp, Nat.lt_of_lt_of_le h5 hkp.size, h6⟩
    rw [Go.Maps.atKey_put_other e]
    exact h3
end Go.Proofs.Ytaphfibfjepceaa
