/- copies: worlds that differ by a map; the map of dead states -/
import Derived.Test.YtfclemnkcpadpaaKs
namespace Go.Proofs.Ytfclemnkcpadpaa
set_option linter.unusedVariables false
set_option linter.unusedSimpArgs false
set_option linter.unnecessarySimpa false
open Go.RowKit Go.Flow Go.Shelf
open Go.Maps (Keyed)

def IsMapAt (w : World) (b : Nat) : Prop := ∃ es c, w.heap[b]? = some (.map es c)
/-- w' is w but for new memory and for the map in block bm. -/
structure Keep (bm : Nat) (w w' : World) : Prop where
  grown : w.grownBy w' (some bm)
  old : IsMapAt w bm
  new : IsMapAt w' bm
theorem IsMapAt.below {w w' : World} {b : Nat} (h : IsMapAt w b) (hb : Below w.heap.size w w') : IsMapAt w' b := by
  obtain ⟨es, c, hm⟩ := h
  exact ⟨es, c, (hb.block b (Array.getElem?_eq_some_iff.1 hm).1).trans hm⟩
theorem Keep.refl {bm : Nat} {w : World} (h : IsMapAt w bm) : Keep bm w w := ⟨World.grownBy.refl _ _, h, h⟩
theorem Keep.of_below {bm : Nat} {w w' : World} (h : IsMapAt w bm) (hb : Below w.heap.size w w') : Keep bm w w' := ⟨grown_of_below hb _, h, h.below hb⟩
theorem Keep.trans {bm : Nat} {a b c : World} (h : Keep bm a b) (k : Keep bm b c) : Keep bm a c := ⟨h.grown.trans k.grown, h.old, k.new⟩
theorem Keep.size {bm : Nat} {w w' : World} (h : Keep bm w w') : w.heap.size ≤ w'.heap.size := h.grown.size
theorem Keep.below {bm : Nat} {a b c : World} (h : Keep bm a b) (hb : Below b.heap.size b c) : Keep bm a c := h.trans (.of_below h.new hb)
theorem IsMapAt.ne {w : World} {b : Nat} (h : IsMapAt w b) {a : Addr} {v : Value} (hc : w.cell? a = some v) : a.block ≠ b := by
  intro e
  obtain ⟨es, c, hm⟩ := h
  rw [← e] at hm
  simp [World.cell?, hm] at hc
theorem Keep.cell {bm : Nat} {w w' : World} (h : Keep bm w w') {a : Addr} {v : Value} (hc : w.cell? a = some v) : w'.cell? a = some v :=
  h.grown.cell hc (fun e => h.old.ne hc (Option.some.inj e))
theorem Keep.cells {bm : Nat} {w w' : World} (h : Keep bm w w') {g : Nat} {cs : Array Value} {T : TypeId} (hc : Cells w g cs T) : Cells w' g cs T :=
  (h.grown.block g hc.lt (fun e => by
    have e := Option.some.inj e
    obtain ⟨es, c, hm⟩ := h.old
    subst e
    have := (show w.heap[g]? = _ from hc).symm.trans hm
    simp at this)).trans hc
theorem IntsAt.keep {bm : Nat} {w w' : World} {a : Option Addr} {xs : List Int} (h : IntsAt w a xs) (k : Keep bm w w') : IntsAt w' a xs := fun i hi =>
  let ⟨b, off, ha, hlt, hc⟩ := h i hi
  ⟨b, off, ha, Nat.lt_of_lt_of_le hlt k.size, k.cell hc⟩
theorem Keep.toBelow {bm B0 : Nat} {a b : World} (h : Keep bm a b) (hb : B0 ≤ bm) (hs : B0 ≤ a.heap.size) : Below B0 a b :=
  ⟨h.grown.os, h.grown.tape, h.grown.output, h.grown.size, fun k hk => h.grown.block k (by omega) (fun e => by have := Option.some.inj e; omega)⟩

theorem stateRow : (163 : TypeId) < Try.prog.types.size := of_decide_eq_true (by kernel_rfl)
theorem stateWide : (match Try.prog.underlying 163 with | some (.array _ _) | some (.struct _) => true | _ => false) = true := by kernel_rfl
set_option maxRecDepth 100000 in
theorem stateKeyed : Keyed Try.prog 163 := Keyed.of_law (deep_law_laid laidOut' (m := 4) (by omega) stateRow (by kernel_rfl) stateWide)
theorem stateCells : Try.prog.cellsOf 163 = 2 := by kernel_rfl
theorem stateKeyType : Try.prog.keyType 163 = true := by kernel_rfl
theorem lits_state (n : Nat) (i k : Int) (hi : (Lit.int .i64 i).wf = true) (hk : (Lit.int .i64 k).wf = true) : ∃ l, Try.prog.keyLits (n + 2) 163 (pairVal i k).cells.toList = some l := by
  have e0 := lits_int n i hi
  have e1 := lits_int n k hk
  refine ⟨[.int .i64 i, .int .i64 k], ?_⟩
  unfold Program.keyLits
  rw [Try.underlying163]
  dsimp only
  rw [stateCells]
  simp only [pairVal, Value.cells]
  simp [intCells, e0, e1]
theorem state_key (i k : Int) (hi : 0 ≤ i ∧ i ≤ 1000000) (hk : 0 ≤ k ∧ k ≤ 1000000) : ∃ kl, keyOf Try.prog 163 (pairVal i k) = some kl := by
  have hn : Try.prog.types.size + 1 = (Try.prog.types.size - 1) + 2 := by have := manyTypes; omega
  obtain ⟨l, hl⟩ := lits_state (Try.prog.types.size - 1) i k (i64_wf i hi.1 hi.2) (i64_wf k hk.1 hk.2)
  have hf : Value.formed Try.prog 163 (pairVal i k) = true := by
    simp [Value.formed, Try.underlying163, pairVal, stateCells]
  unfold keyOf
  rw [hn, stateKeyType, hf, Try.underlying163]
  dsimp only
  rw [hl]
  exact ⟨_, rfl⟩

def boolR : Value → Option (DataW Unit × List MemPlace)
  | .bool b => some (.lit (.bool b), [])
  | _ => none
theorem boolR_inv {v : Value} {b : Bool} {ps : List MemPlace} (h : boolR v = some (.lit (.bool b), ps)) : v = .bool b := by
  unfold boolR at h
  split at h
  · simp at h; rw [h.1]
  · cases h
/-- Every state that the map calls dead has a property. -/
def DeadAt (w : World) (bm n : Nat) (G : Nat → Int → Prop) : Prop :=
  ∃ D : DataW Unit, w.ownsMap Try.prog 163 boolR bm n D ∧
    ∀ (i : Nat) (f : Int) kl, keyOf Try.prog 163 (pairVal i f) = some kl → ∃ b, D.atKey kl (.lit (.bool false)) = .lit (.bool b) ∧ (b = true → G i f)
theorem DeadAt.isMap {w : World} {bm n : Nat} {G : Nat → Int → Prop} (h : DeadAt w bm n G) : IsMapAt w bm := by
  obtain ⟨D, ⟨es, c, hm, _⟩, _⟩ := h
  exact ⟨es, c, hm⟩
theorem DeadAt.lt {w : World} {bm n : Nat} {G : Nat → Int → Prop} (h : DeadAt w bm n G) : bm < w.heap.size := by
  obtain ⟨D, ho, _⟩ := h
  exact ho.lt
theorem DeadAt.mono {w : World} {bm n n' : Nat} {G : Nat → Int → Prop} (h : DeadAt w bm n G) (hn : n ≤ n') : DeadAt w bm n' G := by
  obtain ⟨D, ho, hG⟩ := h
  exact ⟨D, ho.mono hn, hG⟩
theorem DeadAt.below {w w' : World} {bm n : Nat} {G : Nat → Int → Prop} (h : DeadAt w bm n G) (hb : Below w.heap.size w w') : DeadAt w' bm n G := by
  obtain ⟨D, ho, hG⟩ := h
  exact ⟨D, ho.kept (grown_of_below hb none) (by simp), hG⟩
theorem DeadAt.made (w : World) (G : Nat → Int → Prop) : DeadAt (w.alloc (.map #[] 0)) w.heap.size 0 G :=
  ⟨.map [], World.ownsMap_made w _ _ _, fun i f kl _ => ⟨false, rfl, fun h => by cases h⟩⟩
theorem zeroBool (w : World) : (zeroValue 4).run Try.prog w = .ok (.bool false) w := by kernel_rfl
theorem DeadAt.look {w : World} {bm n : Nat} {G : Nat → Int → Prop} (h : DeadAt w bm n G) (i : Nat) (f : Int) (hi : i ≤ 1000) (hf : 0 ≤ f ∧ f ≤ 1000) :
    ∃ b : Bool, (∀ e : Ext w, (Instr.lookup 160 (.map (some bm)) (.agg #[.int .i64 i, .int .i64 f]) false).run Try.prog e.to = .ok (.bool b) e.to) ∧ (b = true → G i f) := by
  obtain ⟨D, ho, hG⟩ := h
  obtain ⟨kl, hkl⟩ := state_key i f (by omega) (by omega)
  obtain ⟨b, h1, h2⟩ := hG i f kl hkl
  refine ⟨b, fun e => ?_, h2⟩
  obtain ⟨v, ps, hrun, hv⟩ := World.ownsMap.lookup (ho.kept (grown_of_below e.below none) (by simp)) stateKeyed Try.underlying160 (zeroBool e.to) (zd := .lit (.bool false)) (zp := []) rfl hkl
  rw [h1] at hv
  rw [boolR_inv hv] at hrun
  exact hrun
theorem wpList_dead_put {w : World} {ops : Array Oper} {rest : List Oper} {o : Oper} {a : Act} {Q : Exit → Act → World → Prop} {bm n : Nat} {G : Nat → Int → Prop} (i : Nat) (f : Int) (hi : i ≤ 1000) (hf : 0 ≤ f ∧ f ≤ 1000)
    (hg : o.guard = none) (m x v : Operand) (hop : o.op = Op.mapUpdate 160 m x v) (hm : a.eval m = .map (some bm)) (hx : a.eval x = .agg #[.int .i64 i, .int .i64 f]) (hv : a.eval v = .bool true)
    (hS : G i f) (h : DeadAt w bm n G) (hn : n < maxLen) (hK : ∀ w', DeadAt w' bm (n + 1) G → Keep bm w w' → wpList Try.prog ops Q rest (a.put o.dst undef) w') :
    wpList Try.prog ops Q (o :: rest) a w := by
  have hmap := h.isMap
  obtain ⟨D, ho, hG⟩ := h
  obtain ⟨kl, hkl⟩ := state_key i f (by omega) (by omega)
  refine wpList_mapUpdate_own w hg m x v 160 hop 163 4 stateKeyed Try.underlying160 boolR bm n D hm ho hn (.agg #[.int .i64 i, .int .i64 f]) (.bool true) kl hx hv hkl
    (.lit (.bool true)) [] rfl fun w' ho' hgr => ?_
  have hM : DeadAt w' bm (n + 1) G := by
    refine ⟨_, ho', fun i' f' kl' hkl' => ?_⟩
    by_cases e : kl' = kl
    · subst e
      have es := stateKeyed.inj hkl hkl'
      obtain ⟨e1, e2⟩ : i = i' ∧ f = f' := by simp [pairVal] at es; omega
      subst e1 e2
      exact ⟨true, by rw [Go.Maps.atKey_put_same ho.isMap (stateKeyed.key hkl)], fun _ => hS⟩
    · rw [Go.Maps.atKey_put_other e]
      exact hG i' f' kl' hkl'
  exact hK w' hM ⟨hgr, hmap, hM.isMap⟩
end Go.Proofs.Ytfclemnkcpadpaa
