/- copies: the map of hours -/
import Derived.Test.YtfclemnkcpadpaaKi
import Derived.DeepKeys4
import Derived.Maps.OwnSet
namespace Go.Proofs.Ytfclemnkcpadpaa
set_option linter.unusedVariables false
set_option linter.unusedSimpArgs false
set_option linter.unnecessarySimpa false
open Go.RowKit Go.Flow
open Go.Maps (Keyed)

theorem laidOut' : laidOutB Try.prog = true := by kernel_rfl
theorem manyTypes : 2 ≤ Try.prog.types.size := of_decide_eq_true (by kernel_rfl)
theorem intCells : Try.prog.cellsOf 3 = 1 := by kernel_rfl
theorem i64_wf (x : Int) (h0 : 0 ≤ x) (h1 : x ≤ 1000000) : (Lit.int .i64 x).wf = true := by
  simp [Lit.wf, IntKind.min, IntKind.max, IntKind.bits, IntKind.signed]
  omega
theorem lits_int (n : Nat) (x : Int) (h : (Lit.int .i64 x).wf = true) : Try.prog.keyLits (n + 1) 3 [.int .i64 x] = some [.int .i64 x] := by
  simp only [Program.keyLits, Try.underlying3]
  simp [h]
theorem copyRow : (128 : TypeId) < Try.prog.types.size := of_decide_eq_true (by kernel_rfl)
theorem copyWide : (match Try.prog.underlying 128 with | some (.array _ _) | some (.struct _) => true | _ => false) = true := by kernel_rfl
set_option maxRecDepth 100000 in
theorem copyKeyed : Keyed Try.prog 128 := Keyed.of_law (deep_law_laid laidOut' (m := 4) (by omega) copyRow (by kernel_rfl) copyWide)
theorem copyCells : Try.prog.cellsOf 128 = 2 := by kernel_rfl
theorem copyKeyType : Try.prog.keyType 128 = true := by kernel_rfl
def pairVal (i k : Int) : Value := .agg #[.int .i64 i, .int .i64 k]
theorem lits_copy (n : Nat) (i k : Int) (hi : (Lit.int .i64 i).wf = true) (hk : (Lit.int .i64 k).wf = true) : ∃ l, Try.prog.keyLits (n + 2) 128 (pairVal i k).cells.toList = some l := by
  have e0 := lits_int n i hi
  have e1 := lits_int n k hk
  refine ⟨[.int .i64 i, .int .i64 k], ?_⟩
  unfold Program.keyLits
  rw [Try.underlying128]
  dsimp only
  rw [copyCells]
  simp only [pairVal, Value.cells]
  simp [intCells, e0, e1]
theorem copy_key (i k : Int) (hi : 0 ≤ i ∧ i ≤ 1000000) (hk : 0 ≤ k ∧ k ≤ 1000000) : ∃ kl, keyOf Try.prog 128 (pairVal i k) = some kl := by
  have hn : Try.prog.types.size + 1 = (Try.prog.types.size - 1) + 2 := by have := manyTypes; omega
  obtain ⟨l, hl⟩ := lits_copy (Try.prog.types.size - 1) i k (i64_wf i hi.1 hi.2) (i64_wf k hk.1 hk.2)
  have hf : Value.formed Try.prog 128 (pairVal i k) = true := by
    simp [Value.formed, Try.underlying128, pairVal, copyCells]
  unfold keyOf
  rw [hn, copyKeyType, hf, Try.underlying128]
  dsimp only
  rw [hl]
  exact ⟨_, rfl⟩

/-- What an element, a pointer, reads as: its block's number. -/
def ptrR : Value → Option (DataW Unit × List MemPlace)
  | .pointer none => some (.nil, [])
  | .pointer (some ⟨b, 0, none⟩) => some (.lit (.int .i64 b), [])
  | _ => none
theorem ptrR_inv {v : Value} {b : Nat} {ps : List MemPlace} (h : ptrR v = some (.lit (.int .i64 b), ps)) : v = .pointer (some ⟨b, 0, none⟩) := by
  unfold ptrR at h
  split at h
  · simp at h
  · simp at h; rw [Int.ofNat.inj h.1]
  · cases h
theorem grown_of_below {w w' : World} (hb : Below w.heap.size w w') (row : Option Nat) : w.grownBy w' row := ⟨hb.os, hb.tape, hb.output, hb.size, fun k hk _ => hb.block k hk⟩

def HoursAt (w : World) (bm n : Nat) (F : Nat → Nat → Hrs) (dom : Nat → Nat → Prop) : Prop :=
  ∃ D : DataW Unit, w.ownsMap Try.prog 128 ptrR bm n D ∧
    ∀ i k : Nat, dom i k → ∀ kl, keyOf Try.prog 128 (pairVal i k) = some kl → ∃ Sb : Nat, D.atKey kl .nil = .lit (.int .i64 Sb) ∧ SetC w Sb (F i k)
theorem HoursAt.below {w w' : World} {bm n : Nat} {F : Nat → Nat → Hrs} {dom : Nat → Nat → Prop} (h : HoursAt w bm n F dom) (hb : Below w.heap.size w w') : HoursAt w' bm n F dom := by
  obtain ⟨D, ho, hG⟩ := h
  refine ⟨D, ho.kept (grown_of_below hb none) (by simp), fun i k hd kl hkl => ?_⟩
  obtain ⟨Sb, h1, h2⟩ := hG i k hd kl hkl
  exact ⟨Sb, h1, h2.below hb⟩
theorem HoursAt.lt {w : World} {bm n : Nat} {F : Nat → Nat → Hrs} {dom : Nat → Nat → Prop} (h : HoursAt w bm n F dom) : bm < w.heap.size := by
  obtain ⟨D, ho, _⟩ := h
  exact ho.lt
theorem HoursAt.made (w : World) (F : Nat → Nat → Hrs) : HoursAt (w.alloc (.map #[] 0)) w.heap.size 0 F (fun _ _ => False) :=
  ⟨.map [], World.ownsMap_made w _ _ _, fun _ _ h => h.elim⟩
theorem HoursAt.sub {w : World} {bm n : Nat} {F : Nat → Nat → Hrs} {dom dom' : Nat → Nat → Prop} (h : HoursAt w bm n F dom) (hd : ∀ i k, dom' i k → dom i k) : HoursAt w bm n F dom' := by
  obtain ⟨D, ho, hG⟩ := h
  exact ⟨D, ho, fun i k h => hG i k (hd i k h)⟩
theorem zeroPtr (w : World) : (zeroValue 121).run Try.prog w = .ok (.pointer none) w := by kernel_rfl
theorem HoursAt.look {w : World} {bm n : Nat} {F : Nat → Nat → Hrs} {dom : Nat → Nat → Prop} (h : HoursAt w bm n F dom) (i k : Nat) (hd : dom i k) (hi : i ≤ 1000) (hk : k ≤ 1000) :
    ∃ Sb : Nat, (∀ e : Ext w, (Instr.lookup 122 (.map (some bm)) (.agg #[.int .i64 i, .int .i64 k]) false).run Try.prog e.to = .ok (.pointer (some ⟨Sb, 0, none⟩)) e.to) ∧ SetC w Sb (F i k) := by
  obtain ⟨D, ho, hG⟩ := h
  obtain ⟨kl, hkl⟩ := copy_key i k (by omega) (by omega)
  obtain ⟨Sb, h1, h2⟩ := hG i k hd kl hkl
  refine ⟨Sb, fun e => ?_, h2⟩
  obtain ⟨v, ps, hrun, hv⟩ := World.ownsMap.lookup (ho.kept (grown_of_below e.below none) (by simp)) copyKeyed Try.underlying122 (zeroPtr e.to) (zd := .nil) (zp := []) rfl hkl
  rw [h1] at hv
  rw [ptrR_inv hv] at hrun
  exact hrun
/-- A block of the map holds no cells. -/
theorem HoursAt.noCell {w : World} {bm n : Nat} {F : Nat → Nat → Hrs} {dom : Nat → Nat → Prop} (h : HoursAt w bm n F dom) {b o : Nat} {v : Value} (hc : w.cell? ⟨b, o, none⟩ = some v) : b ≠ bm := by
  obtain ⟨D, ⟨es, c, hm, _⟩, _⟩ := h
  intro e
  subst e
  simp [World.cell?, show w.heap[b]? = _ from hm] at hc

theorem wpList_hours_put {w : World} {ops : Array Oper} {rest : List Oper} {o : Oper} {a : Act} {Q : Exit → Act → World → Prop} {bm n : Nat} {F : Nat → Nat → Hrs} {dom : Nat → Nat → Prop} (i k : Nat) (hi : i ≤ 1000) (hk : k ≤ 1000)
    (hg : o.guard = none) (m x v : Operand) (hop : o.op = Op.mapUpdate 122 m x v) (hm : a.eval m = .map (some bm)) (hx : a.eval x = .agg #[.int .i64 i, .int .i64 k]) (Sb : Nat) (hv : a.eval v = .pointer (some ⟨Sb, 0, none⟩))
    (hS : SetC w Sb (F i k)) (h : HoursAt w bm n F dom) (hn : n < maxLen) (hK : ∀ w', HoursAt w' bm (n + 1) F (fun i' k' => dom i' k' ∨ (i' = i ∧ k' = k)) → w.grownBy w' (some bm) → (∀ b o v, w.cell? ⟨b, o, none⟩ = some v → w'.cell? ⟨b, o, none⟩ = some v) → wpList Try.prog ops Q rest (a.put o.dst undef) w') :
    wpList Try.prog ops Q (o :: rest) a w := by
  have hnc := @HoursAt.noCell _ _ _ _ _ h
  obtain ⟨D, ho, hG⟩ := h
  obtain ⟨kl, hkl⟩ := copy_key i k (by omega) (by omega)
  refine wpList_mapUpdate_own w hg m x v 122 hop 128 121 copyKeyed Try.underlying122 ptrR bm n D hm ho hn (.agg #[.int .i64 i, .int .i64 k]) (.pointer (some ⟨Sb, 0, none⟩)) kl hx hv hkl
    (.lit (.int .i64 Sb)) [] rfl fun w' ho' hgr => ?_
  have hcell : ∀ b o v, w.cell? ⟨b, o, none⟩ = some v → w'.cell? ⟨b, o, none⟩ = some v := fun b o v hc => hgr.cell hc (fun e => hnc hc (Option.some.inj e))
  refine hK w' ⟨_, ho', fun i' k' hd kl' hkl' => ?_⟩ hgr hcell
  by_cases e : kl' = kl
  · subst e
    have es := copyKeyed.inj hkl hkl'
    obtain ⟨rfl, rfl⟩ : i = i' ∧ k = k' := by simp [pairVal] at es; omega
    exact ⟨Sb, by rw [Go.Maps.atKey_put_same ho.isMap (copyKeyed.key hkl)], fun n hn => hcell _ _ _ (hS n hn)⟩
  · rcases hd with hd | ⟨rfl, rfl⟩
    · obtain ⟨Sb', h1, h2⟩ := hG i' k' hd kl' hkl'
      exact ⟨Sb', by rw [Go.Maps.atKey_put_other e]; exact h1, fun n hn => hcell _ _ _ (h2 n hn)⟩
    · exact absurd (Option.some.inj (hkl'.symm.trans hkl)) e
end Go.Proofs.Ytfclemnkcpadpaa
