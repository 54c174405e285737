/- cipher: may, minimum, the memo · cipher: the memo of Plan · cipher: the memo's world laws · cipher: fewest · cipher: extend (Plan$1): what is appended to a list that a captured variable holds -/
import Derived.Test.YtnofcpihkglmmaaCel
import Derived.Test.YtnofcpihkglmmaaCa
import Derived.DeepKeys4
import Derived.Maps.OwnSet
namespace Go.Proofs.Ytnofcpihkglmmaa
set_option linter.unusedVariables false
set_option linter.unusedSimpArgs false
set_option linter.unnecessarySimpa false
open Go.RowKit Go.Flow

end Go.Proofs.Ytnofcpihkglmmaa

namespace Go.Proofs.Ytnofcpihkglmmaa
set_option linter.unusedVariables false
set_option linter.unusedSimpArgs false
set_option linter.unnecessarySimpa false
open Go.RowKit Go.Flow
open Go.Maps (Keyed)

end Go.Proofs.Ytnofcpihkglmmaa

namespace Go.Proofs.Ytnofcpihkglmmaa
set_option linter.unusedVariables false
set_option linter.unusedSimpArgs false
set_option linter.unnecessarySimpa false
open Go.RowKit Go.Flow
open Go.Maps (Keyed)

def IsMapAt (w : World) (b : Nat) : Prop := ∃ es c, w.heap[b]? = some (.map es c)

/-- w' is w but for new memory and for the map in block bm. -/
structure Keep (bm : Nat) (w w' : World) : Prop where
  grown : w.grownBy w' (some bm)
  old : IsMapAt w bm
  new : IsMapAt w' bm

theorem grown_of_below {w w' : World} (hb : Below w.heap.size w w') (row : Option Nat) : w.grownBy w' row := ⟨hb.os, hb.tape, hb.output, hb.size, fun k hk _ => hb.block k hk⟩
theorem IsMapAt.below {w w' : World} {b : Nat} (h : IsMapAt w b) (hb : Below w.heap.size w w') : IsMapAt w' b := by
  obtain ⟨es, c, hm⟩ := h
  exact ⟨es, c, (hb.block b (Array.getElem?_eq_some_iff.1 hm).1).trans hm⟩
theorem Keep.refl {bm : Nat} {w : World} (h : IsMapAt w bm) : Keep bm w w := ⟨World.grownBy.refl _ _, h, h⟩
theorem Keep.of_below {bm : Nat} {w w' : World} (h : IsMapAt w bm) (hb : Below w.heap.size w w') : Keep bm w w' := ⟨grown_of_below hb _, h, h.below hb⟩
theorem Keep.trans {bm : Nat} {a b c : World} (h : Keep bm a b) (k : Keep bm b c) : Keep bm a c := ⟨h.grown.trans k.grown, h.old, k.new⟩
theorem Keep.size {bm : Nat} {w w' : World} (h : Keep bm w w') : w.heap.size ≤ w'.heap.size := h.grown.size
theorem Keep.below {bm : Nat} {a b c : World} (h : Keep bm a b) (hb : Below b.heap.size b c) : Keep bm a c := h.trans (.of_below h.new hb)

theorem IsMapAt.ne {w : World} {b : Nat} (h : IsMapAt w b) {a : Addr} {v : Value} (hc : w.cell? a = some v) : a.block ≠ b := by
  intro e
  obtain ⟨es, c, hm⟩ := h
  rw [← e] at hm
  simp [World.cell?, hm] at hc
theorem Keep.cell {bm : Nat} {w w' : World} (h : Keep bm w w') {a : Addr} {v : Value} (hc : w.cell? a = some v) : w'.cell? a = some v :=
  h.grown.cell hc (fun e => h.old.ne hc (Option.some.inj e))
theorem IntsAt.keep {bm : Nat} {w w' : World} {a : Option Addr} {xs : List Int} (h : IntsAt w a xs) (k : Keep bm w w') : IntsAt w' a xs := fun i hi =>
  let ⟨b, off, ha, hlt, hc⟩ := h i hi
  ⟨b, off, ha, Nat.lt_of_lt_of_le hlt k.size, k.cell hc⟩
theorem Recs2At.keep {bm : Nat} {w w' : World} {a : Option Addr} {xs : List (Int × Int)} (h : Recs2At w a xs) (k : Keep bm w w') : Recs2At w' a xs := fun i hi =>
  let ⟨b, off, ha, hlt, h0, h1⟩ := h i hi
  ⟨b, off, ha, Nat.lt_of_lt_of_le hlt k.size, k.cell h0, k.cell h1⟩

end Go.Proofs.Ytnofcpihkglmmaa

namespace Go.Proofs.Ytnofcpihkglmmaa
set_option linter.unusedVariables false
set_option linter.unusedSimpArgs false
set_option linter.unnecessarySimpa false
open Go.RowKit Go.Flow

end Go.Proofs.Ytnofcpihkglmmaa

namespace Go.Proofs.Ytnofcpihkglmmaa
set_option linter.unusedVariables false
set_option linter.unusedSimpArgs false
set_option linter.unnecessarySimpa false
open Go.RowKit Go.Flow

theorem OwnL.keep {E : TypeId} {size base bm : Nat} {w w' : World} {a : Option Addr} {c n : Nat} {xs : List Value} (h : OwnL E size base w a c n xs) (k : Keep bm w w') : OwnL E size base w' a c n xs := by
  refine ⟨h.1, ?_⟩
  rcases h.2 with hn | ⟨g, cap, cur, hv, hbg, hg, rest⟩
  · exact .inl hn
  · refine .inr ⟨g, cap, cur, hv, hbg, ?_, rest⟩
    rw [k.grown.block g (Array.getElem?_eq_some_iff.1 hg).1 (fun e => ?_)]
    · exact hg
    · obtain ⟨es, cl, hm⟩ := k.old
      rw [← Option.some.inj e, hg] at hm
      cases hm

section
variable {P : Program} {t E : TypeId} {z : Value} {size bytes : Nat} {w : World} {ops : Array Oper} {rest : List Oper} {o : Oper} {a : Act} {Q : Exit → Act → World → Prop}

end

theorem OwnL.setCell {E : TypeId} {size base : Nat} {w : World} {a : Option Addr} {c n : Nat} {xs : List Value} (h : OwnL E size base w a c n xs) {p : Addr} (hp : p.block < base) (u : Value) : OwnL E size base (w.setCell p u) a c n xs := by
  refine ⟨h.1, ?_⟩
  rcases h.2 with hn | ⟨g, cap, cur, hv, hbg, hg, rest⟩
  · exact .inl hn
  · exact .inr ⟨g, cap, cur, hv, hbg, by rw [Below.heap_setCell _ _ _ _ (by omega)]; exact hg, rest⟩

end Go.Proofs.Ytnofcpihkglmmaa
