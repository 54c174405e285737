/- append onto a literal without elements -/
import Derived.Test.YtnofcpihkglmmaaLa
namespace Go.Proofs.Ytnofcpihkglmmaa
set_option linter.unusedVariables false
set_option linter.unusedSimpArgs false
set_option linter.unnecessarySimpa false
open Go.RowKit Go.Flow

section
variable {P : Program} {t E : TypeId} {z : Value} {size bytes : Nat}
end
/-- A slice of bytes. -/
def U8At (w : World) (a : Option Addr) (xs : List Int) : Prop :=
  ∀ k, k < xs.length → ∃ b off, a = some ⟨b, off, none⟩ ∧ b < w.heap.size ∧ w.cell? ⟨b, off + k, none⟩ = some (.int .u8 (xs.getD k 0))
theorem U8At.below {w w' : World} {a : Option Addr} {xs : List Int} (h : U8At w a xs) (hb : Below w.heap.size w w') : U8At w' a xs := fun k hk =>
  let ⟨b, off, ha, hlt, hc⟩ := h k hk
  ⟨b, off, ha, Nat.lt_of_lt_of_le hlt hb.size, (hb.cell (p := ⟨b, off + k, none⟩) hlt).trans hc⟩
theorem flat2_len (xs : List (Int × Int)) : (flat2 xs).length = xs.length * 2 := by
  unfold flat2
  induction xs with
  | nil => rfl
  | cons x l ih => simp only [List.flatMap_cons, List.length_append, List.length_cons, List.length_nil, ih]; omega
theorem SrcAt.recs2 {w : World} {a : Option Addr} {xs : List (Int × Int)} (h : Recs2At w a xs) : SrcAt w a (flat2 xs) := fun j u hu => by
  have hj : j < xs.length * 2 := by have := (List.getElem?_eq_some_iff.1 hu).1; rwa [flat2_len] at this
  obtain ⟨b, off, e, _, c0, c1⟩ := h (j / 2) (by omega)
  obtain ⟨f0, f1⟩ := flat2_get xs (j / 2) (by omega)
  refine ⟨b, off, e, ?_⟩
  rcases Nat.mod_two_eq_zero_or_one j with hm | hm
  · have ej : j / 2 * 2 = j := by omega
    rw [ej] at c0 f0
    rw [c0, ← f0, hu]
  · have ej : j / 2 * 2 + 1 = j := by omega
    rw [Nat.add_assoc, ej] at c1
    rw [ej] at f1
    rw [c1, ← f1, hu]
end Go.Proofs.Ytnofcpihkglmmaa
