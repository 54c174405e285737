/- flash: the row behind one more sign, plainly -/
import Derived.Test.YtnofcpihkglmmaaFe
namespace Go.Proofs.Ytnofcpihkglmmaa
set_option linter.unusedVariables false
set_option linter.unusedSimpArgs false
set_option linter.unnecessarySimpa false
open Go.RowKit Go.Flow
/-- One cell, once the row so far, its left neighbour and the signs are known. L: what is read. -/
def sg1 (r : Nat → Int) (k : Nat) : Int := r k + 1
def sg2 (L : List UInt8) (r : Nat → Int) (sg : UInt8) (k : Nat) : Int :=
  if (decide (0 < k) && L.getD (k - 1) 0 == sg) = true then min (sg1 r k) (r (k - 1)) else sg1 r k
def sg3 (L : List UInt8) (r : Nat → Int) (sg : UInt8) (k : Nat) : Int :=
  if (decide (1 < k) && sg == 45 && L.getD (k - 2) 0 == 46 && L.getD (k - 1) 0 == 46) = true then min (sg2 L r sg k) (r (k - 2) + 1) else sg2 L r sg k
def sg4 (L : List UInt8) (r b : Nat → Int) (last sg : UInt8) (k : Nat) : Int :=
  if (decide (0 < k) && sg == 46 && last == 46 && L.getD (k - 1) 0 == 45) = true then min (sg3 L r sg k) (b (k - 1) + 1) else sg3 L r sg k
def sg5 (L : List UInt8) (r b : Nat → Int) (last sg : UInt8) (left : Int) (k : Nat) : Int :=
  if (decide (0 < k) && L.getD (k - 1) 0 == 32) = true then min (sg4 L r b last sg k) (left + 1) else sg4 L r b last sg k
/-- The row behind one more sign. -/
def sgF (L : List UInt8) (r b : Nat → Int) (last sg : UInt8) : Nat → Int
  | 0 => min (sg5 L r b last sg 0 0) 1048576
  | k + 1 => if k + 1 ≤ L.length then min (sg5 L r b last sg (sgF L r b last sg k) (k + 1)) 1048576 else 1048576
/-- A row of counts from none to 'far'. -/
def RowOk (r : Nat → Int) : Prop := ∀ k, 0 ≤ r k ∧ r k ≤ 1048576
theorem begF_ok (L : List UInt8) : RowOk (begF L) := begF_bd L
theorem zero_ok : RowOk (fun _ => 0) := fun _ => by simp
section
variable (L : List UInt8) (r b : Nat → Int) (last sg : UInt8) (hr : RowOk r) (hb : RowOk b) (k : Nat)
include hr in
theorem sg1_bd : 0 ≤ sg1 r k ∧ sg1 r k ≤ 1048577 := by
  have := hr k
  unfold sg1
  omega
include hr in
theorem sg2_bd : 0 ≤ sg2 L r sg k ∧ sg2 L r sg k ≤ 1048577 := by
  have h1 := sg1_bd r hr k
  have h2 := hr (k - 1)
  unfold sg2
  split <;> omega
include hr in
theorem sg3_bd : 0 ≤ sg3 L r sg k ∧ sg3 L r sg k ≤ 1048577 := by
  have h1 := sg2_bd L r sg hr k
  have h2 := hr (k - 2)
  unfold sg3
  split <;> omega
include hr hb in
theorem sg4_bd : 0 ≤ sg4 L r b last sg k ∧ sg4 L r b last sg k ≤ 1048577 := by
  have h1 := sg3_bd L r sg hr k
  have h2 := hb (k - 1)
  unfold sg4
  split <;> omega
include hr hb in
theorem sg5_bd (left : Int) (hl : 0 ≤ left) : 0 ≤ sg5 L r b last sg left k ∧ sg5 L r b last sg left k ≤ 1048577 := by
  have h1 := sg4_bd L r b last sg hr hb k
  unfold sg5
  split <;> omega
include hr hb in
theorem sgF_ok : RowOk (sgF L r b last sg)
  | 0 => by
    have h := sg5_bd L r b last sg hr hb 0 0 (by omega)
    rw [sgF]
    omega
  | k + 1 => by
    have ih := sgF_ok k
    rw [sgF]
    split
    · have h := sg5_bd L r b last sg hr hb (k + 1) _ ih.1
      omega
    · omega
end
/-- The row behind several signs: the row and the row ahead of its last sign, with that sign. -/
def aftF (L : List UInt8) : List UInt8 → (Nat → Int) → (Nat → Int) → UInt8 → (Nat → Int)
  | [], r, _, _ => r
  | s :: ss, r, b, last => aftF L ss (sgF L r b last s) r s
theorem aftF_ok (L : List UInt8) : ∀ (ss : List UInt8) (r b : Nat → Int) (last : UInt8), RowOk r → RowOk b → RowOk (aftF L ss r b last)
  | [], _, _, _, hr, _ => hr
  | _ :: ss, _, _, _, hr, hb => aftF_ok L ss _ _ _ (sgF_ok L _ _ _ _ hr hb) hr
end Go.Proofs.Ytnofcpihkglmmaa
