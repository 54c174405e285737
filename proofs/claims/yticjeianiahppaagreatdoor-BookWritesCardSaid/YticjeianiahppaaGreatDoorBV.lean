/- The session book: contracts of the program and of the laws' helpers, joined (Th). -/
import Derived.Lib.AtoiTie
set_option linter.unusedVariables false
set_option linter.unusedSimpArgs false
set_option linter.unnecessarySimpa false
namespace Go.Proofs.YticjeianiahppaaGreatDoor
def zCH (n : Nat) : Nat → List UInt8
 | 0 => []
 | k + 1 => zCH (n / 10) k ++ [UInt8.ofNat (48 + n % 10)]
theorem zCC (n k : Nat) : (zCH n k).length = k := by
 induction k generalizing n with
 | zero => rfl
 | succ k ih => simp [zCH, ih]
def sumW : List UInt8 → Nat → Nat
 | [], _ => 0
 | b :: l, k => (k + 1) * b.toNat + sumW l (k + 1)
def chkL (s : List UInt8) (i : Nat) : Nat := (23 * (i + 1) + sumW s 0) % 99989
theorem zQO (s : List UInt8) (i : Nat) : chkL s i < 99989 := Nat.mod_lt _ (by omega)
def recL (s : List UInt8) (i : Nat) : List UInt8 := zCH s.length 2 ++ 45 :: (zCH (chkL s i) 5 ++ 45 :: (s ++ [10]))
theorem zLh (s : List UInt8) (i : Nat) : (recL s i).length = 10 + s.length := by
 simp [recL, zCC]; omega
def zHL : List (List UInt8) → Nat → List UInt8
 | [], _ => []
 | s :: l, i => recL s i ++ zHL l (i + 1)
def zIe : List (List UInt8) → Nat
 | [] => 0
 | s :: l => 10 + s.length + zIe l
theorem zOM (l : List (List UInt8)) (i : Nat) : (zHL l i).length = zIe l := by
 induction l generalizing i with
 | nil => rfl
 | cons s l ih => simp [zHL, zIe, zLh, ih]
theorem zON (l r : List (List UInt8)) (i : Nat) : zHL (l ++ r) i = zHL l i ++ zHL r (i + l.length) := by
 induction l generalizing i with
 | nil => rfl
 | cons s l ih =>
  simp only [List.cons_append, zHL, ih, List.append_assoc, List.length_cons]
  rw [show i + 1 + l.length = i + (l.length + 1) by omega]
end Go.Proofs.YticjeianiahppaaGreatDoor
