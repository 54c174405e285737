/- The session book: contracts of the program and of the laws' helpers, joined (Th). -/
import Derived.Lib.AtoiTie
set_option linter.unusedVariables false
set_option linter.unusedSimpArgs false
set_option linter.unnecessarySimpa false
namespace Go.Proofs.YticjeianiahppaaGreatDoor
def wideL (n : Nat) : Nat → List UInt8
 | 0 => []
 | k + 1 => wideL (n / 10) k ++ [UInt8.ofNat (48 + n % 10)]
theorem wide_len (n k : Nat) : (wideL n k).length = k := by
 induction k generalizing n with
 | zero => rfl
 | succ k ih => simp [wideL, ih]
def sumW : List UInt8 → Nat → Nat
 | [], _ => 0
 | b :: l, k => (k + 1) * b.toNat + sumW l (k + 1)
def chkL (s : List UInt8) (i : Nat) : Nat := (23 * (i + 1) + sumW s 0) % 99989
theorem chk_lt (s : List UInt8) (i : Nat) : chkL s i < 99989 := Nat.mod_lt _ (by omega)
def recL (s : List UInt8) (i : Nat) : List UInt8 := wideL s.length 2 ++ 45 :: (wideL (chkL s i) 5 ++ 45 :: (s ++ [10]))
theorem rec_len (s : List UInt8) (i : Nat) : (recL s i).length = 10 + s.length := by
 simp [recL, wide_len]; omega
def fileL : List (List UInt8) → Nat → List UInt8
 | [], _ => []
 | s :: l, i => recL s i ++ fileL l (i + 1)
def sizeL : List (List UInt8) → Nat
 | [] => 0
 | s :: l => 10 + s.length + sizeL l
theorem file_len (l : List (List UInt8)) (i : Nat) : (fileL l i).length = sizeL l := by
 induction l generalizing i with
 | nil => rfl
 | cons s l ih => simp [fileL, sizeL, rec_len, ih]
theorem file_app (l r : List (List UInt8)) (i : Nat) : fileL (l ++ r) i = fileL l i ++ fileL r (i + l.length) := by
 induction l generalizing i with
 | nil => rfl
 | cons s l ih =>
  simp only [List.cons_append, fileL, ih, List.append_assoc, List.length_cons]
  rw [show i + 1 + l.length = i + (l.length + 1) by omega]
end Go.Proofs.YticjeianiahppaaGreatDoor
