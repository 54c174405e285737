/- book, laws: what the reference reads of a line (Parse) -/
import Derived.Test.YticjeianiahppaaGreatDoorGa
import Derived.Test.YticjeianiahppaaGreatDoorDE
namespace Go.Proofs.YticjeianiahppaaGreatDoor
set_option linter.unusedVariables false
set_option linter.unusedSimpArgs false
set_option linter.unnecessarySimpa false
open Go.RowKit Go.Flow
/-- What Parse returns. -/
def ParsePost (s : ByteArray) (e : Ending) : Prop :=
  (parseF s = none ∧ e = .returned (.tuple #[.string ⟨#[]⟩, .slice none 0 0, .bool false])) ∨ ∃ c n a d, parseF s = some (c, n) ∧ e = .returned (.tuple #[.string ⟨c.word.toArray⟩, .slice a n.length d, .bool true])
theorem mapM_fail {l : List (List UInt8)} {k : Nat} (hk : k < l.length) (h : numD l[k] = none) : l.mapM numD = none := by
  induction l generalizing k with
  | nil => exact absurd hk (Nat.not_lt_zero k)
  | cons x t ih =>
    rw [List.mapM_cons]
    cases k with
    | zero =>
      have h : numD x = none := h
      rw [h]; rfl
    | succ k =>
      have := ih (k := k) (by simpa using hk) (by simpa using h)
      rw [this]
      cases numD x <;> rfl
theorem mapM_snoc {l : List (List UInt8)} {x : List UInt8} {n : List Int} {v : Int} (h : l.mapM numD = some n) (hx : numD x = some v) : (l ++ [x]).mapM numD = some (n ++ [v]) := by
  rw [List.mapM_append, h, List.mapM_cons, hx]; rfl
/-- What the words of a line come to. -/
theorem parse_words {s : ByteArray} {x : List UInt8} {r : List (List UInt8)} (h : spl s.data.toList = x :: r) :
    (manyV (cmdOf x) ≠ (r.length : Int) → parseF s = none) ∧ (manyV (cmdOf x) = (r.length : Int) → ∃ c, cmdOf x = some c ∧ parseF s = (r.mapM numD).map fun n => (c, n)) := by
  have hp : parseF s = match cmdOf x with
      | none => none
      | some c => if r.length = c.many then (r.mapM numD).map fun n => (c, n) else none := by
    rw [parseF_eq]; unfold parseL; rw [h]; rfl
  rw [hp]
  unfold manyV
  cases cmdOf x with
  | none => exact ⟨fun _ => rfl, fun e => by simp only at e; omega⟩
  | some c =>
    refine ⟨fun e => if_neg (fun h2 => e (by simp only; rw [h2])), fun e => ⟨c, rfl, if_pos (by simp only at e; omega)⟩⟩
theorem extract_one (s : ByteArray) (k : Nat) (hk : k < s.data.toList.length) (cur : List UInt8) : (⟨cur.toArray⟩ : ByteArray) ++ s.extract k (k + 1) = ⟨(cur ++ [s.data.toList[k]]).toArray⟩ := by
  have h : (s.extract k (k + 1)).data.toList = [s.data.toList[k]] := by
    rw [ByteArray.data_extract, Array.toList_extract]
    simp only [List.extract_eq_take_drop, Nat.add_sub_cancel_left]
    rw [List.drop_eq_getElem_cons hk]; rfl
  refine bytes_of (s := (⟨cur.toArray⟩ : ByteArray) ++ s.extract k (k + 1)) (L := cur ++ [s.data.toList[k]]) ?_
  rw [ByteArray.data_append, Array.toList_append, h]
end Go.Proofs.YticjeianiahppaaGreatDoor
