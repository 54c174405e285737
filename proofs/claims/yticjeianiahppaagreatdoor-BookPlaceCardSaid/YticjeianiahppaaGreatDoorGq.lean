/- book, laws: a file without one of its records (plain) -/
import Derived.Test.YticjeianiahppaaGreatDoorGo
namespace Go.Proofs.YticjeianiahppaaGreatDoor
set_option linter.unusedVariables false
set_option linter.unusedSimpArgs false
set_option linter.unnecessarySimpa false
open Go.RowKit Go.Flow
theorem file_split {l : List ByteArray} {k : Nat} (hk : k < l.length) : zDT l = zHL (zG9 (l.take k)) 0 ++ (recL (l[k].data.toList) k ++ zHL (zG9 (l.drop (k + 1))) (k + 1)) := by
  have e : l = l.take k ++ (l[k] :: l.drop (k + 1)) := by rw [List.getElem_cons_drop, List.take_append_drop]
  unfold zDT
  conv => lhs; rw [e]
  unfold zG9
  rw [List.map_append, zON, List.map_cons, Nat.zero_add, List.length_map, List.length_take, Nat.min_eq_left (by omega)]
  rfl
theorem place_take {l : List ByteArray} {k : Nat} (hk : k < l.length) : (zDT l).take (zIe (zG9 (l.take k))) = zHL (zG9 (l.take k)) 0 := by
  rw [file_split hk, List.take_left' (zOM _ _)]
theorem place_drop {l : List ByteArray} {k : Nat} (hk : k < l.length) : (zDT l).drop (zIe (zG9 (l.take k)) + 10 + (l[k]).size) = zHL (zG9 (l.drop (k + 1))) (k + 1) := by
  have hs : (l[k].data.toList).length = (l[k]).size := Array.length_toList
  rw [file_split hk, ← List.append_assoc, List.drop_left']
  rw [List.length_append, zOM, zLh]; omega
theorem read_without {l : List ByteArray} (hs : ∀ s ∈ l, s.size ≤ 80) (h50 : l.length ≤ 50) {k : Nat} (hk : k < l.length) :
    readL 50 ((zDT l).take (zIe (zG9 (l.take k))) ++ (zDT l).drop (zIe (zG9 (l.take k)) + 10 + (l[k]).size)) 0 = zG9 (l.take k) := by
  rw [place_take hk, place_drop hk]
  have e : (zG9 (l.take k)).length = k := by rw [lines_len, List.length_take]; omega
  have := read_place (l := zG9 (l.take k)) (r := zG9 (l.drop (k + 1))) (s := []) (lines_80 fun s h => hs s (List.mem_of_mem_take h)) (lines_80 fun s h => hs s (List.mem_of_mem_drop h)) (k := 50) (by omega)
  rwa [e] at this
end Go.Proofs.YticjeianiahppaaGreatDoor
