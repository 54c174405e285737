/- book, laws: Recover of a file and of its first bytes, as contracts -/
import Derived.Test.YticjeianiahppaaGreatDoorGm
import Derived.Test.YticjeianiahppaaGreatDoorGd
namespace Go.Proofs.YticjeianiahppaaGreatDoor
set_option linter.unusedVariables false
set_option linter.unusedSimpArgs false
set_option linter.unnecessarySimpa false
open Go.RowKit Go.Flow
theorem texts_as (a b : Option Addr) (c d n : Nat) (x : List ByteArray) (w : World) (en : x.length = n) (hx : zAs w a x) (hy : zAs w b x) (h : n ≤ 1000) :
    Calls Tryz.prog 69 #[.slice a n c, .slice b n d] w fun e w' => e = .returned (.bool true) ∧ Below w.heap.size w w' := by
  subst en; exact texts_same a b c d x w hx hy h
theorem src_take {w : World} {a : Option Addr} {L : List UInt8} (h : SrcAt w a (zDB L)) (k : Nat) : SrcAt w a (zDB (L.take k)) := fun j u hu => h j u (by
  have hk : j < (L.take k).length := by have := (List.getElem?_eq_some_iff.1 hu).1; simpa [zDB] using this
  rw [List.length_take] at hk
  rw [← hu]
  unfold zDB
  rw [List.getElem?_map, List.getElem?_map, List.getElem?_take_of_lt (by omega)])
theorem strsV_lines (l : List ByteArray) : strsV (zG9 l) = l.map Value.string := by
  unfold strsV zG9
  rw [List.map_map]
  rfl
theorem lines_len (l : List ByteArray) : (zG9 l).length = l.length := List.length_map _
theorem lines_take (l : List ByteArray) (k : Nat) : (zG9 l).take k = zG9 (l.take k) := by unfold zG9; rw [List.map_take]
theorem lines_80 {l : List ByteArray} (hs : ∀ s ∈ l, s.size ≤ 80) : ∀ x ∈ zG9 l, x.length ≤ 80 := fun x hx => by
  obtain ⟨s, hm, rfl⟩ := List.mem_map.1 hx
  exact hs s hm
theorem fileB_len (l : List ByteArray) : (zDT l).length = zIe (zG9 l) := zOM _ _
theorem file_le {l : List ByteArray} (hs : ∀ s ∈ l, s.size ≤ 80) (h50 : l.length ≤ 50) : (zDT l).length ≤ 4500 := by
  have := zHg hs l.length
  rw [List.take_length] at this
  rw [fileB_len]; omega
theorem read_whole {l : List ByteArray} (hs : ∀ s ∈ l, s.size ≤ 80) (h50 : l.length ≤ 50) : readL 50 (zDT l) 0 = zG9 l := by
  have := read_file (lines_80 hs) 50 0 [] (by rw [lines_len]; exact h50)
  rw [List.append_nil, readL_none (recAt_nil _), List.append_nil] at this
  exact this
theorem read_first {l : List ByteArray} (hs : ∀ s ∈ l, s.size ≤ 80) (h50 : l.length ≤ 50) (k : Nat) : readL 50 ((zDT l).take k) 0 = zG9 (l.take (wholeL (zG9 l) k).1) := by
  rw [← lines_take]; exact read_cut (lines_80 hs) 50 k 0 (by rw [lines_len]; exact h50)
/-- Recover of bytes whose lines are known. -/
theorem Recover_as (a : Option Addr) (c m n : Nat) (z : Int) (B : List UInt8) (l : List ByteArray) (w : World) (en : B.length = m) (hm : m ≤ 9000) (hc : m ≤ c) (hs : SrcAt w a (zDB B)) (hv : Vars w) (hr : readL 50 B 0 = zG9 l) (hn : l.length = n) (hz : (zIe (zG9 l) : Int) = z) :
    Calls Tryz.prog 67 #[.slice a m c] w fun e w' => (∃ a' c', e = .returned (.tuple #[.slice a' n c', .int .i64 z]) ∧ OwnL 9 1 w.heap.size w' a' c' n (l.map Value.string)) ∧ Below w.heap.size w w' := by
  have h := Recover_any a c m B w en hm hc hs hv
  rw [hr, strsV_lines, lines_len, hn, hz] at h
  exact h
end Go.Proofs.YticjeianiahppaaGreatDoor
