/- book, laws: what the reference reads of a line -/
import Derived.Test.YticjeianiahppaaGreatDoorVn
import Derived.Test.YticjeianiahppaaGreatDoorVp
import Derived.Test.YticjeianiahppaaGreatDoorBP
import Derived.Test.YticjeianiahppaaGreatDoorBT
import Derived.Test.YticjeianiahppaaGreatDoorDC
namespace Go.Proofs.YticjeianiahppaaGreatDoor
set_option linter.unusedVariables false
set_option linter.unusedSimpArgs false
set_option linter.unnecessarySimpa false
open Go.RowKit Go.Flow
def manyV (o : Option Cmd) : Int := match o with | some c => c.many | none => -1
theorem cmd_some {L : List UInt8} {c : Cmd} (h : cmdOf L = some c) : L = c.word := by
  unfold cmdOf at h
  have := List.find?_some h
  exact (by simpa using this : c.word = L).symm
theorem cmd_none {L : List UInt8} (h : cmdOf L = none) (c : Cmd) : L ≠ c.word := fun e => by
  unfold cmdOf at h
  rw [List.find?_eq_none] at h
  have := h c (by cases c <;> decide)
  simp [e] at this
theorem bytes_of {s : ByteArray} {L : List UInt8} (h : s.data.toList = L) : s = ⟨L.toArray⟩ := by
  subst h; obtain ⟨⟨l⟩⟩ := s; rfl
theorem toL (s : ByteArray) : s.data.toList = s.toList := (ByteArray.toList_eq s).symm
set_option maxRecDepth 100000 in
set_option maxHeartbeats 4000000 in
theorem Many_any (s : ByteArray) (w : World) : Calls Tryz.prog 113 #[.string s] w fun e w' => e = .returned (.int .i64 (manyV (cmdOf s.data.toList))) ∧ w' = w := by
  cases hc : cmdOf s.data.toList with
  | some c =>
    have hs := bytes_of (cmd_some hc)
    subst hs
    clear hc
    cases c
    all_goals
      go_enter Tryz.func113, Tryz.ntmps113
      go_wp2_with fail
      go_ret
      exact ⟨rfl, rfl⟩
  | none =>
    have ne : ∀ c : Cmd, (s.toList == c.word) = false := fun c => by
      rw [beq_eq_false_iff_ne]
      exact fun e => cmd_none hc c (by rw [← e]; exact toL s)
    have n1 := ne .book
    have n2 := ne .key
    have n3 := ne .day
    have n4 := ne .lost
    have n5 := ne .found
    have n6 := ne .send
    have n7 := ne .route
    have n8 := ne .leg
    have n9 := ne .sleep
    have n10 := ne .wait
    have n11 := ne .came
    have n12 := ne .skipped
    have n13 := ne .strike
    have n14 := ne .rate
    have n15 := ne .paid
    have n16 := ne .passed
    have n17 := ne .words
    simp only [Cmd.word] at n1 n2 n3 n4 n5 n6 n7 n8 n9 n10 n11 n12 n13 n14 n15 n16 n17
    clear hc ne
    go_enter Tryz.func113, Tryz.ntmps113
    go_wp2_with fail
    go_ret
    exact ⟨rfl, rfl⟩
end Go.Proofs.YticjeianiahppaaGreatDoor
