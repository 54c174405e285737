/- book: lines that were kept are kept again, from any of them on (plain) -/
import Derived.Test.YticjeianiahppaaGreatDoorGs
namespace Go.Proofs.YticjeianiahppaaGreatDoor
set_option linter.unusedVariables false
set_option linter.unusedSimpArgs false
set_option linter.unnecessarySimpa false
theorem kept_app (S : BSt) (a b : List ByteArray) : zB0 S (a ++ b) = zB0 S a ++ zB0 (zBa S a) b := by
  induction a generalizing S with
  | nil => rfl
  | cons s a ih =>
    rw [List.cons_append, zBh]
    by_cases h : zBb S s = 0
    · rw [zJm h, zJm h, ih, List.cons_append]
    · rw [zPY h, zPY h, ih, zCE h]
theorem kept_rest {S : BSt} {a b : List ByteArray} (h : zB0 S (a ++ b) = a ++ b) : zB0 (zBa S a) b = b := by
  rw [kept_app] at h
  have h1 := zOG S a
  have h2 := zOG (zBa S a) b
  have h3 := congrArg List.length h
  rw [List.length_append, List.length_append] at h3
  exact (List.append_inj h (by omega)).2
theorem contL_kept (l : List ByteArray) (k : Nat) : contL ((zB0 BSt.begun l).take k) ((zB0 BSt.begun l).drop k) = zB0 BSt.begun l := by
  unfold contL
  rw [kept_rest (by rw [List.take_append_drop]; exact zQF _ _), List.take_append_drop]
theorem contL_begun (l : List ByteArray) : contL [] l = zB0 BSt.begun l := by
  unfold contL
  rw [List.nil_append]; rfl
theorem fault_keptD {l : List ByteArray} (h : zBF l = 0) (S : BSt) (k : Nat) : zBF ((zB0 S l).drop k) = 0 := by
  obtain ⟨h50, h80⟩ := zFM h
  have h1 := zOG S l
  unfold zBF
  rw [if_pos]
  rw [Bool.and_eq_true, decide_eq_true_eq, List.all_eq_true]
  refine ⟨by rw [List.length_drop]; omega, fun s hs => ?_⟩
  have := h80 s (zQ1 S l s (List.mem_of_mem_drop hs))
  simpa [zDH] using this
end Go.Proofs.YticjeianiahppaaGreatDoor
