/- book, laws: what played makes of parts of a session -/
import Derived.Test.YticjeianiahppaaGreatDoorDF
namespace Go.Proofs.YticjeianiahppaaGreatDoor
set_option linter.unusedVariables false
set_option linter.unusedSimpArgs false
set_option linter.unnecessarySimpa false
open Go.RowKit Go.Flow
theorem zAs.take {w : World} {a : Option Addr} {l : List ByteArray} (h : zAs w a l) (k : Nat) : zAs w a (l.take k) := fun j hj => by
  have hj' : j < l.length := by rw [List.length_take] at hj; omega
  obtain ⟨b, off, ha, hb, hc⟩ := h j hj'
  exact ⟨b, off, ha, hb, by rw [hc, List.getElem_take]⟩
theorem fault_sub {l m : List ByteArray} (h : zBF l = 0) (hn : m.length ≤ l.length) (hs : ∀ s ∈ m, s ∈ l) : zBF m = 0 := by
  obtain ⟨h50, h80⟩ := zFM h
  unfold zBF
  rw [if_pos]
  simp only [Bool.and_eq_true, decide_eq_true_eq, List.all_eq_true]
  exact ⟨by omega, fun s hm => by have := h80 s (hs s hm); unfold zDH; simpa using this⟩
theorem fault_take {l : List ByteArray} (h : zBF l = 0) (k : Nat) : zBF (l.take k) = 0 := fault_sub h (by rw [List.length_take]; omega) fun _ hs => List.mem_of_mem_take hs
theorem fault_kept {l : List ByteArray} (h : zBF l = 0) : zBF (zB0 BSt.begun l) = 0 := fault_sub h (zOG _ l) (zQ1 _ l)
theorem after_kept (l : List ByteArray) : zAV (zB0 BSt.begun l) = zAV l := zPu _ l
/-- A line is accepted, or it changes nothing. -/
theorem kept_or (l : List ByteArray) (k : Nat) (hk : k < l.length) : (zB0 BSt.begun (l.take k)).length < (zB0 BSt.begun (l.take (k + 1))).length ∨ ((zB0 BSt.begun (l.take (k + 1))).length ≤ (zB0 BSt.begun (l.take k)).length ∧ zAV (l.take (k + 1)) = zAV (l.take k)) := by
  have e : l.take (k + 1) = l.take k ++ [l[k]] := by rw [List.take_succ_eq_append_getElem hk]
  rw [e, zM4]
  by_cases h : zBb (zBa BSt.begun (l.take k)) l[k] = 0
  · left; rw [if_pos h]; simp
  · right
    rw [if_neg h]
    exact ⟨by simp, by show zBa _ _ = zBa _ _; rw [zKW, zCE h]⟩
/-- What played returns, of named values. -/
def PlayedAs (B : Nat) (S : BSt) (K : List ByteArray) (e : Ending) (w' : World) : Prop :=
  ∃ A a c, e = .returned (.tuple #[.agg (zAW S A), .slice a K.length c, .bool true]) ∧ Lists w' S A ∧ OwnL 9 1 B w' a c K.length (K.map Value.string)
theorem played_as {S : BSt} {K : List ByteArray} (a : Option Addr) (c n : Nat) (l : List ByteArray) (w : World) (hS : zAV l = S) (hK : zB0 BSt.begun l = K) (en : l.length = n) (hl : zAs w a l) (hn : a = none → c = 0) (h0 : zBF l = 0) (hv : Vars w) :
    Calls Tryz.prog 56 #[.slice a n c] w fun e w' => PlayedAs w.heap.size S K e w' ∧ Below w.heap.size w w' := by
  subst en hS hK
  exact zPq a c l w hl hn h0 hv
end Go.Proofs.YticjeianiahppaaGreatDoor
