/- book, laws: what played makes of parts of a session -/
import Derived.Test.YticjeianiahppaaGreatDoorDF
namespace Go.Proofs.YticjeianiahppaaGreatDoor
set_option linter.unusedVariables false
set_option linter.unusedSimpArgs false
set_option linter.unnecessarySimpa false
open Go.RowKit Go.Flow
theorem StrsAt.take {w : World} {a : Option Addr} {l : List ByteArray} (h : StrsAt w a l) (k : Nat) : StrsAt w a (l.take k) := fun j hj => by
  have hj' : j < l.length := by rw [List.length_take] at hj; omega
  obtain ⟨b, off, ha, hb, hc⟩ := h j hj'
  exact ⟨b, off, ha, hb, by rw [hc, List.getElem_take]⟩
theorem fault_sub {l m : List ByteArray} (h : faultL l = 0) (hn : m.length ≤ l.length) (hs : ∀ s ∈ m, s ∈ l) : faultL m = 0 := by
  obtain ⟨h50, h80⟩ := fault_ok h
  unfold faultL
  rw [if_pos]
  simp only [Bool.and_eq_true, decide_eq_true_eq, List.all_eq_true]
  exact ⟨by omega, fun s hm => by have := h80 s (hs s hm); unfold shortB; simpa using this⟩
theorem fault_take {l : List ByteArray} (h : faultL l = 0) (k : Nat) : faultL (l.take k) = 0 := fault_sub h (by rw [List.length_take]; omega) fun _ hs => List.mem_of_mem_take hs
theorem fault_kept {l : List ByteArray} (h : faultL l = 0) : faultL (keptL BSt.begun l) = 0 := fault_sub h (kept_len _ l) (kept_mem _ l)
theorem after_kept (l : List ByteArray) : afterL (keptL BSt.begun l) = afterL l := kept_state _ l
/-- A line is accepted, or it changes nothing. -/
theorem kept_or (l : List ByteArray) (k : Nat) (hk : k < l.length) : (keptL BSt.begun (l.take k)).length < (keptL BSt.begun (l.take (k + 1))).length ∨ ((keptL BSt.begun (l.take (k + 1))).length ≤ (keptL BSt.begun (l.take k)).length ∧ afterL (l.take (k + 1)) = afterL (l.take k)) := by
  have e : l.take (k + 1) = l.take k ++ [l[k]] := by rw [List.take_succ_eq_append_getElem hk]
  rw [e, kept_snoc]
  by_cases h : lineE (playS BSt.begun (l.take k)) l[k] = 0
  · left; rw [if_pos h]; simp
  · right
    rw [if_neg h]
    exact ⟨by simp, by show playS _ _ = playS _ _; rw [playS_snoc, lineS_refused h]⟩
/-- What played returns, of named values. -/
def PlayedAs (B : Nat) (S : BSt) (K : List ByteArray) (e : Ending) (w' : World) : Prop :=
  ∃ A a c, e = .returned (.tuple #[.agg (stCells S A), .slice a K.length c, .bool true]) ∧ Lists w' S A ∧ OwnL 9 1 B w' a c K.length (K.map Value.string)
theorem played_as {S : BSt} {K : List ByteArray} (a : Option Addr) (c n : Nat) (l : List ByteArray) (w : World) (hS : afterL l = S) (hK : keptL BSt.begun l = K) (en : l.length = n) (hl : StrsAt w a l) (hn : a = none → c = 0) (h0 : faultL l = 0) (hv : Vars w) :
    Calls Tryz.prog 56 #[.slice a n c] w fun e w' => PlayedAs w.heap.size S K e w' ∧ Below w.heap.size w w' := by
  subst en hS hK
  exact played_any a c l w hl hn h0 hv
end Go.Proofs.YticjeianiahppaaGreatDoor
