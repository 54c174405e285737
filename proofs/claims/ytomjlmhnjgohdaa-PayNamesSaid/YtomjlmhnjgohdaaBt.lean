/- pay: the chapter's account and balances; awake -/
import Derived.Test.YtomjlmhnjgohdaaBs
namespace Go.Proofs.Ytomjlmhnjgohdaa
set_option linter.unusedVariables false
set_option linter.unusedSimpArgs false
set_option linter.unnecessarySimpa false
open Go.RowKit Go.Flow Go.Shelf

def exDs : List Dis := [⟨0, 10, 14, [1, 2, 3]⟩, ⟨3, 7, 7, [2]⟩]
def exL : List Int := [-30, 12, 30, -12]
set_option maxHeartbeats 1000000 in
theorem owed_any (w : World) : Calls Try.prog 51 #[] w fun e w' => e = .returned (.slice (some ⟨w.heap.size, 0, none⟩) 4 4) ∧ IntsAt w' (some ⟨w.heap.size, 0, none⟩) exL ∧ Below w.heap.size w w' := by
  go_enter Try.func51, Try.ntmps51
  go_wp2
  go_ret
  exact ⟨rfl, (Cells.new w #[.int .i64 (-30), .int .i64 12, .int .i64 30, .int .i64 (-12)] 3).ints exL rfl, (Below.refl _ _).alloc (Nat.le_refl _) _⟩
set_option maxHeartbeats 1000000 in
theorem two_any (w : World) : Calls Try.prog 50 #[] w fun e w' => (∃ a c, e = .returned (.agg #[.int .i64 4, .int .i64 3, .int .i64 10, .slice a 2 c]) ∧ DisAt w' a exDs) ∧ Below w.heap.size w w' := by
  have hb1 := fun W => between_any 10 14 W
  have hb2 := fun W => between_any 7 7 W
  have CR := Cells.new w #[.int .i64 0, .int .i64 0, .int .i64 0, .slice none 0 0] 32
  go_enter Try.func50, Try.ntmps50
  go_wp2_with fail
  go_at_call 44
  refine (hb1 _).mono ?_
  rintro e w1 ⟨rfl, b1⟩
  have CR1 := CR.below b1
  have t1 : Below w.heap.size w w1 := by (repeat (first | exact Below.refl _ _ | refine Below.alloc ?_ (by first | omega | (simp; done) | (simp; omega)) _ | refine Below.drew ?_ | refine Below.setCell ?_ (by first | omega | (simp; done) | (simp; omega)) _ | refine Below.trans ?_ (Below.mono (by assumption) (by first | omega | (simp; done) | (simp; omega)))))
  have b1' : w.heap.size < w1.heap.size := CR1.lt
  clear b1
  go_wp2_with fail
  go_at_call 44
  refine (hb2 _).mono ?_
  rintro e w2 ⟨rfl, b2⟩
  have L1 := (Cells.new w1 #[.int .i64 1, .int .i64 2, .int .i64 3] 3).below b2
  have CR2 := (CR1.alloc (.cells #[.int .i64 1, .int .i64 2, .int .i64 3] 3)).below b2
  have t2 : Below w.heap.size w w2 := by (repeat (first | exact Below.refl _ _ | refine Below.alloc ?_ (by first | omega | (simp; done) | (simp; omega)) _ | refine Below.drew ?_ | refine Below.setCell ?_ (by first | omega | (simp; done) | (simp; omega)) _ | refine Below.trans ?_ (Below.mono (by assumption) (by first | omega | (simp; done) | (simp; omega)))))
  have z2 : w1.heap.size < w2.heap.size := by have := b2.size; simp at this; omega
  obtain ⟨g1, hg1⟩ : ∃ g1, w1.heap.size = g1 := ⟨_, rfl⟩
  rw [hg1] at L1 z2
  have q0 := CR2.cell 0
  have q1 := CR2.cell 1
  have q2 := CR2.cell 2
  have q3 := CR2.cell 3
  have f0 := CR2.frozen 0
  have f1 := CR2.frozen 1
  have f2 := CR2.frozen 2
  have f3 := CR2.frozen 3
  have lq := CR2.lt
  simp at q0 q1 q2 q3
  rw [hg1]
  go_wp2
  have hne : g1 ≠ w.heap.size := by omega
  have CR3 := (((CR2.set 0 (.int .i64 4)).set 1 (.int .i64 3)).set 2 (.int .i64 10)).set 3 (.slice (some ⟨w2.heap.size + 1, 0, none⟩) 2 2)
  have L3 := (((L1.other hne 0 (.int .i64 4)).other hne 1 (.int .i64 3)).other hne 2 (.int .i64 10)).other hne 3 (.slice (some ⟨w2.heap.size + 1, 0, none⟩) 2 2)
  obtain ⟨W3, hW3⟩ : ∃ z : World, z = (((w2.setCell ⟨w.heap.size, 0, none⟩ (.int .i64 4)).setCell ⟨w.heap.size, 1, none⟩ (.int .i64 3)).setCell ⟨w.heap.size, 2, none⟩ (.int .i64 10)).setCell ⟨w.heap.size, 3, none⟩ (.slice (some ⟨w2.heap.size + 1, 0, none⟩) 2 2) := ⟨_, rfl⟩
  have t3 : Below w.heap.size w W3 := by rw [hW3]; exact (((t2.setCell (by simp) _).setCell (by simp) _).setCell (by simp) _).setCell (by simp) _
  have z3 : W3.heap.size = w2.heap.size := by rw [hW3]; simp
  rw [← hW3] at CR3 L3 ⊢
  rw [← z3] at CR3 ⊢
  clear hW3 q0 q1 q2 q3 f0 f1 f2 f3 lq CR2 L1
  have M2 := (Cells.new W3 #[.int .i64 2] 3).alloc (.cells #[.int .i64 0, .int .i64 10, .int .i64 14, .slice (some ⟨g1, 0, none⟩) 3 3, .int .i64 3, .int .i64 7, .int .i64 7, .slice (some ⟨W3.heap.size, 0, none⟩) 1 1] 93)
  have D2 := Cells.new' (W3.alloc (.cells #[.int .i64 2] 3)) #[.int .i64 0, .int .i64 10, .int .i64 14, .slice (some ⟨g1, 0, none⟩) 3 3, .int .i64 3, .int .i64 7, .int .i64 7, .slice (some ⟨W3.heap.size, 0, none⟩) 1 1] 93 (W3.heap.size + 1) (by simp)
  have L5 := (L3.alloc (.cells #[.int .i64 2] 3)).alloc (.cells #[.int .i64 0, .int .i64 10, .int .i64 14, .slice (some ⟨g1, 0, none⟩) 3 3, .int .i64 3, .int .i64 7, .int .i64 7, .slice (some ⟨W3.heap.size, 0, none⟩) 1 1] 93)
  have CR5 := (CR3.alloc (.cells #[.int .i64 2] 3)).alloc (.cells #[.int .i64 0, .int .i64 10, .int .i64 14, .slice (some ⟨g1, 0, none⟩) 3 3, .int .i64 3, .int .i64 7, .int .i64 7, .slice (some ⟨W3.heap.size, 0, none⟩) 1 1] 93)
  have t5 : Below w.heap.size w ((W3.alloc (.cells #[.int .i64 2] 3)).alloc (.cells #[.int .i64 0, .int .i64 10, .int .i64 14, .slice (some ⟨g1, 0, none⟩) 3 3, .int .i64 3, .int .i64 7, .int .i64 7, .slice (some ⟨W3.heap.size, 0, none⟩) 1 1] 93)) := (t3.alloc t3.size _).alloc (by have := t3.size; simp; omega) _
  refine bodyPost_ret (results_cell1 rfl rfl (load_acc CR5)) rfl ?_
  refine ⟨⟨some ⟨W3.heap.size + 1, 0, none⟩, 2, rfl, fun k hk => ?_⟩, t5⟩
  have lD := D2.lt
  match k, hk with
  | 0, _ => exact ⟨W3.heap.size + 1, 0, some ⟨g1, 0, none⟩, 3, rfl, lD, by rw [D2.cell]; rfl, by rw [D2.cell]; rfl, by rw [D2.cell]; rfl, by rw [D2.cell]; rfl, ⟨L5.ints [1, 2, 3] rfl, Nat.le_refl _, fun h => by cases h⟩⟩
  | 1, _ => exact ⟨W3.heap.size + 1, 0, some ⟨W3.heap.size, 0, none⟩, 1, rfl, lD, by rw [D2.cell]; rfl, by rw [D2.cell]; rfl, by rw [D2.cell]; rfl, by rw [D2.cell]; rfl, ⟨M2.ints [2] rfl, Nat.le_refl _, fun h => by cases h⟩⟩
end Go.Proofs.Ytomjlmhnjgohdaa
