/- top: worded -/
import Derived.Test.YtaphfibfjepceaaFs
import Derived.Test.YtaphfibfjepceaaBx
namespace Go.Proofs.Ytaphfibfjepceaa
set_option linter.unusedVariables false
set_option linter.unusedSimpArgs false
set_option linter.unnecessarySimpa false
open Go.RowKit Go.Flow Go.Shelf
def wDs : List Dis := [⟨0, 2, 2, [0, 1]⟩]
theorem wErr : accErr ⟨2, 5, 50, wDs⟩ = 0 := by decide +kernel
theorem wSmall : AccSmall ⟨2, 5, 50, wDs⟩ := ⟨by decide, fun d hd => by
  simp only [wDs, List.mem_cons, List.not_mem_nil, or_false] at hd
  subst hd; decide⟩
theorem wShares (a : Option Addr) (c : Nat) (w : World) (hd : DisAt w a wDs) : Calls Try.prog 18 #[.agg #[.int .i64 2, .int .i64 5, .int .i64 50, .slice a 1 c], .int .i64 0, .int .i64 2] w fun e w' => (∃ a c, e = .returned (.tuple #[.slice a 2 c, .int .i64 0]) ∧ IntsAt w' a [7, 3]) ∧ Below w.heap.size w w' := by
  have h := Shares_good 2 5 50 wDs a c 0 2 w hd wSmall wErr
  rw [show sharesOut ⟨2, 5, 50, wDs⟩ 0 2 = [7, 3] by decide +kernel, show sharesErr ⟨2, 5, 50, wDs⟩ 0 2 = 0 by decide +kernel] at h
  exact h
def wSs : List ByteArray := [⟨#[46]⟩, ⟨#[45]⟩]
theorem wCode : CodeOk wSs := codeOk_of (by decide +kernel)
theorem wTexts (w : World) (a : Option Addr) (hx : StrsAt w a wSs) : Calls Try.prog 12 #[.agg #[.slice a 2 2], .string ⟨#[45, 32, 46]⟩, .int .i64 0, .int .i64 2] w fun e w' =>
    (∃ ao co b c, e = .returned (.tuple #[.slice (some ⟨ao, 0, none⟩) 1 co, .int .i64 0]) ∧ ao < w'.heap.size ∧ w'.cell? ⟨ao, 0, none⟩ = some (.slice b 2 c)) ∧ Below w.heap.size w w' := by
  have h := Texts_any a wSs 2 ⟨#[45, 32, 46]⟩ 0 2 [45, 32, 46] [[46], [45]] rfl rfl ⟨by decide, fun b hb => by simp at hb; rcases hb with rfl | rfl | rfl <;> simp⟩ (by omega) (by omega) wCode w hx (Nat.le_refl _)
  rw [worded_texts] at h
  refine h.mono ?_
  rintro e w' ⟨ao, co, vs, rfl, ho, hr, hb⟩
  refine ⟨?_, hb⟩
  have hl : vs.length = 1 := hr.1
  obtain ⟨v, rfl⟩ : ∃ v, vs = [v] := List.length_eq_one_iff.1 hl
  obtain ⟨b, c, hv, _⟩ := hr.2 0 (by simp) v rfl
  rcases ho.form with ⟨_, _, h, _⟩ | ⟨g, rfl, _, hlt, _, _, _, hc⟩
  · simp at h
  · have := hc 0 v rfl
    rw [hv] at this
    exact ⟨g, co, b, c, rfl, hlt, this⟩
set_option maxRecDepth 100000 in
set_option maxHeartbeats 4000000 in
theorem worded_any (w : World) : Calls Try.prog 9 #[] w fun e w' => e = .returned (.bool true) ∧ Below w.heap.size w w' := by
  have hs : StrsAt (w.alloc (.cells #[.string ⟨#[46]⟩, .string ⟨#[45]⟩] 9)) (some ⟨w.heap.size, 0, none⟩) wSs := fun k hk => by
    have hk2 : k < 2 := hk
    have C := Cells.new w #[.string ⟨#[46]⟩, .string ⟨#[45]⟩] 9
    rcases (show k = 0 ∨ k = 1 by omega) with rfl | rfl
    · exact ⟨w.heap.size, 0, rfl, by simp, C.cell 0⟩
    · exact ⟨w.heap.size, 0, rfl, by simp, C.cell 1⟩
  have ht := wTexts _ _ hs
  go_enter Try.func9, Try.ntmps9
  go_wp2_with fail
  go_at_call 12
  refine ht.mono ?_
  rintro e w1 ⟨⟨ao, co, b, c, rfl, hao, q0⟩, b1⟩
  have t1 : Below w.heap.size w w1 := by (repeat (first | exact Below.refl _ _ | refine Below.alloc ?_ (by first | omega | (simp; done) | (simp; omega)) _ | refine Below.drew ?_ | refine Below.setCell ?_ (by first | omega | (simp; done) | (simp; omega)) _ | refine Below.trans ?_ (Below.mono (by assumption) (by first | omega | (simp; done) | (simp; omega)))))
  clear b1 ht hs
  go_wp2_with fail
  go_at_call 18
  obtain ⟨W, hW⟩ : ∃ z : World, z = (w1.alloc (.cells #[.int .i64 0, .int .i64 1] 3)).alloc (.cells #[.int .i64 0, .int .i64 2, .int .i64 2, .slice (some ⟨w1.heap.size, 0, none⟩) 2 2] 67) := ⟨_, rfl⟩
  have bW : Below w1.heap.size w1 W := by rw [hW]; (repeat (first | exact Below.refl _ _ | refine Below.alloc ?_ (by first | omega | (simp; done) | (simp; omega)) _ | refine Below.drew ?_ | refine Below.setCell ?_ (by first | omega | (simp; done) | (simp; omega)) _ | refine Below.trans ?_ (Below.mono (by assumption) (by first | omega | (simp; done) | (simp; omega)))))
  have c1 : Cells W w1.heap.size #[.int .i64 0, .int .i64 1] 3 := by rw [hW]; exact (Cells.new _ _ _).alloc _
  have c2 : Cells W (w1.heap.size + 1) #[.int .i64 0, .int .i64 2, .int .i64 2, .slice (some ⟨w1.heap.size, 0, none⟩) 2 2] 67 := by rw [hW]; exact Cells.new' _ _ _ _ (by simp)
  rw [← hW]
  clear hW
  have hd : DisAt W (some ⟨w1.heap.size + 1, 0, none⟩) wDs := fun k hk => by
    obtain rfl : k = 0 := by have : k < 1 := hk; omega
    exact ⟨w1.heap.size + 1, 0, some ⟨w1.heap.size, 0, none⟩, 2, rfl, c2.lt, c2.cell 0, c2.cell 1, c2.cell 2, c2.cell 3, c1.ints [0, 1] rfl, Nat.le_refl _, fun h => by cases h⟩
  refine (wShares _ 1 _ hd).mono ?_
  rintro e w2 ⟨⟨a2, cc2, rfl, hI⟩, b2⟩
  have b12 := bW.trans (b2.mono bW.size)
  have t2 := t1.trans (b12.mono t1.size)
  have q0 := below_cell b12 q0
  have hao2 : ao < w2.heap.size := Nat.lt_of_lt_of_le hao b12.size
  obtain ⟨bi, oi, rfl, li, i0⟩ := hI 0 (by simp)
  obtain ⟨_, _, e1, _, i1⟩ := hI 1 (by simp)
  cases e1
  simp at i0 i1
  clear hI hd c1 c2 bW b2 b12 hao t1
  go_wp2
  go_ret
  exact ⟨rfl, t2⟩
end Go.Proofs.Ytaphfibfjepceaa
