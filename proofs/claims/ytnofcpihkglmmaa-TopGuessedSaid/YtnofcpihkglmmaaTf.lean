/- TopGuessed: coded -/
import Derived.Test.YtnofcpihkglmmaaFs
import Derived.Test.YtnofcpihkglmmaaDd
namespace Go.Proofs.Ytnofcpihkglmmaa
set_option linter.unusedVariables false
set_option linter.unusedSimpArgs false
set_option linter.unnecessarySimpa false
open Go.RowKit Go.Flow
def gKs : List (Int × Int × Int) := [(1, 0, 0)]
theorem gCode (ak : Option Addr) (ck : Nat) (ad : Option Addr) (cd : Nat) (ap : Option Addr) (w : World) (hk : Recs3At w ak gKs) (hd : IntsAt w ad [0]) (hp : IntsAt w ap [5]) :
    Calls Try.prog 19 #[.agg #[.int .i64 13, .int .i64 13, .slice ak 1 ck, .slice ad 1 cd], .int .i64 0, .slice ap 1 1] w fun e w' => (∃ a c, e = .returned (.tuple #[.slice a 3 c, .int .i64 0]) ∧ IntsAt w' a [0, 5, 10]) ∧ Below w.heap.size w w' := by
  refine (code_full 13 13 ak gKs ck ad [0] cd 0 ap [5] 1 w hk hd (by decide) (by decide) hp (by decide)).mono ?_
  rintro e w' ⟨⟨a, c, he, ho⟩, hb⟩
  have e1 : codeOut 13 13 gKs [0] 0 [5] = [0, 5, 10] := by decide +kernel
  have e2 : codeErr 13 13 gKs [0] 0 [5] = 0 := by decide +kernel
  rw [e1, e2] at he
  rw [e1] at ho
  exact ⟨⟨a, c, he, ho.ints.1⟩, hb⟩
theorem gDecode (ak : Option Addr) (ck : Nat) (ad : Option Addr) (cd : Nat) (ap : Option Addr) (w : World) (hk : Recs3At w ak gKs) (hd : IntsAt w ad [0]) (hp : IntsAt w ap [0, 6, 10]) :
    Calls Try.prog 20 #[.agg #[.int .i64 13, .int .i64 13, .slice ak 1 ck, .slice ad 1 cd], .int .i64 0, .slice ap 3 3] w fun e w' => (∃ a c a2 c2, e = .returned (.tuple #[.slice a 0 c, .slice a2 0 c2, .int .i64 11])) ∧ Below w.heap.size w w' := by
  refine (decode_full 13 13 ak gKs ck ad [0] cd 0 ap [0, 6, 10] 3 w hk hd (by decide) (by decide) hp (by decide) (by decide) (by decide)).mono ?_
  rintro e w' ⟨⟨a, c, a2, c2, he, ho, ho2⟩, hb⟩
  have e1 : decOut 13 13 gKs [0] 0 [0, 6, 10] = [] := by decide +kernel
  have e2 : decodeErr 13 13 gKs [0] 0 [0, 6, 10] = 11 := by decide +kernel
  have e3 : kept (fun n => decide ((13 : Int) ≤ n)) [] = [] := by decide +kernel
  rw [e1, e2, e3] at he
  exact ⟨⟨a, c, a2, c2, he⟩, hb⟩
def gSs : List ByteArray := [⟨#[46]⟩, ⟨#[45]⟩]
theorem gCodeOk : CodeOk gSs := codeOk_of (by decide +kernel)
theorem gTextsF : TextsF [46, 46] 1 [[46], [45]] 2 = [[1]] := by decide +kernel
theorem gTexts (w : World) (a : Option Addr) (hx : StrsAt w a gSs) : Calls Try.prog 21 #[.agg #[.slice a 2 2], .string ⟨#[46, 46]⟩, .int .i64 1, .int .i64 1] w fun e w' =>
    (∃ ao co b c, e = .returned (.tuple #[.slice (some ⟨ao, 0, none⟩) 1 co, .int .i64 0]) ∧ ao < w'.heap.size ∧ w'.cell? ⟨ao, 0, none⟩ = some (.slice b 1 c) ∧ IntsAt w' b [1]) ∧ Below w.heap.size w w' := by
  have h := Texts_any a gSs 2 ⟨#[46, 46]⟩ 1 1 [46, 46] [[46], [45]] rfl rfl ⟨by decide, fun b hb => by simp at hb; exact .inl hb⟩ (by omega) (by omega) gCodeOk w hx (Nat.le_refl _)
  rw [gTextsF] at h
  refine h.mono ?_
  rintro e w' ⟨ao, co, vs, rfl, ho, hr, hb⟩
  refine ⟨?_, hb⟩
  have hl : vs.length = 1 := hr.1
  obtain ⟨v, rfl⟩ : ∃ v, vs = [v] := List.length_eq_one_iff.1 hl
  obtain ⟨b, c, hv, hox⟩ := hr.2 0 (by simp) v rfl
  rcases ho.form with ⟨_, _, h, _⟩ | ⟨g, rfl, _, hlt, _, _, _, hc⟩
  · simp at h
  · have := hc 0 v rfl
    rw [hv] at this
    exact ⟨g, co, b, c, rfl, hlt, this, hox.ints.1⟩
set_option maxRecDepth 100000 in
set_option maxHeartbeats 4000000 in
theorem coded_any (w : World) : Calls Try.prog 9 #[] w fun e w' => e = .returned (.bool true) ∧ Below w.heap.size w w' := by
  obtain ⟨W, hW⟩ : ∃ z : World, z = ((w.alloc (.cells #[.int .i64 1, .int .i64 0, .int .i64 0] 57)).alloc (.cells #[.int .i64 0] 3)).alloc (.cells #[.int .i64 13, .int .i64 13, .slice (some ⟨w.heap.size, 0, none⟩) 1 1, .slice (some ⟨w.heap.size + 1, 0, none⟩) 1 1] 49) := ⟨_, rfl⟩
  have bW : Below w.heap.size w W := by rw [hW]; (repeat (first | exact Below.refl _ _ | refine Below.alloc ?_ (by first | omega | (simp; done) | (simp; omega)) _ | refine Below.drew ?_ | refine Below.setCell ?_ (by first | omega | (simp; done) | (simp; omega)) _ | refine Below.trans ?_ (Below.mono (by assumption) (by first | omega | (simp; done) | (simp; omega)))))
  have c0 : Cells W w.heap.size #[.int .i64 1, .int .i64 0, .int .i64 0] 57 := by rw [hW]; exact ((Cells.new _ _ _).alloc _).alloc _
  have c1 : Cells W (w.heap.size + 1) #[.int .i64 0] 3 := by rw [hW]; exact (Cells.new' _ _ _ _ (by simp)).alloc _
  have c2 : Cells W (w.heap.size + 1 + 1) #[.int .i64 13, .int .i64 13, .slice (some ⟨w.heap.size, 0, none⟩) 1 1, .slice (some ⟨w.heap.size + 1, 0, none⟩) 1 1] 49 := by rw [hW]; exact Cells.new' _ _ _ _ (by simp)
  have hsz : W.heap.size = w.heap.size + 1 + 1 + 1 := by rw [hW]; simp
  have hk : Recs3At W (some ⟨w.heap.size, 0, none⟩) gKs := fun k hk => by
    obtain rfl : k = 0 := by have : k < 1 := hk; omega
    exact ⟨w.heap.size, 0, rfl, c0.lt, c0.cell 0, c0.cell 1, c0.cell 2⟩
  have hd : IntsAt W (some ⟨w.heap.size + 1, 0, none⟩) [0] := c1.ints [0] rfl
  have HW := Lib.hid hW
  clear hW c0 c1
  have a5 : Below W.heap.size W (W.alloc (.cells #[.int .i64 5] 3)) := (Below.refl _ _).alloc (Nat.le_refl _) _
  have h5 : IntsAt (W.alloc (.cells #[.int .i64 5] 3)) (some ⟨W.heap.size, 0, none⟩) [5] := ints_lit _ _ _ _ rfl
  have hcode := gCode _ 1 _ 1 _ _ (hk.below a5) (hd.below a5) h5
  rw [hsz] at hcode
  go_enter Try.func9, Try.ntmps9
  go_wp2_with fail
  go_at_call 19
  rw [← HW.out]
  refine hcode.mono ?_
  rintro e w1 ⟨⟨aC, cC, rfl, iC⟩, b1⟩
  have b01 : Below W.heap.size W w1 := a5.trans (b1.mono a5.size)
  have t1 : Below w.heap.size w w1 := bW.trans (b01.mono bW.size)
  replace hk := hk.below b01
  replace hd := hd.below b01
  have q := c2.below b01
  have q0 := q.cell 0
  have q1 := q.cell 1
  have q2 := q.cell 2
  have q3 := q.cell 3
  simp at q0 q1 q2 q3
  have lq := q.lt
  clear hcode a5 h5 b1 c2 b01 q HW bW hsz
  have a6 : Below w1.heap.size w1 (w1.alloc (.cells #[.int .i64 0, .int .i64 6, .int .i64 10] 3)) := (Below.refl _ _).alloc (Nat.le_refl _) _
  have hdec := gDecode _ 1 _ 1 _ _ (hk.below a6) (hd.below a6) (ints_lit w1 #[.int .i64 0, .int .i64 6, .int .i64 10] 3 [0, 6, 10] rfl)
  go_wp2_with fail
  go_at_call 20
  refine hdec.mono ?_
  rintro e w2 ⟨⟨aD, cD, aE, cE, rfl⟩, b2⟩
  have b12 : Below w1.heap.size w1 w2 := a6.trans (b2.mono a6.size)
  have t2 : Below w.heap.size w w2 := t1.trans (b12.mono t1.size)
  replace iC := iC.below b12
  clear hdec a6 b2 b12 q0 q1 q2 q3 lq hk hd
  have a7 : Below w2.heap.size w2 (w2.alloc (.cells #[.string ⟨#[46]⟩, .string ⟨#[45]⟩] 9)) := (Below.refl _ _).alloc (Nat.le_refl _) _
  have hs : StrsAt (w2.alloc (.cells #[.string ⟨#[46]⟩, .string ⟨#[45]⟩] 9)) (some ⟨w2.heap.size, 0, none⟩) gSs := fun k hk => by
    have hk2 : k < 2 := hk
    have C := Cells.new w2 #[.string ⟨#[46]⟩, .string ⟨#[45]⟩] 9
    rcases (show k = 0 ∨ k = 1 by omega) with rfl | rfl
    · exact ⟨w2.heap.size, 0, rfl, by simp, C.cell 0⟩
    · exact ⟨w2.heap.size, 0, rfl, by simp, C.cell 1⟩
  have ht := gTexts _ _ hs
  go_wp2_with fail
  go_at_call 21
  refine ht.mono ?_
  rintro e w3 ⟨⟨ao, co, b, c, rfl, hao, r0, iT⟩, b3⟩
  have b23 : Below w2.heap.size w2 w3 := a7.trans (b3.mono a7.size)
  have t3 : Below w.heap.size w w3 := t2.trans (b23.mono t2.size)
  replace iC := iC.below b23
  clear ht hs a7 b3 b23 t1 t2
  have a8 : Below w3.heap.size w3 (w3.alloc (.cells #[.int .i64 0, .int .i64 5, .int .i64 10] 3)) := (Below.refl _ _).alloc (Nat.le_refl _) _
  have hsm := same_eq aC [0, 5, 10] cC _ 3 _ (iC.below a8) (ints_lit w3 #[.int .i64 0, .int .i64 5, .int .i64 10] 3 [0, 5, 10] rfl) (by simp)
  go_wp2_with fail
  go_at_call 22
  refine hsm.mono ?_
  rintro e w4 ⟨rfl, b4⟩
  have b34 : Below w3.heap.size w3 w4 := a8.trans (b4.mono a8.size)
  have t4 : Below w.heap.size w w4 := t3.trans (b34.mono t3.size)
  have r0 := below_cell b34 r0
  have lr := Nat.lt_of_lt_of_le hao b34.size
  replace iT := iT.below b34
  obtain ⟨bi, oi, rfl, li, i0⟩ := iT 0 (by simp)
  simp at i0
  clear hsm a8 b4 b34 iC iT hao t3
  go_wp2
  go_ret
  exact ⟨rfl, t4⟩
end Go.Proofs.Ytnofcpihkglmmaa
