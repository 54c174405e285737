/- CipherNames: the walk -/
import Derived.Test.YtmplgcefhpobgaaNc
namespace Go.Proofs.Ytmplgcefhpobgaa
set_option linter.unusedVariables false
set_option linter.unusedSimpArgs false
set_option linter.unnecessarySimpa false
open Go.RowKit Go.Flow

theorem Recs2At.nilN (w : World) : Recs2At w none [] := fun k hk => by simp at hk
theorem Recs3At.nilN (w : World) : Recs3At w none [] := fun k hk => by simp at hk
set_option maxRecDepth 100000 in
set_option maxHeartbeats 16000000 in
theorem names_walk (w : World) : Calls Try.prog 15 #[] w fun e w' => e = .returned (.bool true) ∧ Below w.heap.size w w' := by
  go_enter Try.func15, Try.ntmps15
  go_wp2_with fail
  have cT := Cells.new w #[.int .i64 0, .int .i64 4, .int .i64 2, .int .i64 4] 88
  have t0 : Below w.heap.size w (w.alloc (.cells #[.int .i64 0, .int .i64 4, .int .i64 2, .int .i64 4] 88)) := (Below.refl _ _).alloc (Nat.le_refl _) _
  have lT := cT.lt
  obtain ⟨W0, hW0⟩ : ∃ x : World, x = w.alloc (.cells #[.int .i64 0, .int .i64 4, .int .i64 2, .int .i64 4] 88) := ⟨_, rfl⟩
  rw [← hW0] at cT t0 lT ⊢
  clear hW0
  have b1 := t0
  obtain ⟨w1, hwq⟩ : ∃ x : World, x = W0 := ⟨_, rfl⟩
  subst hwq
  have t1 : Below w.heap.size w w1 := by (repeat (first | exact Below.refl _ _ | refine Below.alloc ?_ (by first | omega | (simp; done) | (simp; omega)) _ | refine Below.drew ?_ | refine Below.setCell ?_ (by first | omega | (simp; done) | (simp; omega)) _ | refine Below.trans ?_ (Below.mono (by assumption) (by first | omega | (simp; done) | (simp; omega)))))
  clear t0
  go_at_call 47
  refine (bookC_any _).mono ?_
  rintro e w2 ⟨⟨gA, hA, rfl, _, _, kC, dC⟩, b2⟩
  have j2 : Below w1.heap.size w1 w2 := by (repeat (first | exact Below.refl _ _ | refine Below.alloc ?_ (by first | omega | (simp; done) | (simp; omega)) _ | refine Below.drew ?_ | refine Below.setCell ?_ (by first | omega | (simp; done) | (simp; omega)) _ | refine Below.trans ?_ (Below.mono (by assumption) (by first | omega | (simp; done) | (simp; omega)))))
  have t2 : Below w.heap.size w w2 := t1.trans (j2.mono t1.size)
  replace cT := cT.below j2
  have kA := kC.recs3 exKs rfl
  have dA := dC.ints exDs rfl
  clear kC dC
  go_wp2_with fail
  go_at_call 20
  refine (nCode (some ⟨gA, 0, none⟩) 2 (some ⟨hA, 0, none⟩) 3 2 _ [4] 1 1 rfl [1, 7, 2] 3 0 nf1 rfl nf2 _ (kA.below (by (repeat (first | exact Below.refl _ _ | refine Below.alloc ?_ (by first | omega | (simp; done) | (simp; omega)) _ | refine Below.drew ?_ | refine Below.setCell ?_ (by first | omega | (simp; done) | (simp; omega)) _ | refine Below.trans ?_ (Below.mono (by assumption) (by first | omega | (simp; done) | (simp; omega))))))) (dA.below (by (repeat (first | exact Below.refl _ _ | refine Below.alloc ?_ (by first | omega | (simp; done) | (simp; omega)) _ | refine Below.drew ?_ | refine Below.setCell ?_ (by first | omega | (simp; done) | (simp; omega)) _ | refine Below.trans ?_ (Below.mono (by assumption) (by first | omega | (simp; done) | (simp; omega))))))) (ints_lit _ _ _ _ rfl) (by omega)).mono ?_
  rintro e w3 ⟨⟨aC, cC, rfl, iC⟩, b3⟩
  have j3 : Below w2.heap.size w2 w3 := by (repeat (first | exact Below.refl _ _ | refine Below.alloc ?_ (by first | omega | (simp; done) | (simp; omega)) _ | refine Below.drew ?_ | refine Below.setCell ?_ (by first | omega | (simp; done) | (simp; omega)) _ | refine Below.trans ?_ (Below.mono (by assumption) (by first | omega | (simp; done) | (simp; omega)))))
  have t3 : Below w.heap.size w w3 := t2.trans (j3.mono t2.size)
  replace cT := cT.below j3
  replace kA := kA.below j3
  replace dA := dA.below j3
  clear kA dA
  go_wp2_with fail
  go_at_call 47
  refine (bookC_any _).mono ?_
  rintro e w4 ⟨⟨gA, hA, rfl, _, _, kC, dC⟩, b4⟩
  have j4 : Below w3.heap.size w3 w4 := by (repeat (first | exact Below.refl _ _ | refine Below.alloc ?_ (by first | omega | (simp; done) | (simp; omega)) _ | refine Below.drew ?_ | refine Below.setCell ?_ (by first | omega | (simp; done) | (simp; omega)) _ | refine Below.trans ?_ (Below.mono (by assumption) (by first | omega | (simp; done) | (simp; omega)))))
  have t4 : Below w.heap.size w w4 := t3.trans (j4.mono t3.size)
  replace cT := cT.below j4
  replace iC := iC.below j4
  have kA := kC.recs3 exKs rfl
  have dA := dC.ints exDs rfl
  clear kC dC
  go_wp2_with fail
  go_at_call 48
  refine (early_any _).mono ?_
  rintro e w5 ⟨⟨aE, rfl, iE⟩, b5⟩
  have j5 : Below w4.heap.size w4 w5 := by (repeat (first | exact Below.refl _ _ | refine Below.alloc ?_ (by first | omega | (simp; done) | (simp; omega)) _ | refine Below.drew ?_ | refine Below.setCell ?_ (by first | omega | (simp; done) | (simp; omega)) _ | refine Below.trans ?_ (Below.mono (by assumption) (by first | omega | (simp; done) | (simp; omega)))))
  have t5 : Below w.heap.size w w5 := t4.trans (j5.mono t4.size)
  replace cT := cT.below j5
  replace iC := iC.below j5
  replace kA := kA.below j5
  replace dA := dA.below j5
  go_wp2_with fail
  go_at_call 35
  refine (nPlan (some ⟨gA, 0, none⟩) 2 (some ⟨hA, 0, none⟩) 3 _ 3 [1, 1, 1] 3 0 0 nf3 rfl nf4 nf5 _ kA dA iE).mono ?_
  rintro e w6 ⟨⟨aL, cL, rfl, iL⟩, b6⟩
  have j6 : Below w5.heap.size w5 w6 := by (repeat (first | exact Below.refl _ _ | refine Below.alloc ?_ (by first | omega | (simp; done) | (simp; omega)) _ | refine Below.drew ?_ | refine Below.setCell ?_ (by first | omega | (simp; done) | (simp; omega)) _ | refine Below.trans ?_ (Below.mono (by assumption) (by first | omega | (simp; done) | (simp; omega)))))
  have t6 : Below w.heap.size w w6 := t5.trans (j6.mono t5.size)
  replace cT := cT.below j6
  replace iC := iC.below j6
  replace kA := kA.below j6
  replace dA := dA.below j6
  replace iE := iE.below j6
  clear kA dA iE
  go_wp2_with fail
  go_at_call 47
  refine (bookC_any _).mono ?_
  rintro e w7 ⟨⟨gA, hA, rfl, _, _, kC, dC⟩, b7⟩
  have j7 : Below w6.heap.size w6 w7 := by (repeat (first | exact Below.refl _ _ | refine Below.alloc ?_ (by first | omega | (simp; done) | (simp; omega)) _ | refine Below.drew ?_ | refine Below.setCell ?_ (by first | omega | (simp; done) | (simp; omega)) _ | refine Below.trans ?_ (Below.mono (by assumption) (by first | omega | (simp; done) | (simp; omega)))))
  have t7 : Below w.heap.size w w7 := t6.trans (j7.mono t6.size)
  replace cT := cT.below j7
  replace iC := iC.below j7
  replace iL := iL.below j7
  have kA := kC.recs3 exKs rfl
  have dA := dC.ints exDs rfl
  clear kC dC
  go_wp2_with fail
  go_at_call 42
  refine (nPoss (some ⟨gA, 0, none⟩) 2 (some ⟨hA, 0, none⟩) 3 _ [11, 0, 0] 3 3 rfl _ [(0, 4), (2, 4)] 2 2 rfl 1 [0, 1, 2, 3, 5, 6, 7, 8, 9, 10, 11, 12] 12 0 nf6 rfl nf7 _ (kA.below (by (repeat (first | exact Below.refl _ _ | refine Below.alloc ?_ (by first | omega | (simp; done) | (simp; omega)) _ | refine Below.drew ?_ | refine Below.setCell ?_ (by first | omega | (simp; done) | (simp; omega)) _ | refine Below.trans ?_ (Below.mono (by assumption) (by first | omega | (simp; done) | (simp; omega))))))) (dA.below (by (repeat (first | exact Below.refl _ _ | refine Below.alloc ?_ (by first | omega | (simp; done) | (simp; omega)) _ | refine Below.drew ?_ | refine Below.setCell ?_ (by first | omega | (simp; done) | (simp; omega)) _ | refine Below.trans ?_ (Below.mono (by assumption) (by first | omega | (simp; done) | (simp; omega))))))) (ints_lit _ _ _ _ rfl) (by omega) ((cT.recs2 [(0, 4), (2, 4)] rfl).below (by (repeat (first | exact Below.refl _ _ | refine Below.alloc ?_ (by first | omega | (simp; done) | (simp; omega)) _ | refine Below.drew ?_ | refine Below.setCell ?_ (by first | omega | (simp; done) | (simp; omega)) _ | refine Below.trans ?_ (Below.mono (by assumption) (by first | omega | (simp; done) | (simp; omega))))))) (by omega)).mono ?_
  rintro e w8 ⟨⟨aP, cP, rfl, iP⟩, b8⟩
  have j8 : Below w7.heap.size w7 w8 := by (repeat (first | exact Below.refl _ _ | refine Below.alloc ?_ (by first | omega | (simp; done) | (simp; omega)) _ | refine Below.drew ?_ | refine Below.setCell ?_ (by first | omega | (simp; done) | (simp; omega)) _ | refine Below.trans ?_ (Below.mono (by assumption) (by first | omega | (simp; done) | (simp; omega)))))
  have t8 : Below w.heap.size w w8 := t7.trans (j8.mono t7.size)
  replace cT := cT.below j8
  replace iC := iC.below j8
  replace iL := iL.below j8
  replace kA := kA.below j8
  replace dA := dA.below j8
  clear kA dA
  go_wp2_with fail
  go_at_call 47
  refine (bookC_any _).mono ?_
  rintro e w9 ⟨⟨gA, hA, rfl, _, _, kC, dC⟩, b9⟩
  have j9 : Below w8.heap.size w8 w9 := by (repeat (first | exact Below.refl _ _ | refine Below.alloc ?_ (by first | omega | (simp; done) | (simp; omega)) _ | refine Below.drew ?_ | refine Below.setCell ?_ (by first | omega | (simp; done) | (simp; omega)) _ | refine Below.trans ?_ (Below.mono (by assumption) (by first | omega | (simp; done) | (simp; omega)))))
  have t9 : Below w.heap.size w w9 := t8.trans (j9.mono t8.size)
  replace cT := cT.below j9
  replace iC := iC.below j9
  replace iL := iL.below j9
  replace iP := iP.below j9
  have kA := kC.recs3 exKs rfl
  have dA := dC.ints exDs rfl
  clear kC dC
  go_wp2_with (at_builtin; refine wpList_app_full el_cguesses rfl _ _ rfl w.heap.size 2 #[.int .i64 0, .int .i64 4, .int .i64 2, .int .i64 4] rfl (cT.below (by (repeat (first | exact Below.refl _ _ | refine Below.alloc ?_ (by first | omega | (simp; done) | (simp; omega)) _ | refine Below.drew ?_ | refine Below.setCell ?_ (by first | omega | (simp; done) | (simp; omega)) _ | refine Below.trans ?_ (Below.mono (by assumption) (by first | omega | (simp; done) | (simp; omega))))))) rfl _ 1 1 [.int .i64 1, .int .i64 11] rfl rfl (Cells.new' _ #[.int .i64 1, .int .i64 11] _ _ (by simp)).src (by omega) (by unfold maxLen; omega) (by omega) ?_)
  intro gX cX wX oX bX
  have iX := OwnL.recs2 (xs := [(0, 4), (2, 4), (1, 11)]) oX
  have jX : Below w9.heap.size w9 wX := by (repeat (first | exact Below.refl _ _ | refine Below.alloc ?_ (by first | omega | (simp; done) | (simp; omega)) _ | refine Below.drew ?_ | refine Below.setCell ?_ (by first | omega | (simp; done) | (simp; omega)) _ | refine Below.trans ?_ (Below.mono (by assumption) (by first | omega | (simp; done) | (simp; omega)))))
  have iD := (ints_lit w9 #[.int .i64 11, .int .i64 0, .int .i64 0] 3 [11, 0, 0] rfl).below (w' := wX) (((Below.refl _ _).alloc (Nat.le_refl _) _).trans (bX.mono (by simp)))
  clear oX bX
  have b10 := jX
  obtain ⟨w10, hwq⟩ : ∃ x : World, x = wX := ⟨_, rfl⟩
  subst hwq
  have j10 : Below w9.heap.size w9 w10 := by (repeat (first | exact Below.refl _ _ | refine Below.alloc ?_ (by first | omega | (simp; done) | (simp; omega)) _ | refine Below.drew ?_ | refine Below.setCell ?_ (by first | omega | (simp; done) | (simp; omega)) _ | refine Below.trans ?_ (Below.mono (by assumption) (by first | omega | (simp; done) | (simp; omega)))))
  have t10 : Below w.heap.size w w10 := t9.trans (j10.mono t9.size)
  replace cT := cT.below j10
  replace iC := iC.below j10
  replace iL := iL.below j10
  replace iP := iP.below j10
  replace kA := kA.below j10
  replace dA := dA.below j10
  clear jX
  go_wp2_with fail
  go_at_call 42
  refine (nPoss (some ⟨gA, 0, none⟩) 2 (some ⟨hA, 0, none⟩) 3 _ [11, 0, 0] 3 3 rfl _ [(0, 4), (2, 4), (1, 11)] 3 _ rfl 2 [4] 1 0 nf8 rfl nf9 _ kA dA iD (by omega) iX (by omega)).mono ?_
  rintro e w11 ⟨⟨aQ, cQ, rfl, iQ⟩, b11⟩
  have j11 : Below w10.heap.size w10 w11 := by (repeat (first | exact Below.refl _ _ | refine Below.alloc ?_ (by first | omega | (simp; done) | (simp; omega)) _ | refine Below.drew ?_ | refine Below.setCell ?_ (by first | omega | (simp; done) | (simp; omega)) _ | refine Below.trans ?_ (Below.mono (by assumption) (by first | omega | (simp; done) | (simp; omega)))))
  have t11 : Below w.heap.size w w11 := t10.trans (j11.mono t10.size)
  replace cT := cT.below j11
  replace iC := iC.below j11
  replace iL := iL.below j11
  replace iP := iP.below j11
  replace kA := kA.below j11
  replace dA := dA.below j11
  replace iX := iX.below j11
  replace iD := iD.below j11
  clear kA dA iX iD cT
  go_wp2_with fail
  go_at_call 25
  refine (nSame aC [1, 7, 2] 3 cC rfl _ 3 _ (iC.below (by (repeat (first | exact Below.refl _ _ | refine Below.alloc ?_ (by first | omega | (simp; done) | (simp; omega)) _ | refine Below.drew ?_ | refine Below.setCell ?_ (by first | omega | (simp; done) | (simp; omega)) _ | refine Below.trans ?_ (Below.mono (by assumption) (by first | omega | (simp; done) | (simp; omega))))))) (ints_lit _ _ _ _ rfl) (by omega)).mono ?_
  rintro e w12 ⟨rfl, b12⟩
  have j12 : Below w11.heap.size w11 w12 := by (repeat (first | exact Below.refl _ _ | refine Below.alloc ?_ (by first | omega | (simp; done) | (simp; omega)) _ | refine Below.drew ?_ | refine Below.setCell ?_ (by first | omega | (simp; done) | (simp; omega)) _ | refine Below.trans ?_ (Below.mono (by assumption) (by first | omega | (simp; done) | (simp; omega)))))
  have t12 : Below w.heap.size w w12 := t11.trans (j12.mono t11.size)
  replace iC := iC.below j12
  replace iL := iL.below j12
  replace iP := iP.below j12
  replace iQ := iQ.below j12
  clear iC
  go_wp2_with fail
  go_at_call 25
  refine (nSame aL [1, 1, 1] 3 cL rfl _ 3 _ (iL.below (by (repeat (first | exact Below.refl _ _ | refine Below.alloc ?_ (by first | omega | (simp; done) | (simp; omega)) _ | refine Below.drew ?_ | refine Below.setCell ?_ (by first | omega | (simp; done) | (simp; omega)) _ | refine Below.trans ?_ (Below.mono (by assumption) (by first | omega | (simp; done) | (simp; omega))))))) (ints_lit _ _ _ _ rfl) (by omega)).mono ?_
  rintro e w13 ⟨rfl, b13⟩
  have j13 : Below w12.heap.size w12 w13 := by (repeat (first | exact Below.refl _ _ | refine Below.alloc ?_ (by first | omega | (simp; done) | (simp; omega)) _ | refine Below.drew ?_ | refine Below.setCell ?_ (by first | omega | (simp; done) | (simp; omega)) _ | refine Below.trans ?_ (Below.mono (by assumption) (by first | omega | (simp; done) | (simp; omega)))))
  have t13 : Below w.heap.size w w13 := t12.trans (j13.mono t12.size)
  replace iL := iL.below j13
  replace iP := iP.below j13
  replace iQ := iQ.below j13
  clear iL
  go_wp2_with fail
  go_at_call 25
  refine (nSame aP [0, 1, 2, 3, 5, 6, 7, 8, 9, 10, 11, 12] 12 cP rfl _ 12 _ (iP.below (by (repeat (first | exact Below.refl _ _ | refine Below.alloc ?_ (by first | omega | (simp; done) | (simp; omega)) _ | refine Below.drew ?_ | refine Below.setCell ?_ (by first | omega | (simp; done) | (simp; omega)) _ | refine Below.trans ?_ (Below.mono (by assumption) (by first | omega | (simp; done) | (simp; omega))))))) (ints_lit _ _ _ _ rfl) (by omega)).mono ?_
  rintro e w14 ⟨rfl, b14⟩
  have j14 : Below w13.heap.size w13 w14 := by (repeat (first | exact Below.refl _ _ | refine Below.alloc ?_ (by first | omega | (simp; done) | (simp; omega)) _ | refine Below.drew ?_ | refine Below.setCell ?_ (by first | omega | (simp; done) | (simp; omega)) _ | refine Below.trans ?_ (Below.mono (by assumption) (by first | omega | (simp; done) | (simp; omega)))))
  have t14 : Below w.heap.size w w14 := t13.trans (j14.mono t13.size)
  replace iP := iP.below j14
  replace iQ := iQ.below j14
  clear iP
  go_wp2_with fail
  go_at_call 25
  refine (nSame aQ [4] 1 cQ rfl _ 1 _ (iQ.below (by (repeat (first | exact Below.refl _ _ | refine Below.alloc ?_ (by first | omega | (simp; done) | (simp; omega)) _ | refine Below.drew ?_ | refine Below.setCell ?_ (by first | omega | (simp; done) | (simp; omega)) _ | refine Below.trans ?_ (Below.mono (by assumption) (by first | omega | (simp; done) | (simp; omega))))))) (ints_lit _ _ _ _ rfl) (by omega)).mono ?_
  rintro e w15 ⟨rfl, b15⟩
  have j15 : Below w14.heap.size w14 w15 := by (repeat (first | exact Below.refl _ _ | refine Below.alloc ?_ (by first | omega | (simp; done) | (simp; omega)) _ | refine Below.drew ?_ | refine Below.setCell ?_ (by first | omega | (simp; done) | (simp; omega)) _ | refine Below.trans ?_ (Below.mono (by assumption) (by first | omega | (simp; done) | (simp; omega)))))
  have t15 : Below w.heap.size w w15 := t14.trans (j15.mono t14.size)
  replace iQ := iQ.below j15
  clear iQ
  go_wp2_with fail
  go_at_call 47
  refine (bookC_any _).mono ?_
  rintro e w16 ⟨⟨gA, hA, rfl, _, _, kC, dC⟩, b16⟩
  have j16 : Below w15.heap.size w15 w16 := by (repeat (first | exact Below.refl _ _ | refine Below.alloc ?_ (by first | omega | (simp; done) | (simp; omega)) _ | refine Below.drew ?_ | refine Below.setCell ?_ (by first | omega | (simp; done) | (simp; omega)) _ | refine Below.trans ?_ (Below.mono (by assumption) (by first | omega | (simp; done) | (simp; omega)))))
  have t16 : Below w.heap.size w w16 := t15.trans (j16.mono t15.size)
  have kA := kC.recs3 exKs rfl
  have dA := dC.ints exDs rfl
  clear kC dC
  go_wp2_with fail
  go_at_call 48
  refine (early_any _).mono ?_
  rintro e w17 ⟨⟨aE, rfl, iE⟩, b17⟩
  have j17 : Below w16.heap.size w16 w17 := by (repeat (first | exact Below.refl _ _ | refine Below.alloc ?_ (by first | omega | (simp; done) | (simp; omega)) _ | refine Below.drew ?_ | refine Below.setCell ?_ (by first | omega | (simp; done) | (simp; omega)) _ | refine Below.trans ?_ (Below.mono (by assumption) (by first | omega | (simp; done) | (simp; omega)))))
  have t17 : Below w.heap.size w w17 := t16.trans (j17.mono t16.size)
  replace kA := kA.below j17
  replace dA := dA.below j17
  go_wp2_with fail
  go_at_call 38
  refine (nProve (some ⟨gA, 0, none⟩) 2 (some ⟨hA, 0, none⟩) 3 _ _ [0, 1, 1] rfl 1 (by omega) (by omega) true nf10 (by kernel_rfl) _ (kA.below (by (repeat (first | exact Below.refl _ _ | refine Below.alloc ?_ (by first | omega | (simp; done) | (simp; omega)) _ | refine Below.drew ?_ | refine Below.setCell ?_ (by first | omega | (simp; done) | (simp; omega)) _ | refine Below.trans ?_ (Below.mono (by assumption) (by first | omega | (simp; done) | (simp; omega))))))) (dA.below (by (repeat (first | exact Below.refl _ _ | refine Below.alloc ?_ (by first | omega | (simp; done) | (simp; omega)) _ | refine Below.drew ?_ | refine Below.setCell ?_ (by first | omega | (simp; done) | (simp; omega)) _ | refine Below.trans ?_ (Below.mono (by assumption) (by first | omega | (simp; done) | (simp; omega))))))) (iE.below (by (repeat (first | exact Below.refl _ _ | refine Below.alloc ?_ (by first | omega | (simp; done) | (simp; omega)) _ | refine Below.drew ?_ | refine Below.setCell ?_ (by first | omega | (simp; done) | (simp; omega)) _ | refine Below.trans ?_ (Below.mono (by assumption) (by first | omega | (simp; done) | (simp; omega))))))) (ints_lit _ _ _ _ rfl)).mono ?_
  rintro e w18 ⟨rfl, b18⟩
  have j18 : Below w17.heap.size w17 w18 := by (repeat (first | exact Below.refl _ _ | refine Below.alloc ?_ (by first | omega | (simp; done) | (simp; omega)) _ | refine Below.drew ?_ | refine Below.setCell ?_ (by first | omega | (simp; done) | (simp; omega)) _ | refine Below.trans ?_ (Below.mono (by assumption) (by first | omega | (simp; done) | (simp; omega)))))
  have t18 : Below w.heap.size w w18 := t17.trans (j18.mono t17.size)
  replace kA := kA.below j18
  replace dA := dA.below j18
  replace iE := iE.below j18
  clear kA dA iE
  go_wp2_with fail
  go_at_call 47
  refine (bookC_any _).mono ?_
  rintro e w19 ⟨⟨gA, hA, rfl, _, _, kC, dC⟩, b19⟩
  have j19 : Below w18.heap.size w18 w19 := by (repeat (first | exact Below.refl _ _ | refine Below.alloc ?_ (by first | omega | (simp; done) | (simp; omega)) _ | refine Below.drew ?_ | refine Below.setCell ?_ (by first | omega | (simp; done) | (simp; omega)) _ | refine Below.trans ?_ (Below.mono (by assumption) (by first | omega | (simp; done) | (simp; omega)))))
  have t19 : Below w.heap.size w w19 := t18.trans (j19.mono t18.size)
  have kA := kC.recs3 exKs rfl
  have dA := dC.ints exDs rfl
  clear kC dC
  go_wp2_with fail
  go_at_call 48
  refine (early_any _).mono ?_
  rintro e w20 ⟨⟨aE, rfl, iE⟩, b20⟩
  have j20 : Below w19.heap.size w19 w20 := by (repeat (first | exact Below.refl _ _ | refine Below.alloc ?_ (by first | omega | (simp; done) | (simp; omega)) _ | refine Below.drew ?_ | refine Below.setCell ?_ (by first | omega | (simp; done) | (simp; omega)) _ | refine Below.trans ?_ (Below.mono (by assumption) (by first | omega | (simp; done) | (simp; omega)))))
  have t20 : Below w.heap.size w w20 := t19.trans (j20.mono t19.size)
  replace kA := kA.below j20
  replace dA := dA.below j20
  go_wp2_with fail
  go_at_call 38
  refine (nProve (some ⟨gA, 0, none⟩) 2 (some ⟨hA, 0, none⟩) 3 _ _ [0, 1, 1] rfl 0 (by omega) (by omega) false nf11 (by kernel_rfl) _ (kA.below (by (repeat (first | exact Below.refl _ _ | refine Below.alloc ?_ (by first | omega | (simp; done) | (simp; omega)) _ | refine Below.drew ?_ | refine Below.setCell ?_ (by first | omega | (simp; done) | (simp; omega)) _ | refine Below.trans ?_ (Below.mono (by assumption) (by first | omega | (simp; done) | (simp; omega))))))) (dA.below (by (repeat (first | exact Below.refl _ _ | refine Below.alloc ?_ (by first | omega | (simp; done) | (simp; omega)) _ | refine Below.drew ?_ | refine Below.setCell ?_ (by first | omega | (simp; done) | (simp; omega)) _ | refine Below.trans ?_ (Below.mono (by assumption) (by first | omega | (simp; done) | (simp; omega))))))) (iE.below (by (repeat (first | exact Below.refl _ _ | refine Below.alloc ?_ (by first | omega | (simp; done) | (simp; omega)) _ | refine Below.drew ?_ | refine Below.setCell ?_ (by first | omega | (simp; done) | (simp; omega)) _ | refine Below.trans ?_ (Below.mono (by assumption) (by first | omega | (simp; done) | (simp; omega))))))) (ints_lit _ _ _ _ rfl)).mono ?_
  rintro e w21 ⟨rfl, b21⟩
  have j21 : Below w20.heap.size w20 w21 := by (repeat (first | exact Below.refl _ _ | refine Below.alloc ?_ (by first | omega | (simp; done) | (simp; omega)) _ | refine Below.drew ?_ | refine Below.setCell ?_ (by first | omega | (simp; done) | (simp; omega)) _ | refine Below.trans ?_ (Below.mono (by assumption) (by first | omega | (simp; done) | (simp; omega)))))
  have t21 : Below w.heap.size w w21 := t20.trans (j21.mono t20.size)
  replace kA := kA.below j21
  replace dA := dA.below j21
  replace iE := iE.below j21
  clear kA dA iE
  go_wp2_with fail
  go_at_call 47
  refine (bookC_any _).mono ?_
  rintro e w22 ⟨⟨gA, hA, rfl, _, _, kC, dC⟩, b22⟩
  have j22 : Below w21.heap.size w21 w22 := by (repeat (first | exact Below.refl _ _ | refine Below.alloc ?_ (by first | omega | (simp; done) | (simp; omega)) _ | refine Below.drew ?_ | refine Below.setCell ?_ (by first | omega | (simp; done) | (simp; omega)) _ | refine Below.trans ?_ (Below.mono (by assumption) (by first | omega | (simp; done) | (simp; omega)))))
  have t22 : Below w.heap.size w w22 := t21.trans (j22.mono t21.size)
  have kA := kC.recs3 exKs rfl
  have dA := dC.ints exDs rfl
  clear kC dC
  go_wp2_with fail
  go_at_call 48
  refine (early_any _).mono ?_
  rintro e w23 ⟨⟨aE, rfl, iE⟩, b23⟩
  have j23 : Below w22.heap.size w22 w23 := by (repeat (first | exact Below.refl _ _ | refine Below.alloc ?_ (by first | omega | (simp; done) | (simp; omega)) _ | refine Below.drew ?_ | refine Below.setCell ?_ (by first | omega | (simp; done) | (simp; omega)) _ | refine Below.trans ?_ (Below.mono (by assumption) (by first | omega | (simp; done) | (simp; omega)))))
  have t23 : Below w.heap.size w w23 := t22.trans (j23.mono t22.size)
  replace kA := kA.below j23
  replace dA := dA.below j23
  go_wp2_with fail
  go_at_call 38
  refine (nProve (some ⟨gA, 0, none⟩) 2 (some ⟨hA, 0, none⟩) 3 _ _ [0, 0, 1] rfl 9 (by omega) (by omega) false nf12 (by kernel_rfl) _ (kA.below (by (repeat (first | exact Below.refl _ _ | refine Below.alloc ?_ (by first | omega | (simp; done) | (simp; omega)) _ | refine Below.drew ?_ | refine Below.setCell ?_ (by first | omega | (simp; done) | (simp; omega)) _ | refine Below.trans ?_ (Below.mono (by assumption) (by first | omega | (simp; done) | (simp; omega))))))) (dA.below (by (repeat (first | exact Below.refl _ _ | refine Below.alloc ?_ (by first | omega | (simp; done) | (simp; omega)) _ | refine Below.drew ?_ | refine Below.setCell ?_ (by first | omega | (simp; done) | (simp; omega)) _ | refine Below.trans ?_ (Below.mono (by assumption) (by first | omega | (simp; done) | (simp; omega))))))) (iE.below (by (repeat (first | exact Below.refl _ _ | refine Below.alloc ?_ (by first | omega | (simp; done) | (simp; omega)) _ | refine Below.drew ?_ | refine Below.setCell ?_ (by first | omega | (simp; done) | (simp; omega)) _ | refine Below.trans ?_ (Below.mono (by assumption) (by first | omega | (simp; done) | (simp; omega))))))) (ints_lit _ _ _ _ rfl)).mono ?_
  rintro e w24 ⟨rfl, b24⟩
  have j24 : Below w23.heap.size w23 w24 := by (repeat (first | exact Below.refl _ _ | refine Below.alloc ?_ (by first | omega | (simp; done) | (simp; omega)) _ | refine Below.drew ?_ | refine Below.setCell ?_ (by first | omega | (simp; done) | (simp; omega)) _ | refine Below.trans ?_ (Below.mono (by assumption) (by first | omega | (simp; done) | (simp; omega)))))
  have t24 : Below w.heap.size w w24 := t23.trans (j24.mono t23.size)
  replace kA := kA.below j24
  replace dA := dA.below j24
  replace iE := iE.below j24
  clear kA dA iE
  go_wp2_with fail
  go_at_call 47
  refine (bookC_any _).mono ?_
  rintro e w25 ⟨⟨g1, h1, rfl, ge1, gh1, kC1, dC1⟩, b25⟩
  have j25 : Below w24.heap.size w24 w25 := by (repeat (first | exact Below.refl _ _ | refine Below.alloc ?_ (by first | omega | (simp; done) | (simp; omega)) _ | refine Below.drew ?_ | refine Below.setCell ?_ (by first | omega | (simp; done) | (simp; omega)) _ | refine Below.trans ?_ (Below.mono (by assumption) (by first | omega | (simp; done) | (simp; omega)))))
  have t25 : Below w.heap.size w w25 := t24.trans (j25.mono t24.size)
  have gl1 := kC1.lt
  have hl1 := dC1.lt
  have sz1 := j25.size
  go_wp2_with fail
  go_at_call 47
  refine (bookC_any _).mono ?_
  rintro e w26 ⟨⟨g2, h2, rfl, ge2, gh2, kC2, dC2⟩, b26⟩
  have j26 : Below w25.heap.size w25 w26 := by (repeat (first | exact Below.refl _ _ | refine Below.alloc ?_ (by first | omega | (simp; done) | (simp; omega)) _ | refine Below.drew ?_ | refine Below.setCell ?_ (by first | omega | (simp; done) | (simp; omega)) _ | refine Below.trans ?_ (Below.mono (by assumption) (by first | omega | (simp; done) | (simp; omega)))))
  have t26 : Below w.heap.size w w26 := t25.trans (j26.mono t25.size)
  replace kC1 := kC1.below j26
  replace dC1 := dC1.below j26
  have gl2 := kC2.lt
  have hl2 := dC2.lt
  have sz2 := j26.size
  go_wp2_with fail
  go_at_call 47
  refine (bookC_any _).mono ?_
  rintro e w27 ⟨⟨g3, h3, rfl, ge3, gh3, kC3, dC3⟩, b27⟩
  have j27 : Below w26.heap.size w26 w27 := by (repeat (first | exact Below.refl _ _ | refine Below.alloc ?_ (by first | omega | (simp; done) | (simp; omega)) _ | refine Below.drew ?_ | refine Below.setCell ?_ (by first | omega | (simp; done) | (simp; omega)) _ | refine Below.trans ?_ (Below.mono (by assumption) (by first | omega | (simp; done) | (simp; omega)))))
  have t27 : Below w.heap.size w w27 := t26.trans (j27.mono t26.size)
  replace kC1 := kC1.below j27
  replace dC1 := dC1.below j27
  replace kC2 := kC2.below j27
  replace dC2 := dC2.below j27
  have gl3 := kC3.lt
  have hl3 := dC3.lt
  have sz3 := j27.size
  go_wp2_with fail
  go_at_call 47
  refine (bookC_any _).mono ?_
  rintro e w28 ⟨⟨g4, h4, rfl, ge4, gh4, kC4, dC4⟩, b28⟩
  have j28 : Below w27.heap.size w27 w28 := by (repeat (first | exact Below.refl _ _ | refine Below.alloc ?_ (by first | omega | (simp; done) | (simp; omega)) _ | refine Below.drew ?_ | refine Below.setCell ?_ (by first | omega | (simp; done) | (simp; omega)) _ | refine Below.trans ?_ (Below.mono (by assumption) (by first | omega | (simp; done) | (simp; omega)))))
  have t28 : Below w.heap.size w w28 := t27.trans (j28.mono t27.size)
  replace kC1 := kC1.below j28
  replace dC1 := dC1.below j28
  replace kC2 := kC2.below j28
  replace dC2 := dC2.below j28
  replace kC3 := kC3.below j28
  replace dC3 := dC3.below j28
  have gl4 := kC4.lt
  have hl4 := dC4.lt
  have sz4 := j28.size
  go_wp2_with fail
  go_at_call 47
  refine (bookC_any _).mono ?_
  rintro e w29 ⟨⟨g5, h5, rfl, ge5, gh5, kC5, dC5⟩, b29⟩
  have j29 : Below w28.heap.size w28 w29 := by (repeat (first | exact Below.refl _ _ | refine Below.alloc ?_ (by first | omega | (simp; done) | (simp; omega)) _ | refine Below.drew ?_ | refine Below.setCell ?_ (by first | omega | (simp; done) | (simp; omega)) _ | refine Below.trans ?_ (Below.mono (by assumption) (by first | omega | (simp; done) | (simp; omega)))))
  have t29 : Below w.heap.size w w29 := t28.trans (j29.mono t28.size)
  replace kC1 := kC1.below j29
  replace dC1 := dC1.below j29
  replace kC2 := kC2.below j29
  replace dC2 := dC2.below j29
  replace kC3 := kC3.below j29
  replace dC3 := dC3.below j29
  replace kC4 := kC4.below j29
  replace dC4 := dC4.below j29
  have gl5 := kC5.lt
  have hl5 := dC5.lt
  have sz5 := j29.size
  obtain ⟨B, hB⟩ : ∃ B, B = w29.heap.size := ⟨_, rfl⟩
  have lg1 : g1 < B := by omega
  have lg2 : g2 < B := by omega
  have lg3 : g3 < B := by omega
  have lg4 : g4 < B := by omega
  have lg5 : g5 < B := by omega
  have lh1 : h1 < B := by omega
  have lh2 : h2 < B := by omega
  have lh3 : h3 < B := by omega
  have lh4 : h4 < B := by omega
  have lh5 : h5 < B := by omega
  have LG0 : w.heap.size ≤ g3 ∧ w.heap.size ≤ h5 := by have := t26.size; have := t28.size; omega
  have ord : g1 < h1 ∧ h1 < g2 ∧ g2 < h2 ∧ h2 < g3 ∧ g3 < h3 ∧ h3 < g4 ∧ g4 < h4 ∧ h4 < g5 ∧ g5 < h5 ∧ h5 < B := by omega
  clear ge1 gh1 gl1 hl1 sz1 ge2 gh2 gl2 hl2 sz2 ge3 gh3 gl3 hl3 sz3 ge4 gh4 gl4 hl4 sz4 ge5 gh5 gl5 hl5 sz5
  go_upto_region 9 with fail
  obtain ⟨x1, hx1⟩ : ∃ x : World, x = (((((w29.alloc (.cells #[.int .i64 13, .int .i64 10, .slice (some ⟨g1, 0, none⟩) 2 2, .slice (some ⟨h1, 0, none⟩) 3 3] 32)).alloc (.cells #[.int .i64 13, .int .i64 10, .slice (some ⟨g2, 0, none⟩) 2 2, .slice (some ⟨h2, 0, none⟩) 3 3] 32)).alloc (.cells #[.int .i64 13, .int .i64 10, .slice (some ⟨g3, 0, none⟩) 2 2, .slice (some ⟨h3, 0, none⟩) 3 3] 32)).alloc (.cells #[.int .i64 13, .int .i64 10, .slice (some ⟨g4, 0, none⟩) 2 2, .slice (some ⟨h4, 0, none⟩) 3 3] 32)).alloc (.cells #[.int .i64 13, .int .i64 10, .slice (some ⟨g5, 0, none⟩) 2 2, .slice (some ⟨h5, 0, none⟩) 3 3] 32)) := ⟨_, rfl⟩
  have bX : Below B w29 x1 := by rw [hx1, hB]; (repeat (first | exact Below.refl _ _ | refine Below.alloc ?_ (by first | omega | (simp; done) | (simp; omega)) _ | refine Below.drew ?_ | refine Below.setCell ?_ (by first | omega | (simp; done) | (simp; omega)) _ | refine Below.trans ?_ (Below.mono (by assumption) (by first | omega | (simp; done) | (simp; omega)))))
  have tX : Below w.heap.size w x1 := t29.trans ((hB ▸ bX : Below w29.heap.size w29 x1).mono t29.size)
  have lB0 : w.heap.size ≤ B := by rw [hB]; exact t29.size
  have lg0 : w.heap.size ≤ g3 ∧ w.heap.size ≤ h5 := LG0
  have cB1 : Cells x1 (B) #[.int .i64 13, .int .i64 10, .slice (some ⟨g1, 0, none⟩) 2 2, .slice (some ⟨h1, 0, none⟩) 3 3] 32 := by
    rw [hx1, hB]
    exact (((((Cells.new' _ #[.int .i64 13, .int .i64 10, .slice (some ⟨g1, 0, none⟩) 2 2, .slice (some ⟨h1, 0, none⟩) 3 3] 32 _ (by simp)).alloc _).alloc _).alloc _).alloc _)
  have cB2 : Cells x1 (B + 1) #[.int .i64 13, .int .i64 10, .slice (some ⟨g2, 0, none⟩) 2 2, .slice (some ⟨h2, 0, none⟩) 3 3] 32 := by
    rw [hx1, hB]
    exact ((((Cells.new' _ #[.int .i64 13, .int .i64 10, .slice (some ⟨g2, 0, none⟩) 2 2, .slice (some ⟨h2, 0, none⟩) 3 3] 32 _ (by simp)).alloc _).alloc _).alloc _)
  have cB3 : Cells x1 (B + 1 + 1) #[.int .i64 13, .int .i64 10, .slice (some ⟨g3, 0, none⟩) 2 2, .slice (some ⟨h3, 0, none⟩) 3 3] 32 := by
    rw [hx1, hB]
    exact (((Cells.new' _ #[.int .i64 13, .int .i64 10, .slice (some ⟨g3, 0, none⟩) 2 2, .slice (some ⟨h3, 0, none⟩) 3 3] 32 _ (by simp)).alloc _).alloc _)
  have cB4 : Cells x1 (B + 1 + 1 + 1) #[.int .i64 13, .int .i64 10, .slice (some ⟨g4, 0, none⟩) 2 2, .slice (some ⟨h4, 0, none⟩) 3 3] 32 := by
    rw [hx1, hB]
    exact ((Cells.new' _ #[.int .i64 13, .int .i64 10, .slice (some ⟨g4, 0, none⟩) 2 2, .slice (some ⟨h4, 0, none⟩) 3 3] 32 _ (by simp)).alloc _)
  have cB5 : Cells x1 (B + 1 + 1 + 1 + 1) #[.int .i64 13, .int .i64 10, .slice (some ⟨g5, 0, none⟩) 2 2, .slice (some ⟨h5, 0, none⟩) 3 3] 32 := by
    rw [hx1, hB]
    exact (Cells.new' _ #[.int .i64 13, .int .i64 10, .slice (some ⟨g5, 0, none⟩) 2 2, .slice (some ⟨h5, 0, none⟩) 3 3] 32 _ (by simp))
  have kX1 := kC1.below (hB ▸ bX)
  have kX2 := kC2.below (hB ▸ bX)
  have kX3 := kC3.below (hB ▸ bX)
  have kX4 := kC4.below (hB ▸ bX)
  have kX5 := kC5.below (hB ▸ bX)
  have dX1 := dC1.below (hB ▸ bX)
  have dX2 := dC2.below (hB ▸ bX)
  have dX3 := dC3.below (hB ▸ bX)
  have dX4 := dC4.below (hB ▸ bX)
  have dX5 := dC5.below (hB ▸ bX)
  rw [← hx1]
  rw [← hB]
  have HB := Lib.hid hB
  clear hB hx1 bX kC1 dC1 kC2 dC2 kC3 dC3 kC4 dC4 kC5 dC5
  have F : Fv x1 [(B, #[.int .i64 13, .int .i64 10, .slice (some ⟨g1, 0, none⟩) 2 2, .slice (some ⟨h1, 0, none⟩) 3 3], 32), (B + 1, #[.int .i64 13, .int .i64 10, .slice (some ⟨g2, 0, none⟩) 2 2, .slice (some ⟨h2, 0, none⟩) 3 3], 32), (B + 1 + 1, #[.int .i64 13, .int .i64 10, .slice (some ⟨g3, 0, none⟩) 2 2, .slice (some ⟨h3, 0, none⟩) 3 3], 32), (B + 1 + 1 + 1, #[.int .i64 13, .int .i64 10, .slice (some ⟨g4, 0, none⟩) 2 2, .slice (some ⟨h4, 0, none⟩) 3 3], 32), (B + 1 + 1 + 1 + 1, #[.int .i64 13, .int .i64 10, .slice (some ⟨g5, 0, none⟩) 2 2, .slice (some ⟨h5, 0, none⟩) 3 3], 32), (g1, #[.int .i64 2, .int .i64 3, .int .i64 1, .int .i64 5, .int .i64 0, .int .i64 0], 91), (g2, #[.int .i64 2, .int .i64 3, .int .i64 1, .int .i64 5, .int .i64 0, .int .i64 0], 91), (g3, #[.int .i64 2, .int .i64 3, .int .i64 1, .int .i64 5, .int .i64 0, .int .i64 0], 91), (g4, #[.int .i64 2, .int .i64 3, .int .i64 1, .int .i64 5, .int .i64 0, .int .i64 0], 91), (g5, #[.int .i64 2, .int .i64 3, .int .i64 1, .int .i64 5, .int .i64 0, .int .i64 0], 91), (h1, #[.int .i64 0, .int .i64 0, .int .i64 1], 3), (h2, #[.int .i64 0, .int .i64 0, .int .i64 1], 3), (h3, #[.int .i64 0, .int .i64 0, .int .i64 1], 3), (h4, #[.int .i64 0, .int .i64 0, .int .i64 1], 3), (h5, #[.int .i64 0, .int .i64 0, .int .i64 1], 3)] := ⟨fun x hx => by
      simp only [List.mem_cons, List.not_mem_nil, or_false] at hx
      rcases hx with rfl | rfl | rfl | rfl | rfl | rfl | rfl | rfl | rfl | rfl | rfl | rfl | rfl | rfl | rfl
      all_goals first | exact cB1 | exact cB2 | exact cB3 | exact cB4 | exact cB5 | exact kX1 | exact kX2 | exact kX3 | exact kX4 | exact kX5 | exact dX1 | exact dX2 | exact dX3 | exact dX4 | exact dX5, by
      simp only [List.map_cons, List.map_nil, List.nodup_cons, List.mem_cons, List.not_mem_nil, or_false, not_or, not_false_eq_true, and_true, List.nodup_nil]; omega⟩
  clear cB1 kX1 dX1 cB2 kX2 dX2 cB3 kX3 dX3 cB4 kX4 dX4 cB5 kX5 dX5
  have e1 := (F.get 0 rfl).cell 0
  have f1 := (F.get 0 rfl).frozen 0
  have lB1 := (F.get 0 rfl).lt
  simp at e1
  go_upto_region 10 with fail
  clear e1 f1 lB1
  obtain ⟨x2, hx2⟩ : ∃ x : World, x = x1.setCell ⟨B, 0, none⟩ (.int .i64 15) := ⟨_, rfl⟩
  rw [← hx2]
  have F : Fv x2 [(B, #[.int .i64 15, .int .i64 10, .slice (some ⟨g1, 0, none⟩) 2 2, .slice (some ⟨h1, 0, none⟩) 3 3], 32), (B + 1, #[.int .i64 13, .int .i64 10, .slice (some ⟨g2, 0, none⟩) 2 2, .slice (some ⟨h2, 0, none⟩) 3 3], 32), (B + 1 + 1, #[.int .i64 13, .int .i64 10, .slice (some ⟨g3, 0, none⟩) 2 2, .slice (some ⟨h3, 0, none⟩) 3 3], 32), (B + 1 + 1 + 1, #[.int .i64 13, .int .i64 10, .slice (some ⟨g4, 0, none⟩) 2 2, .slice (some ⟨h4, 0, none⟩) 3 3], 32), (B + 1 + 1 + 1 + 1, #[.int .i64 13, .int .i64 10, .slice (some ⟨g5, 0, none⟩) 2 2, .slice (some ⟨h5, 0, none⟩) 3 3], 32), (g1, #[.int .i64 2, .int .i64 3, .int .i64 1, .int .i64 5, .int .i64 0, .int .i64 0], 91), (g2, #[.int .i64 2, .int .i64 3, .int .i64 1, .int .i64 5, .int .i64 0, .int .i64 0], 91), (g3, #[.int .i64 2, .int .i64 3, .int .i64 1, .int .i64 5, .int .i64 0, .int .i64 0], 91), (g4, #[.int .i64 2, .int .i64 3, .int .i64 1, .int .i64 5, .int .i64 0, .int .i64 0], 91), (g5, #[.int .i64 2, .int .i64 3, .int .i64 1, .int .i64 5, .int .i64 0, .int .i64 0], 91), (h1, #[.int .i64 0, .int .i64 0, .int .i64 1], 3), (h2, #[.int .i64 0, .int .i64 0, .int .i64 1], 3), (h3, #[.int .i64 0, .int .i64 0, .int .i64 1], 3), (h4, #[.int .i64 0, .int .i64 0, .int .i64 1], 3), (h5, #[.int .i64 0, .int .i64 0, .int .i64 1], 3)] := by rw [hx2]; exact F.set 0 0 (.int .i64 15) rfl rfl
  have tX : Below w.heap.size w x2 := by rw [hx2]; exact tX.setCell (p := ⟨B, 0, none⟩) (by simp; omega) (.int .i64 15)
  clear hx2
  have e1 := (F.get 1 rfl).cell 1
  have f1 := (F.get 1 rfl).frozen 1
  have lB1 := (F.get 1 rfl).lt
  simp at e1
  go_upto_region 11 with fail
  clear e1 f1 lB1
  obtain ⟨x3, hx3⟩ : ∃ x : World, x = x2.setCell ⟨B + 1, 1, none⟩ (.int .i64 14) := ⟨_, rfl⟩
  rw [← hx3]
  have F : Fv x3 [(B, #[.int .i64 15, .int .i64 10, .slice (some ⟨g1, 0, none⟩) 2 2, .slice (some ⟨h1, 0, none⟩) 3 3], 32), (B + 1, #[.int .i64 13, .int .i64 14, .slice (some ⟨g2, 0, none⟩) 2 2, .slice (some ⟨h2, 0, none⟩) 3 3], 32), (B + 1 + 1, #[.int .i64 13, .int .i64 10, .slice (some ⟨g3, 0, none⟩) 2 2, .slice (some ⟨h3, 0, none⟩) 3 3], 32), (B + 1 + 1 + 1, #[.int .i64 13, .int .i64 10, .slice (some ⟨g4, 0, none⟩) 2 2, .slice (some ⟨h4, 0, none⟩) 3 3], 32), (B + 1 + 1 + 1 + 1, #[.int .i64 13, .int .i64 10, .slice (some ⟨g5, 0, none⟩) 2 2, .slice (some ⟨h5, 0, none⟩) 3 3], 32), (g1, #[.int .i64 2, .int .i64 3, .int .i64 1, .int .i64 5, .int .i64 0, .int .i64 0], 91), (g2, #[.int .i64 2, .int .i64 3, .int .i64 1, .int .i64 5, .int .i64 0, .int .i64 0], 91), (g3, #[.int .i64 2, .int .i64 3, .int .i64 1, .int .i64 5, .int .i64 0, .int .i64 0], 91), (g4, #[.int .i64 2, .int .i64 3, .int .i64 1, .int .i64 5, .int .i64 0, .int .i64 0], 91), (g5, #[.int .i64 2, .int .i64 3, .int .i64 1, .int .i64 5, .int .i64 0, .int .i64 0], 91), (h1, #[.int .i64 0, .int .i64 0, .int .i64 1], 3), (h2, #[.int .i64 0, .int .i64 0, .int .i64 1], 3), (h3, #[.int .i64 0, .int .i64 0, .int .i64 1], 3), (h4, #[.int .i64 0, .int .i64 0, .int .i64 1], 3), (h5, #[.int .i64 0, .int .i64 0, .int .i64 1], 3)] := by rw [hx3]; exact F.set 1 1 (.int .i64 14) rfl rfl
  have tX : Below w.heap.size w x3 := by rw [hx3]; exact tX.setCell (p := ⟨B + 1, 1, none⟩) (by simp; omega) (.int .i64 14)
  clear hx3
  have e1 := (F.get 2 rfl).cell 2
  have f1 := (F.get 2 rfl).frozen 2
  have lB1 := (F.get 2 rfl).lt
  simp at e1
  have e2 := (F.get 7 rfl).cell 0
  have f2 := (F.get 7 rfl).frozen 0
  have lB2 := (F.get 7 rfl).lt
  simp at e2
  go_upto_region 12 with fail
  clear e2 f2 lB2
  clear e1 f1 lB1
  obtain ⟨x4, hx4⟩ : ∃ x : World, x = x3.setCell ⟨g3, 0, none⟩ (.int .i64 0) := ⟨_, rfl⟩
  rw [← hx4]
  have F : Fv x4 [(B, #[.int .i64 15, .int .i64 10, .slice (some ⟨g1, 0, none⟩) 2 2, .slice (some ⟨h1, 0, none⟩) 3 3], 32), (B + 1, #[.int .i64 13, .int .i64 14, .slice (some ⟨g2, 0, none⟩) 2 2, .slice (some ⟨h2, 0, none⟩) 3 3], 32), (B + 1 + 1, #[.int .i64 13, .int .i64 10, .slice (some ⟨g3, 0, none⟩) 2 2, .slice (some ⟨h3, 0, none⟩) 3 3], 32), (B + 1 + 1 + 1, #[.int .i64 13, .int .i64 10, .slice (some ⟨g4, 0, none⟩) 2 2, .slice (some ⟨h4, 0, none⟩) 3 3], 32), (B + 1 + 1 + 1 + 1, #[.int .i64 13, .int .i64 10, .slice (some ⟨g5, 0, none⟩) 2 2, .slice (some ⟨h5, 0, none⟩) 3 3], 32), (g1, #[.int .i64 2, .int .i64 3, .int .i64 1, .int .i64 5, .int .i64 0, .int .i64 0], 91), (g2, #[.int .i64 2, .int .i64 3, .int .i64 1, .int .i64 5, .int .i64 0, .int .i64 0], 91), (g3, #[.int .i64 0, .int .i64 3, .int .i64 1, .int .i64 5, .int .i64 0, .int .i64 0], 91), (g4, #[.int .i64 2, .int .i64 3, .int .i64 1, .int .i64 5, .int .i64 0, .int .i64 0], 91), (g5, #[.int .i64 2, .int .i64 3, .int .i64 1, .int .i64 5, .int .i64 0, .int .i64 0], 91), (h1, #[.int .i64 0, .int .i64 0, .int .i64 1], 3), (h2, #[.int .i64 0, .int .i64 0, .int .i64 1], 3), (h3, #[.int .i64 0, .int .i64 0, .int .i64 1], 3), (h4, #[.int .i64 0, .int .i64 0, .int .i64 1], 3), (h5, #[.int .i64 0, .int .i64 0, .int .i64 1], 3)] := by rw [hx4]; exact F.set 7 0 (.int .i64 0) rfl rfl
  have tX : Below w.heap.size w x4 := by rw [hx4]; exact tX.setCell (p := ⟨g3, 0, none⟩) (by simp; omega) (.int .i64 0)
  clear hx4
  have e1 := (F.get 3 rfl).cell 2
  have f1 := (F.get 3 rfl).frozen 2
  have lB1 := (F.get 3 rfl).lt
  simp at e1
  have mk := make_keys6 x4
  rw [nf40] at mk
  go_upto_region 13 with fail
  clear mk
  obtain ⟨M, hM⟩ : ∃ M, M = x4.heap.size := ⟨_, rfl⟩
  rw [← hM]
  have lM0 : w.heap.size ≤ B + 1 + 1 + 1 := by omega
  clear e1 f1 lB1
  obtain ⟨x4m, hx4m⟩ : ∃ x : World, x = x4.setCell ⟨B + 1 + 1 + 1, 2, none⟩ (.slice (some ⟨M, 0, none⟩) 6 6) := ⟨_, rfl⟩
  rw [← hx4m]
  have F : Fv x4m [(B, #[.int .i64 15, .int .i64 10, .slice (some ⟨g1, 0, none⟩) 2 2, .slice (some ⟨h1, 0, none⟩) 3 3], 32), (B + 1, #[.int .i64 13, .int .i64 14, .slice (some ⟨g2, 0, none⟩) 2 2, .slice (some ⟨h2, 0, none⟩) 3 3], 32), (B + 1 + 1, #[.int .i64 13, .int .i64 10, .slice (some ⟨g3, 0, none⟩) 2 2, .slice (some ⟨h3, 0, none⟩) 3 3], 32), (B + 1 + 1 + 1, #[.int .i64 13, .int .i64 10, .slice (some ⟨M, 0, none⟩) 6 6, .slice (some ⟨h4, 0, none⟩) 3 3], 32), (B + 1 + 1 + 1 + 1, #[.int .i64 13, .int .i64 10, .slice (some ⟨g5, 0, none⟩) 2 2, .slice (some ⟨h5, 0, none⟩) 3 3], 32), (g1, #[.int .i64 2, .int .i64 3, .int .i64 1, .int .i64 5, .int .i64 0, .int .i64 0], 91), (g2, #[.int .i64 2, .int .i64 3, .int .i64 1, .int .i64 5, .int .i64 0, .int .i64 0], 91), (g3, #[.int .i64 0, .int .i64 3, .int .i64 1, .int .i64 5, .int .i64 0, .int .i64 0], 91), (g4, #[.int .i64 2, .int .i64 3, .int .i64 1, .int .i64 5, .int .i64 0, .int .i64 0], 91), (g5, #[.int .i64 2, .int .i64 3, .int .i64 1, .int .i64 5, .int .i64 0, .int .i64 0], 91), (h1, #[.int .i64 0, .int .i64 0, .int .i64 1], 3), (h2, #[.int .i64 0, .int .i64 0, .int .i64 1], 3), (h3, #[.int .i64 0, .int .i64 0, .int .i64 1], 3), (h4, #[.int .i64 0, .int .i64 0, .int .i64 1], 3), (h5, #[.int .i64 0, .int .i64 0, .int .i64 1], 3)] := by rw [hx4m]; exact F.set 3 2 (.slice (some ⟨M, 0, none⟩) 6 6) rfl rfl
  have tX : Below w.heap.size w x4m := by rw [hx4m]; exact tX.setCell (p := ⟨B + 1 + 1 + 1, 2, none⟩) (by simp; omega) (.slice (some ⟨M, 0, none⟩) 6 6)
  rw [show x4.heap.size = x4m.heap.size by rw [hx4m]; simp] at hM
  clear hx4m
  obtain ⟨x5, hx5⟩ : ∃ x : World, x = x4m.alloc (.cells #[.int .i64 0, .int .i64 0, .int .i64 0, .int .i64 0, .int .i64 0, .int .i64 0, .int .i64 0, .int .i64 0, .int .i64 0, .int .i64 0, .int .i64 0, .int .i64 0, .int .i64 0, .int .i64 0, .int .i64 0, .int .i64 0, .int .i64 0, .int .i64 0] 91) := ⟨_, rfl⟩
  have F : Fv x5 [(B, #[.int .i64 15, .int .i64 10, .slice (some ⟨g1, 0, none⟩) 2 2, .slice (some ⟨h1, 0, none⟩) 3 3], 32), (B + 1, #[.int .i64 13, .int .i64 14, .slice (some ⟨g2, 0, none⟩) 2 2, .slice (some ⟨h2, 0, none⟩) 3 3], 32), (B + 1 + 1, #[.int .i64 13, .int .i64 10, .slice (some ⟨g3, 0, none⟩) 2 2, .slice (some ⟨h3, 0, none⟩) 3 3], 32), (B + 1 + 1 + 1, #[.int .i64 13, .int .i64 10, .slice (some ⟨M, 0, none⟩) 6 6, .slice (some ⟨h4, 0, none⟩) 3 3], 32), (B + 1 + 1 + 1 + 1, #[.int .i64 13, .int .i64 10, .slice (some ⟨g5, 0, none⟩) 2 2, .slice (some ⟨h5, 0, none⟩) 3 3], 32), (g1, #[.int .i64 2, .int .i64 3, .int .i64 1, .int .i64 5, .int .i64 0, .int .i64 0], 91), (g2, #[.int .i64 2, .int .i64 3, .int .i64 1, .int .i64 5, .int .i64 0, .int .i64 0], 91), (g3, #[.int .i64 0, .int .i64 3, .int .i64 1, .int .i64 5, .int .i64 0, .int .i64 0], 91), (g4, #[.int .i64 2, .int .i64 3, .int .i64 1, .int .i64 5, .int .i64 0, .int .i64 0], 91), (g5, #[.int .i64 2, .int .i64 3, .int .i64 1, .int .i64 5, .int .i64 0, .int .i64 0], 91), (h1, #[.int .i64 0, .int .i64 0, .int .i64 1], 3), (h2, #[.int .i64 0, .int .i64 0, .int .i64 1], 3), (h3, #[.int .i64 0, .int .i64 0, .int .i64 1], 3), (h4, #[.int .i64 0, .int .i64 0, .int .i64 1], 3), (h5, #[.int .i64 0, .int .i64 0, .int .i64 1], 3), (M, #[.int .i64 0, .int .i64 0, .int .i64 0, .int .i64 0, .int .i64 0, .int .i64 0, .int .i64 0, .int .i64 0, .int .i64 0, .int .i64 0, .int .i64 0, .int .i64 0, .int .i64 0, .int .i64 0, .int .i64 0, .int .i64 0, .int .i64 0, .int .i64 0], 91)] := by rw [hx5]; exact F.alloc #[.int .i64 0, .int .i64 0, .int .i64 0, .int .i64 0, .int .i64 0, .int .i64 0, .int .i64 0, .int .i64 0, .int .i64 0, .int .i64 0, .int .i64 0, .int .i64 0, .int .i64 0, .int .i64 0, .int .i64 0, .int .i64 0, .int .i64 0, .int .i64 0] 91 hM rfl
  have tX : Below w.heap.size w x5 := by rw [hx5]; exact tX.trans (((Below.refl _ x4m).alloc (Nat.le_refl _) _).mono tX.size)
  rw [← hx5]
  clear hM hx5
  have e1 := (F.get 4 rfl).cell 3
  have f1 := (F.get 4 rfl).frozen 3
  have lB1 := (F.get 4 rfl).lt
  simp at e1
  have e2 := (F.get 14 rfl).cell 0
  have f2 := (F.get 14 rfl).frozen 0
  have lB2 := (F.get 14 rfl).lt
  simp at e2
  go_upto_region 14 with fail
  clear e2 f2 lB2
  clear e1 f1 lB1
  obtain ⟨x6, hx6⟩ : ∃ x : World, x = x5.setCell ⟨h5, 0, none⟩ (.int .i64 2) := ⟨_, rfl⟩
  rw [← hx6]
  have F : Fv x6 [(B, #[.int .i64 15, .int .i64 10, .slice (some ⟨g1, 0, none⟩) 2 2, .slice (some ⟨h1, 0, none⟩) 3 3], 32), (B + 1, #[.int .i64 13, .int .i64 14, .slice (some ⟨g2, 0, none⟩) 2 2, .slice (some ⟨h2, 0, none⟩) 3 3], 32), (B + 1 + 1, #[.int .i64 13, .int .i64 10, .slice (some ⟨g3, 0, none⟩) 2 2, .slice (some ⟨h3, 0, none⟩) 3 3], 32), (B + 1 + 1 + 1, #[.int .i64 13, .int .i64 10, .slice (some ⟨M, 0, none⟩) 6 6, .slice (some ⟨h4, 0, none⟩) 3 3], 32), (B + 1 + 1 + 1 + 1, #[.int .i64 13, .int .i64 10, .slice (some ⟨g5, 0, none⟩) 2 2, .slice (some ⟨h5, 0, none⟩) 3 3], 32), (g1, #[.int .i64 2, .int .i64 3, .int .i64 1, .int .i64 5, .int .i64 0, .int .i64 0], 91), (g2, #[.int .i64 2, .int .i64 3, .int .i64 1, .int .i64 5, .int .i64 0, .int .i64 0], 91), (g3, #[.int .i64 0, .int .i64 3, .int .i64 1, .int .i64 5, .int .i64 0, .int .i64 0], 91), (g4, #[.int .i64 2, .int .i64 3, .int .i64 1, .int .i64 5, .int .i64 0, .int .i64 0], 91), (g5, #[.int .i64 2, .int .i64 3, .int .i64 1, .int .i64 5, .int .i64 0, .int .i64 0], 91), (h1, #[.int .i64 0, .int .i64 0, .int .i64 1], 3), (h2, #[.int .i64 0, .int .i64 0, .int .i64 1], 3), (h3, #[.int .i64 0, .int .i64 0, .int .i64 1], 3), (h4, #[.int .i64 0, .int .i64 0, .int .i64 1], 3), (h5, #[.int .i64 2, .int .i64 0, .int .i64 1], 3), (M, #[.int .i64 0, .int .i64 0, .int .i64 0, .int .i64 0, .int .i64 0, .int .i64 0, .int .i64 0, .int .i64 0, .int .i64 0, .int .i64 0, .int .i64 0, .int .i64 0, .int .i64 0, .int .i64 0, .int .i64 0, .int .i64 0, .int .i64 0, .int .i64 0], 91)] := by rw [hx6]; exact F.set 14 0 (.int .i64 2) rfl rfl
  have tX : Below w.heap.size w x6 := by rw [hx6]; exact tX.setCell (p := ⟨h5, 0, none⟩) (by simp; omega) (.int .i64 2)
  clear hx6
  obtain ⟨w30, hwq⟩ : ∃ x : World, x = x6 := ⟨_, rfl⟩
  subst hwq
  have t30 : Below w.heap.size w w30 := tX
  clear tX
  go_wp2_with fail
  go_at_call 47
  refine (bookC_any _).mono ?_
  rintro e w31 ⟨⟨gA, hA, rfl, _, _, kC, dC⟩, b31⟩
  have j31 : Below w30.heap.size w30 w31 := by (repeat (first | exact Below.refl _ _ | refine Below.alloc ?_ (by first | omega | (simp; done) | (simp; omega)) _ | refine Below.drew ?_ | refine Below.setCell ?_ (by first | omega | (simp; done) | (simp; omega)) _ | refine Below.trans ?_ (Below.mono (by assumption) (by first | omega | (simp; done) | (simp; omega)))))
  have t31 : Below w.heap.size w w31 := t30.trans (j31.mono t30.size)
  replace F := F.below j31
  have kA := kC.recs3 exKs rfl
  have dA := dC.ints exDs rfl
  clear kC dC
  go_wp2_with fail
  go_at_call 27
  refine (nDecode (some ⟨gA, 0, none⟩) 2 (some ⟨hA, 0, none⟩) 3 1 _ [0, 11, 0, 0, 9] 5 rfl _ nf13 _ (kA.below (by (repeat (first | exact Below.refl _ _ | refine Below.alloc ?_ (by first | omega | (simp; done) | (simp; omega)) _ | refine Below.drew ?_ | refine Below.setCell ?_ (by first | omega | (simp; done) | (simp; omega)) _ | refine Below.trans ?_ (Below.mono (by assumption) (by first | omega | (simp; done) | (simp; omega))))))) (dA.below (by (repeat (first | exact Below.refl _ _ | refine Below.alloc ?_ (by first | omega | (simp; done) | (simp; omega)) _ | refine Below.drew ?_ | refine Below.setCell ?_ (by first | omega | (simp; done) | (simp; omega)) _ | refine Below.trans ?_ (Below.mono (by assumption) (by first | omega | (simp; done) | (simp; omega))))))) (ints_lit _ _ _ _ rfl) (by omega)).mono ?_
  rintro e w32 ⟨⟨_, _, _, _, _, _, rfl⟩, b32⟩
  have j32 : Below w31.heap.size w31 w32 := by (repeat (first | exact Below.refl _ _ | refine Below.alloc ?_ (by first | omega | (simp; done) | (simp; omega)) _ | refine Below.drew ?_ | refine Below.setCell ?_ (by first | omega | (simp; done) | (simp; omega)) _ | refine Below.trans ?_ (Below.mono (by assumption) (by first | omega | (simp; done) | (simp; omega)))))
  have t32 : Below w.heap.size w w32 := t31.trans (j32.mono t31.size)
  replace F := F.below j32
  replace kA := kA.below j32
  replace dA := dA.below j32
  clear kA dA
  go_wp2_with fail
  go_at_call 47
  refine (bookC_any _).mono ?_
  rintro e w33 ⟨⟨gA, hA, rfl, _, _, kC, dC⟩, b33⟩
  have j33 : Below w32.heap.size w32 w33 := by (repeat (first | exact Below.refl _ _ | refine Below.alloc ?_ (by first | omega | (simp; done) | (simp; omega)) _ | refine Below.drew ?_ | refine Below.setCell ?_ (by first | omega | (simp; done) | (simp; omega)) _ | refine Below.trans ?_ (Below.mono (by assumption) (by first | omega | (simp; done) | (simp; omega)))))
  have t33 : Below w.heap.size w w33 := t32.trans (j33.mono t32.size)
  replace F := F.below j33
  have kA := kC.recs3 exKs rfl
  have dA := dC.ints exDs rfl
  clear kC dC
  go_wp2_with fail
  go_at_call 27
  refine (nDecode (some ⟨gA, 0, none⟩) 2 (some ⟨hA, 0, none⟩) 3 0 _ [0, 11, 0, 1, 9] 5 rfl _ nf14 _ (kA.below (by (repeat (first | exact Below.refl _ _ | refine Below.alloc ?_ (by first | omega | (simp; done) | (simp; omega)) _ | refine Below.drew ?_ | refine Below.setCell ?_ (by first | omega | (simp; done) | (simp; omega)) _ | refine Below.trans ?_ (Below.mono (by assumption) (by first | omega | (simp; done) | (simp; omega))))))) (dA.below (by (repeat (first | exact Below.refl _ _ | refine Below.alloc ?_ (by first | omega | (simp; done) | (simp; omega)) _ | refine Below.drew ?_ | refine Below.setCell ?_ (by first | omega | (simp; done) | (simp; omega)) _ | refine Below.trans ?_ (Below.mono (by assumption) (by first | omega | (simp; done) | (simp; omega))))))) (ints_lit _ _ _ _ rfl) (by omega)).mono ?_
  rintro e w34 ⟨⟨_, _, _, _, _, _, rfl⟩, b34⟩
  have j34 : Below w33.heap.size w33 w34 := by (repeat (first | exact Below.refl _ _ | refine Below.alloc ?_ (by first | omega | (simp; done) | (simp; omega)) _ | refine Below.drew ?_ | refine Below.setCell ?_ (by first | omega | (simp; done) | (simp; omega)) _ | refine Below.trans ?_ (Below.mono (by assumption) (by first | omega | (simp; done) | (simp; omega)))))
  have t34 : Below w.heap.size w w34 := t33.trans (j34.mono t33.size)
  replace F := F.below j34
  replace kA := kA.below j34
  replace dA := dA.below j34
  clear kA dA
  go_wp2_with fail
  go_at_call 47
  refine (bookC_any _).mono ?_
  rintro e w35 ⟨⟨gA, hA, rfl, _, _, kC, dC⟩, b35⟩
  have j35 : Below w34.heap.size w34 w35 := by (repeat (first | exact Below.refl _ _ | refine Below.alloc ?_ (by first | omega | (simp; done) | (simp; omega)) _ | refine Below.drew ?_ | refine Below.setCell ?_ (by first | omega | (simp; done) | (simp; omega)) _ | refine Below.trans ?_ (Below.mono (by assumption) (by first | omega | (simp; done) | (simp; omega)))))
  have t35 : Below w.heap.size w w35 := t34.trans (j35.mono t34.size)
  replace F := F.below j35
  have kA := kC.recs3 exKs rfl
  have dA := dC.ints exDs rfl
  clear kC dC
  go_wp2_with fail
  go_at_call 27
  refine (nDecode (some ⟨gA, 0, none⟩) 2 (some ⟨hA, 0, none⟩) 3 0 _ [0] 1 rfl _ nf15 _ (kA.below (by (repeat (first | exact Below.refl _ _ | refine Below.alloc ?_ (by first | omega | (simp; done) | (simp; omega)) _ | refine Below.drew ?_ | refine Below.setCell ?_ (by first | omega | (simp; done) | (simp; omega)) _ | refine Below.trans ?_ (Below.mono (by assumption) (by first | omega | (simp; done) | (simp; omega))))))) (dA.below (by (repeat (first | exact Below.refl _ _ | refine Below.alloc ?_ (by first | omega | (simp; done) | (simp; omega)) _ | refine Below.drew ?_ | refine Below.setCell ?_ (by first | omega | (simp; done) | (simp; omega)) _ | refine Below.trans ?_ (Below.mono (by assumption) (by first | omega | (simp; done) | (simp; omega))))))) (ints_lit _ _ _ _ rfl) (by omega)).mono ?_
  rintro e w36 ⟨⟨_, _, _, _, _, _, rfl⟩, b36⟩
  have j36 : Below w35.heap.size w35 w36 := by (repeat (first | exact Below.refl _ _ | refine Below.alloc ?_ (by first | omega | (simp; done) | (simp; omega)) _ | refine Below.drew ?_ | refine Below.setCell ?_ (by first | omega | (simp; done) | (simp; omega)) _ | refine Below.trans ?_ (Below.mono (by assumption) (by first | omega | (simp; done) | (simp; omega)))))
  have t36 : Below w.heap.size w w36 := t35.trans (j36.mono t35.size)
  replace F := F.below j36
  replace kA := kA.below j36
  replace dA := dA.below j36
  clear kA dA
  go_wp2_with fail
  go_at_call 47
  refine (bookC_any _).mono ?_
  rintro e w37 ⟨⟨gA, hA, rfl, _, _, kC, dC⟩, b37⟩
  have j37 : Below w36.heap.size w36 w37 := by (repeat (first | exact Below.refl _ _ | refine Below.alloc ?_ (by first | omega | (simp; done) | (simp; omega)) _ | refine Below.drew ?_ | refine Below.setCell ?_ (by first | omega | (simp; done) | (simp; omega)) _ | refine Below.trans ?_ (Below.mono (by assumption) (by first | omega | (simp; done) | (simp; omega)))))
  have t37 : Below w.heap.size w w37 := t36.trans (j37.mono t36.size)
  replace F := F.below j37
  have kA := kC.recs3 exKs rfl
  have dA := dC.ints exDs rfl
  clear kC dC
  go_wp2_with fail
  go_at_call 20
  refine (nCode (some ⟨gA, 0, none⟩) 2 (some ⟨hA, 0, none⟩) 3 3 none [] 0 0 rfl [] 0 _ nf31 rfl nf16 _ kA dA (IntsAt.nil _ _) (by omega)).mono ?_
  rintro e w38 ⟨⟨_, _, rfl, _⟩, b38⟩
  have j38 : Below w37.heap.size w37 w38 := by (repeat (first | exact Below.refl _ _ | refine Below.alloc ?_ (by first | omega | (simp; done) | (simp; omega)) _ | refine Below.drew ?_ | refine Below.setCell ?_ (by first | omega | (simp; done) | (simp; omega)) _ | refine Below.trans ?_ (Below.mono (by assumption) (by first | omega | (simp; done) | (simp; omega)))))
  have t38 : Below w.heap.size w w38 := t37.trans (j38.mono t37.size)
  replace F := F.below j38
  replace kA := kA.below j38
  replace dA := dA.below j38
  clear kA dA
  go_upto_region 18 with fail
  refine reg18 _ _ _ _ rfl ?_
  intro v1 v2 v3 v4 v5 v6 a7 n7 c7 w39 b39
  simp only [List.setIfInBounds_toArray, List.set_cons_zero, List.set_cons_succ]
  have j39 : Below w38.heap.size w38 w39 := by (repeat (first | exact Below.refl _ _ | refine Below.alloc ?_ (by first | omega | (simp; done) | (simp; omega)) _ | refine Below.drew ?_ | refine Below.setCell ?_ (by first | omega | (simp; done) | (simp; omega)) _ | refine Below.trans ?_ (Below.mono (by assumption) (by first | omega | (simp; done) | (simp; omega)))))
  have t39 : Below w.heap.size w w39 := t38.trans (j39.mono t38.size)
  replace F := F.below j39
  go_wp2_with fail
  go_at_call 47
  refine (bookC_any _).mono ?_
  rintro e w40 ⟨⟨gA, hA, rfl, _, _, kC, dC⟩, b40⟩
  have j40 : Below w39.heap.size w39 w40 := by (repeat (first | exact Below.refl _ _ | refine Below.alloc ?_ (by first | omega | (simp; done) | (simp; omega)) _ | refine Below.drew ?_ | refine Below.setCell ?_ (by first | omega | (simp; done) | (simp; omega)) _ | refine Below.trans ?_ (Below.mono (by assumption) (by first | omega | (simp; done) | (simp; omega)))))
  have t40 : Below w.heap.size w w40 := t39.trans (j40.mono t39.size)
  replace F := F.below j40
  have kA := kC.recs3 exKs rfl
  have dA := dC.ints exDs rfl
  clear kC dC
  go_wp2_with fail
  go_at_call 20
  refine (nCode (some ⟨gA, 0, none⟩) 2 (some ⟨hA, 0, none⟩) 3 0 _ [13] 1 1 rfl [] 0 _ nf33 rfl nf18 _ (kA.below (by (repeat (first | exact Below.refl _ _ | refine Below.alloc ?_ (by first | omega | (simp; done) | (simp; omega)) _ | refine Below.drew ?_ | refine Below.setCell ?_ (by first | omega | (simp; done) | (simp; omega)) _ | refine Below.trans ?_ (Below.mono (by assumption) (by first | omega | (simp; done) | (simp; omega))))))) (dA.below (by (repeat (first | exact Below.refl _ _ | refine Below.alloc ?_ (by first | omega | (simp; done) | (simp; omega)) _ | refine Below.drew ?_ | refine Below.setCell ?_ (by first | omega | (simp; done) | (simp; omega)) _ | refine Below.trans ?_ (Below.mono (by assumption) (by first | omega | (simp; done) | (simp; omega))))))) (ints_lit _ _ _ _ rfl) (by omega)).mono ?_
  rintro e w41 ⟨⟨_, _, rfl, _⟩, b41⟩
  have j41 : Below w40.heap.size w40 w41 := by (repeat (first | exact Below.refl _ _ | refine Below.alloc ?_ (by first | omega | (simp; done) | (simp; omega)) _ | refine Below.drew ?_ | refine Below.setCell ?_ (by first | omega | (simp; done) | (simp; omega)) _ | refine Below.trans ?_ (Below.mono (by assumption) (by first | omega | (simp; done) | (simp; omega)))))
  have t41 : Below w.heap.size w w41 := t40.trans (j41.mono t40.size)
  replace F := F.below j41
  replace kA := kA.below j41
  replace dA := dA.below j41
  clear kA dA
  go_wp2_with fail
  go_at_call 47
  refine (bookC_any _).mono ?_
  rintro e w42 ⟨⟨gA, hA, rfl, _, _, kC, dC⟩, b42⟩
  have j42 : Below w41.heap.size w41 w42 := by (repeat (first | exact Below.refl _ _ | refine Below.alloc ?_ (by first | omega | (simp; done) | (simp; omega)) _ | refine Below.drew ?_ | refine Below.setCell ?_ (by first | omega | (simp; done) | (simp; omega)) _ | refine Below.trans ?_ (Below.mono (by assumption) (by first | omega | (simp; done) | (simp; omega)))))
  have t42 : Below w.heap.size w w42 := t41.trans (j42.mono t41.size)
  replace F := F.below j42
  have kA := kC.recs3 exKs rfl
  have dA := dC.ints exDs rfl
  clear kC dC
  go_wp2_with fail
  go_at_call 48
  refine (early_any _).mono ?_
  rintro e w43 ⟨⟨aE, rfl, iE⟩, b43⟩
  have j43 : Below w42.heap.size w42 w43 := by (repeat (first | exact Below.refl _ _ | refine Below.alloc ?_ (by first | omega | (simp; done) | (simp; omega)) _ | refine Below.drew ?_ | refine Below.setCell ?_ (by first | omega | (simp; done) | (simp; omega)) _ | refine Below.trans ?_ (Below.mono (by assumption) (by first | omega | (simp; done) | (simp; omega)))))
  have t43 : Below w.heap.size w w43 := t42.trans (j43.mono t42.size)
  replace F := F.below j43
  replace kA := kA.below j43
  replace dA := dA.below j43
  go_wp2_with fail
  go_at_call 35
  refine (nPlan (some ⟨gA, 0, none⟩) 2 (some ⟨hA, 0, none⟩) 3 _ 1 [] 0 0 _ nf34 rfl nf36 nf19 _ kA dA iE).mono ?_
  rintro e w44 ⟨⟨_, _, rfl, _⟩, b44⟩
  have j44 : Below w43.heap.size w43 w44 := by (repeat (first | exact Below.refl _ _ | refine Below.alloc ?_ (by first | omega | (simp; done) | (simp; omega)) _ | refine Below.drew ?_ | refine Below.setCell ?_ (by first | omega | (simp; done) | (simp; omega)) _ | refine Below.trans ?_ (Below.mono (by assumption) (by first | omega | (simp; done) | (simp; omega)))))
  have t44 : Below w.heap.size w w44 := t43.trans (j44.mono t43.size)
  replace F := F.below j44
  replace kA := kA.below j44
  replace dA := dA.below j44
  replace iE := iE.below j44
  clear kA dA iE
  go_wp2_with fail
  go_at_call 47
  refine (bookC_any _).mono ?_
  rintro e w45 ⟨⟨gA, hA, rfl, _, _, kC, dC⟩, b45⟩
  have j45 : Below w44.heap.size w44 w45 := by (repeat (first | exact Below.refl _ _ | refine Below.alloc ?_ (by first | omega | (simp; done) | (simp; omega)) _ | refine Below.drew ?_ | refine Below.setCell ?_ (by first | omega | (simp; done) | (simp; omega)) _ | refine Below.trans ?_ (Below.mono (by assumption) (by first | omega | (simp; done) | (simp; omega)))))
  have t45 : Below w.heap.size w w45 := t44.trans (j45.mono t44.size)
  replace F := F.below j45
  have kA := kC.recs3 exKs rfl
  have dA := dC.ints exDs rfl
  clear kC dC
  go_wp2_with fail
  go_at_call 48
  refine (early_any _).mono ?_
  rintro e w46 ⟨⟨aE, rfl, iE⟩, b46⟩
  have j46 : Below w45.heap.size w45 w46 := by (repeat (first | exact Below.refl _ _ | refine Below.alloc ?_ (by first | omega | (simp; done) | (simp; omega)) _ | refine Below.drew ?_ | refine Below.setCell ?_ (by first | omega | (simp; done) | (simp; omega)) _ | refine Below.trans ?_ (Below.mono (by assumption) (by first | omega | (simp; done) | (simp; omega)))))
  have t46 : Below w.heap.size w w46 := t45.trans (j46.mono t45.size)
  replace F := F.below j46
  replace kA := kA.below j46
  replace dA := dA.below j46
  go_wp2_with fail
  go_at_call 35
  refine (nPlan (some ⟨gA, 0, none⟩) 2 (some ⟨hA, 0, none⟩) 3 _ 9 [] 0 0 _ nf35 rfl nf37 nf20 _ kA dA iE).mono ?_
  rintro e w47 ⟨⟨_, _, rfl, _⟩, b47⟩
  have j47 : Below w46.heap.size w46 w47 := by (repeat (first | exact Below.refl _ _ | refine Below.alloc ?_ (by first | omega | (simp; done) | (simp; omega)) _ | refine Below.drew ?_ | refine Below.setCell ?_ (by first | omega | (simp; done) | (simp; omega)) _ | refine Below.trans ?_ (Below.mono (by assumption) (by first | omega | (simp; done) | (simp; omega)))))
  have t47 : Below w.heap.size w w47 := t46.trans (j47.mono t46.size)
  replace F := F.below j47
  replace kA := kA.below j47
  replace dA := dA.below j47
  replace iE := iE.below j47
  clear kA dA iE
  go_upto_region 22 with fail
  refine reg22 _ _ _ _ rfl ?_
  intro v1 v2 v3 v4 v5 v6 a7 n7 c7 w48 b48
  simp only [List.setIfInBounds_toArray, List.set_cons_zero, List.set_cons_succ]
  have j48 : Below w47.heap.size w47 w48 := by (repeat (first | exact Below.refl _ _ | refine Below.alloc ?_ (by first | omega | (simp; done) | (simp; omega)) _ | refine Below.drew ?_ | refine Below.setCell ?_ (by first | omega | (simp; done) | (simp; omega)) _ | refine Below.trans ?_ (Below.mono (by assumption) (by first | omega | (simp; done) | (simp; omega)))))
  have t48 : Below w.heap.size w w48 := t47.trans (j48.mono t47.size)
  replace F := F.below j48
  go_wp2_with fail
  go_at_call 47
  refine (bookC_any _).mono ?_
  rintro e w49 ⟨⟨gA, hA, rfl, _, _, kC, dC⟩, b49⟩
  have j49 : Below w48.heap.size w48 w49 := by (repeat (first | exact Below.refl _ _ | refine Below.alloc ?_ (by first | omega | (simp; done) | (simp; omega)) _ | refine Below.drew ?_ | refine Below.setCell ?_ (by first | omega | (simp; done) | (simp; omega)) _ | refine Below.trans ?_ (Below.mono (by assumption) (by first | omega | (simp; done) | (simp; omega)))))
  have t49 : Below w.heap.size w w49 := t48.trans (j49.mono t48.size)
  replace F := F.below j49
  have kA := kC.recs3 exKs rfl
  have dA := dC.ints exDs rfl
  clear kC dC
  go_wp2_with fail
  go_at_call 40
  refine (nFits (some ⟨gA, 0, none⟩) 2 (some ⟨hA, 0, none⟩) 3 _ [11, 12] 2 2 rfl _ [(0, 4), (0, 5)] 2 2 rfl 0 _ nf30 nf22 _ (kA.below (by (repeat (first | exact Below.refl _ _ | refine Below.alloc ?_ (by first | omega | (simp; done) | (simp; omega)) _ | refine Below.drew ?_ | refine Below.setCell ?_ (by first | omega | (simp; done) | (simp; omega)) _ | refine Below.trans ?_ (Below.mono (by assumption) (by first | omega | (simp; done) | (simp; omega))))))) (dA.below (by (repeat (first | exact Below.refl _ _ | refine Below.alloc ?_ (by first | omega | (simp; done) | (simp; omega)) _ | refine Below.drew ?_ | refine Below.setCell ?_ (by first | omega | (simp; done) | (simp; omega)) _ | refine Below.trans ?_ (Below.mono (by assumption) (by first | omega | (simp; done) | (simp; omega))))))) ((ints_lit _ _ _ [11, 12] rfl).below (by (repeat (first | exact Below.refl _ _ | refine Below.alloc ?_ (by first | omega | (simp; done) | (simp; omega)) _ | refine Below.drew ?_ | refine Below.setCell ?_ (by first | omega | (simp; done) | (simp; omega)) _ | refine Below.trans ?_ (Below.mono (by assumption) (by first | omega | (simp; done) | (simp; omega))))))) (by omega) ((Cells.new' _ _ _ _ (by simp)).recs2 [(0, 4), (0, 5)] rfl) (by omega)).mono ?_
  rintro e w50 ⟨rfl, b50⟩
  have j50 : Below w49.heap.size w49 w50 := by (repeat (first | exact Below.refl _ _ | refine Below.alloc ?_ (by first | omega | (simp; done) | (simp; omega)) _ | refine Below.drew ?_ | refine Below.setCell ?_ (by first | omega | (simp; done) | (simp; omega)) _ | refine Below.trans ?_ (Below.mono (by assumption) (by first | omega | (simp; done) | (simp; omega)))))
  have t50 : Below w.heap.size w w50 := t49.trans (j50.mono t49.size)
  replace F := F.below j50
  replace kA := kA.below j50
  replace dA := dA.below j50
  clear kA dA
  go_wp2_with fail
  go_at_call 47
  refine (bookC_any _).mono ?_
  rintro e w51 ⟨⟨gA, hA, rfl, _, _, kC, dC⟩, b51⟩
  have j51 : Below w50.heap.size w50 w51 := by (repeat (first | exact Below.refl _ _ | refine Below.alloc ?_ (by first | omega | (simp; done) | (simp; omega)) _ | refine Below.drew ?_ | refine Below.setCell ?_ (by first | omega | (simp; done) | (simp; omega)) _ | refine Below.trans ?_ (Below.mono (by assumption) (by first | omega | (simp; done) | (simp; omega)))))
  have t51 : Below w.heap.size w w51 := t50.trans (j51.mono t50.size)
  replace F := F.below j51
  have kA := kC.recs3 exKs rfl
  have dA := dC.ints exDs rfl
  clear kC dC
  go_wp2_with fail
  go_at_call 42
  refine (nPoss (some ⟨gA, 0, none⟩) 2 (some ⟨hA, 0, none⟩) 3 _ [11, 0] 2 2 rfl none [] 0 0 rfl 2 [] 0 _ nf38 rfl nf23 _ (kA.below (by (repeat (first | exact Below.refl _ _ | refine Below.alloc ?_ (by first | omega | (simp; done) | (simp; omega)) _ | refine Below.drew ?_ | refine Below.setCell ?_ (by first | omega | (simp; done) | (simp; omega)) _ | refine Below.trans ?_ (Below.mono (by assumption) (by first | omega | (simp; done) | (simp; omega))))))) (dA.below (by (repeat (first | exact Below.refl _ _ | refine Below.alloc ?_ (by first | omega | (simp; done) | (simp; omega)) _ | refine Below.drew ?_ | refine Below.setCell ?_ (by first | omega | (simp; done) | (simp; omega)) _ | refine Below.trans ?_ (Below.mono (by assumption) (by first | omega | (simp; done) | (simp; omega))))))) (ints_lit _ _ _ _ rfl) (by omega) (Recs2At.nil _ _) (by omega)).mono ?_
  rintro e w52 ⟨⟨_, _, rfl, _⟩, b52⟩
  have j52 : Below w51.heap.size w51 w52 := by (repeat (first | exact Below.refl _ _ | refine Below.alloc ?_ (by first | omega | (simp; done) | (simp; omega)) _ | refine Below.drew ?_ | refine Below.setCell ?_ (by first | omega | (simp; done) | (simp; omega)) _ | refine Below.trans ?_ (Below.mono (by assumption) (by first | omega | (simp; done) | (simp; omega)))))
  have t52 : Below w.heap.size w w52 := t51.trans (j52.mono t51.size)
  replace F := F.below j52
  replace kA := kA.below j52
  replace dA := dA.below j52
  clear kA dA
  have c0 := (F.get 0 rfl).cell 0
  have c1 := (F.get 0 rfl).cell 1
  have c2 := (F.get 0 rfl).cell 2
  have c3 := (F.get 0 rfl).cell 3
  have lB := (F.get 0 rfl).lt
  simp at c0 c1 c2 c3
  go_wp2_with fail
  go_at_call 18
  refine (nCheck 15 10 (some ⟨g1, 0, none⟩) exKs 2 2 rfl (some ⟨h1, 0, none⟩) exDs 3 3 rfl 1 nf24 _ ((F.get 5 rfl).recs3 exKs rfl) ((F.get 10 rfl).ints exDs rfl) (by omega) (by omega)).mono ?_
  rintro e w53 ⟨rfl, b53⟩
  have j53 : Below w52.heap.size w52 w53 := by (repeat (first | exact Below.refl _ _ | refine Below.alloc ?_ (by first | omega | (simp; done) | (simp; omega)) _ | refine Below.drew ?_ | refine Below.setCell ?_ (by first | omega | (simp; done) | (simp; omega)) _ | refine Below.trans ?_ (Below.mono (by assumption) (by first | omega | (simp; done) | (simp; omega)))))
  have t53 : Below w.heap.size w w53 := t52.trans (j53.mono t52.size)
  replace F := F.below j53
  clear c0 c1 c2 c3 lB
  have c0 := (F.get 1 rfl).cell 0
  have c1 := (F.get 1 rfl).cell 1
  have c2 := (F.get 1 rfl).cell 2
  have c3 := (F.get 1 rfl).cell 3
  have lB := (F.get 1 rfl).lt
  simp at c0 c1 c2 c3
  go_wp2_with fail
  go_at_call 18
  refine (nCheck 13 14 (some ⟨g2, 0, none⟩) exKs 2 2 rfl (some ⟨h2, 0, none⟩) exDs 3 3 rfl 1 nf25 _ ((F.get 6 rfl).recs3 exKs rfl) ((F.get 11 rfl).ints exDs rfl) (by omega) (by omega)).mono ?_
  rintro e w54 ⟨rfl, b54⟩
  have j54 : Below w53.heap.size w53 w54 := by (repeat (first | exact Below.refl _ _ | refine Below.alloc ?_ (by first | omega | (simp; done) | (simp; omega)) _ | refine Below.drew ?_ | refine Below.setCell ?_ (by first | omega | (simp; done) | (simp; omega)) _ | refine Below.trans ?_ (Below.mono (by assumption) (by first | omega | (simp; done) | (simp; omega)))))
  have t54 : Below w.heap.size w w54 := t53.trans (j54.mono t53.size)
  replace F := F.below j54
  clear c0 c1 c2 c3 lB
  have c0 := (F.get 2 rfl).cell 0
  have c1 := (F.get 2 rfl).cell 1
  have c2 := (F.get 2 rfl).cell 2
  have c3 := (F.get 2 rfl).cell 3
  have lB := (F.get 2 rfl).lt
  simp at c0 c1 c2 c3
  go_wp2_with fail
  go_at_call 18
  refine (nCheck 13 10 (some ⟨g3, 0, none⟩) [(0, 3, 1), (5, 0, 0)] 2 2 rfl (some ⟨h3, 0, none⟩) exDs 3 3 rfl 1 nf26 _ ((F.get 7 rfl).recs3 [(0, 3, 1), (5, 0, 0)] rfl) ((F.get 12 rfl).ints exDs rfl) (by omega) (by omega)).mono ?_
  rintro e w55 ⟨rfl, b55⟩
  have j55 : Below w54.heap.size w54 w55 := by (repeat (first | exact Below.refl _ _ | refine Below.alloc ?_ (by first | omega | (simp; done) | (simp; omega)) _ | refine Below.drew ?_ | refine Below.setCell ?_ (by first | omega | (simp; done) | (simp; omega)) _ | refine Below.trans ?_ (Below.mono (by assumption) (by first | omega | (simp; done) | (simp; omega)))))
  have t55 : Below w.heap.size w w55 := t54.trans (j55.mono t54.size)
  replace F := F.below j55
  clear c0 c1 c2 c3 lB
  have c0 := (F.get 3 rfl).cell 0
  have c1 := (F.get 3 rfl).cell 1
  have c2 := (F.get 3 rfl).cell 2
  have c3 := (F.get 3 rfl).cell 3
  have lB := (F.get 3 rfl).lt
  simp at c0 c1 c2 c3
  go_wp2_with fail
  go_at_call 18
  refine (nCheck 13 10 (some ⟨M, 0, none⟩) [(0, 0, 0), (0, 0, 0), (0, 0, 0), (0, 0, 0), (0, 0, 0), (0, 0, 0)] 6 6 rfl (some ⟨h4, 0, none⟩) exDs 3 3 rfl 3 nf27 _ ((F.get 15 rfl).recs3 [(0, 0, 0), (0, 0, 0), (0, 0, 0), (0, 0, 0), (0, 0, 0), (0, 0, 0)] rfl) ((F.get 13 rfl).ints exDs rfl) (by omega) (by omega)).mono ?_
  rintro e w56 ⟨rfl, b56⟩
  have j56 : Below w55.heap.size w55 w56 := by (repeat (first | exact Below.refl _ _ | refine Below.alloc ?_ (by first | omega | (simp; done) | (simp; omega)) _ | refine Below.drew ?_ | refine Below.setCell ?_ (by first | omega | (simp; done) | (simp; omega)) _ | refine Below.trans ?_ (Below.mono (by assumption) (by first | omega | (simp; done) | (simp; omega)))))
  have t56 : Below w.heap.size w w56 := t55.trans (j56.mono t55.size)
  replace F := F.below j56
  clear c0 c1 c2 c3 lB
  have c0 := (F.get 4 rfl).cell 0
  have c1 := (F.get 4 rfl).cell 1
  have c2 := (F.get 4 rfl).cell 2
  have c3 := (F.get 4 rfl).cell 3
  have lB := (F.get 4 rfl).lt
  simp at c0 c1 c2 c3
  go_wp2_with fail
  go_at_call 18
  refine (nCheck 13 10 (some ⟨g5, 0, none⟩) exKs 2 2 rfl (some ⟨h5, 0, none⟩) [2, 0, 1] 3 3 rfl 1 nf28 _ ((F.get 9 rfl).recs3 exKs rfl) ((F.get 14 rfl).ints [2, 0, 1] rfl) (by omega) (by omega)).mono ?_
  rintro e w57 ⟨rfl, b57⟩
  have j57 : Below w56.heap.size w56 w57 := by (repeat (first | exact Below.refl _ _ | refine Below.alloc ?_ (by first | omega | (simp; done) | (simp; omega)) _ | refine Below.drew ?_ | refine Below.setCell ?_ (by first | omega | (simp; done) | (simp; omega)) _ | refine Below.trans ?_ (Below.mono (by assumption) (by first | omega | (simp; done) | (simp; omega)))))
  have t57 : Below w.heap.size w w57 := t56.trans (j57.mono t56.size)
  replace F := F.below j57
  clear c0 c1 c2 c3 lB
  go_wp2_with fail
  go_at_call 18
  refine (nCheck 0 0 none [] 0 0 rfl none [] 0 0 rfl 1 nf29 _ (Recs3At.nil _ _) (IntsAt.nil _ _) (by omega) (by omega)).mono ?_
  rintro e w58 ⟨rfl, b58⟩
  have j58 : Below w57.heap.size w57 w58 := by (repeat (first | exact Below.refl _ _ | refine Below.alloc ?_ (by first | omega | (simp; done) | (simp; omega)) _ | refine Below.drew ?_ | refine Below.setCell ?_ (by first | omega | (simp; done) | (simp; omega)) _ | refine Below.trans ?_ (Below.mono (by assumption) (by first | omega | (simp; done) | (simp; omega)))))
  have t58 : Below w.heap.size w w58 := t57.trans (j58.mono t57.size)
  replace F := F.below j58
  go_wp2_with fail
  go_at_call 17
  refine (awake_any _).mono ?_
  rintro e w59 ⟨rfl, b59⟩
  have j59 : Below w58.heap.size w58 w59 := by (repeat (first | exact Below.refl _ _ | refine Below.alloc ?_ (by first | omega | (simp; done) | (simp; omega)) _ | refine Below.drew ?_ | refine Below.setCell ?_ (by first | omega | (simp; done) | (simp; omega)) _ | refine Below.trans ?_ (Below.mono (by assumption) (by first | omega | (simp; done) | (simp; omega)))))
  have t59 : Below w.heap.size w w59 := t58.trans (j59.mono t58.size)
  replace F := F.below j59
  go_wp2_with fail
  go_ret
  exact ⟨rfl, t59⟩

end Go.Proofs.Ytmplgcefhpobgaa
