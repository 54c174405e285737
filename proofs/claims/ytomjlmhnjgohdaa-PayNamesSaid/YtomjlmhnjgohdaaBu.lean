/- pay: awake -/
import Derived.Test.YtomjlmhnjgohdaaBt
import Derived.Deep.RegionHeld3
namespace Go.Proofs.Ytomjlmhnjgohdaa
set_option linter.unusedVariables false
set_option linter.unusedSimpArgs false
set_option linter.unnecessarySimpa false
open Go.RowKit Go.Flow Go.Shelf

theorem exSmall : AccSmall ⟨4, 3, 10, exDs⟩ := ⟨by decide, fun d hd => by
  simp only [exDs, List.mem_cons, List.not_mem_nil, or_false] at hd
  rcases hd with rfl | rfl <;> decide⟩
theorem exErr : accErr ⟨4, 3, 10, exDs⟩ = 0 := by decide +kernel
section
variable (a : Option Addr) (c : Nat) (w : World) (hd : DisAt w a exDs)
include hd
theorem exShares : Calls Try.prog 20 #[.agg #[.int .i64 4, .int .i64 3, .int .i64 10, .slice a 2 c], .int .i64 0, .int .i64 14] w fun e w' => (∃ a c, e = .returned (.tuple #[.slice a 3 c, .int .i64 0]) ∧ IntsAt w' a [16, 13, 13]) ∧ Below w.heap.size w w' := by
  have h := Shares_good 4 3 10 exDs a c 0 14 w hd exSmall exErr
  rw [show sharesOut ⟨4, 3, 10, exDs⟩ 0 14 = [16, 13, 13] by decide +kernel, show sharesErr ⟨4, 3, 10, exDs⟩ 0 14 = 0 by decide +kernel] at h
  exact h
theorem exBounds : Calls Try.prog 40 #[.agg #[.int .i64 4, .int .i64 3, .int .i64 10, .slice a 2 c]] w fun e w' => (∃ a c, e = .returned (.tuple #[.slice a 4 c, .int .i64 0]) ∧ Recs2At w' a [(-42, -30), (12, 16), (30, 34), (-12, -8)]) ∧ Below w.heap.size w w' := by
  have h := Bounds_good 4 3 10 exDs a c w hd exSmall exErr
  rw [show bdOut ⟨4, 3, 10, exDs⟩ = [(-42, -30), (12, 16), (30, 34), (-12, -8)] by decide +kernel] at h
  exact h
theorem exWords : Calls Try.prog 29 #[.agg #[.int .i64 4, .int .i64 3, .int .i64 10, .slice a 2 c], .agg #[.int .i64 0, .int .i64 2, .int .i64 10]] w fun e w' => (∃ a c, e = .returned (.tuple #[.slice a 1 c, .int .i64 0]) ∧ IntsAt w' a [11]) ∧ Below w.heap.size w w' := by
  have h := Words_in 4 3 10 exDs a c 0 2 10 w hd exSmall exErr (by decide)
  rw [show wordsOut 3 10 exDs[0] 2 10 = [11] by decide +kernel, show wordsErr 3 10 exDs[0] 2 10 = 0 by decide +kernel] at h
  exact h
theorem exBalance (b : Option Addr) (d : Nat) (ht : IntsAt w b [10, 7]) : Calls Try.prog 21 #[.agg #[.int .i64 4, .int .i64 3, .int .i64 10, .slice a 2 c], .slice b 2 d] w fun e w' => (∃ a c, e = .returned (.tuple #[.slice a 4 c, .int .i64 0]) ∧ IntsAt w' a exL) ∧ Below w.heap.size w w' := by
  have h := Balance_good 4 3 10 exDs a c b [10, 7] d w hd exSmall ht (by decide) exErr
  rw [show balOut ⟨4, 3, 10, exDs⟩ [10, 7] = exL by decide +kernel, show balErr ⟨4, 3, 10, exDs⟩ [10, 7] = 0 by decide +kernel] at h
  exact h
end
theorem exBals : balsErr exL = 0 := by decide +kernel
section
variable (b : Option Addr) (c : Nat) (w : World) (hx : IntsAt w b exL)
include hx
theorem exSettle : Calls Try.prog 31 #[.slice b 4 c] w fun e w' => (∃ a c, e = .returned (.tuple #[.slice a 2 c, .int .i64 0]) ∧ Recs3At w' a [(0, 2, 30), (3, 1, 12)]) ∧ Below w.heap.size w w' := by
  have h := Settle_good b exL c (fun e => by obtain ⟨_, _, h, _⟩ := hx 0 (by decide); rw [e] at h; cases h) w hx exBals
  rw [show settleL exL = [(0, 2, 30), (3, 1, 12)] by decide +kernel] at h
  exact h
theorem exGroups : Calls Try.prog 45 #[.slice b 4 c] w fun e w' => (∃ a c, e = .returned (.tuple #[.slice a 2 c, .int .i64 0]) ∧ ListsAt w' a [[0, 2], [1, 3]]) ∧ Below w.heap.size w w' := by
  have h := Groups_good b exL c w hx exBals
  rw [show groupsL exL = [[0, 2], [1, 3]] by decide +kernel] at h
  exact h
theorem exProve (ap : Option Addr) (cp : Nat) (hp : Recs3At w ap [(0, 2, 30), (3, 1, 12)]) : Calls Try.prog 32 #[.slice b 4 c, .slice ap 2 cp, .int .i64 2] w fun e w' => e = .returned (.bool true) ∧ Below w.heap.size w w' := by
  have h := ProveSettled_any b exL c (fun e => by obtain ⟨_, _, h, _⟩ := hx 0 (by decide); rw [e] at h; cases h) ap [(0, 2, 30), (3, 1, 12)] cp 2 w hx (by decide) hp (by decide)
  rw [show proveF exL [(0, 2, 30), (3, 1, 12)] 2 = true by decide +kernel] at h
  exact h
end
theorem same_eq (a : Option Addr) (xs : List Int) (n c : Nat) (hn : xs.length = n) (b : Option Addr) (d : Nat) (w : World) (hx : IntsAt w a xs) (hy : IntsAt w b xs) (lx : xs.length ≤ 1000000) :
    Calls Try.prog 25 #[.slice a n c, .slice b n d] w fun e w' => e = .returned (.bool true) ∧ Below w.heap.size w w' := by
  subst hn
  have := same_any a xs c b xs d w hx hy lx lx
  rwa [show sameB xs xs = true from decide_eq_true rfl] at this
theorem ints_lit (w : World) (cs : Array Value) (T : TypeId) (xs : List Int) (h : cs.toList = xs.map (Value.int .i64)) : IntsAt (w.alloc (.cells cs T)) (some ⟨w.heap.size, 0, none⟩) xs := (Cells.new w cs T).ints xs h

set_option maxRecDepth 100000 in
set_option maxHeartbeats 8000000 in
theorem awake_any (w : World) : Calls Try.prog 17 #[] w fun e w' => e = .returned (.bool true) ∧ Below w.heap.size w w' := by
  go_enter Try.func17, Try.ntmps17
  go_wp2_with fail
  go_at_call 50
  refine (two_any _).mono ?_
  rintro e w1 ⟨⟨aS, cS, rfl, dS⟩, b1⟩
  have t1 : Below w.heap.size w w1 := by (repeat (first | exact Below.refl _ _ | refine Below.alloc ?_ (by first | omega | (simp; done) | (simp; omega)) _ | refine Below.drew ?_ | refine Below.setCell ?_ (by first | omega | (simp; done) | (simp; omega)) _ | refine Below.trans ?_ (Below.mono (by assumption) (by first | omega | (simp; done) | (simp; omega)))))
  go_wp2_with fail
  go_at_call 20
  refine (exShares aS cS _ (dS.below (by (repeat (first | exact Below.refl _ _ | refine Below.alloc ?_ (by first | omega | (simp; done) | (simp; omega)) _ | refine Below.drew ?_ | refine Below.setCell ?_ (by first | omega | (simp; done) | (simp; omega)) _ | refine Below.trans ?_ (Below.mono (by assumption) (by first | omega | (simp; done) | (simp; omega)))))))).mono ?_
  rintro e w2 ⟨⟨aA, cA, rfl, iA⟩, b2⟩
  have j2 : Below w1.heap.size w1 w2 := by (repeat (first | exact Below.refl _ _ | refine Below.alloc ?_ (by first | omega | (simp; done) | (simp; omega)) _ | refine Below.drew ?_ | refine Below.setCell ?_ (by first | omega | (simp; done) | (simp; omega)) _ | refine Below.trans ?_ (Below.mono (by assumption) (by first | omega | (simp; done) | (simp; omega)))))
  have t2 : Below w.heap.size w w2 := t1.trans (j2.mono t1.size)
  replace dS := dS.below j2
  clear dS
  go_wp2_with fail
  go_at_call 50
  refine (two_any _).mono ?_
  rintro e w3 ⟨⟨aB, cB, rfl, dB⟩, b3⟩
  have j3 : Below w2.heap.size w2 w3 := by (repeat (first | exact Below.refl _ _ | refine Below.alloc ?_ (by first | omega | (simp; done) | (simp; omega)) _ | refine Below.drew ?_ | refine Below.setCell ?_ (by first | omega | (simp; done) | (simp; omega)) _ | refine Below.trans ?_ (Below.mono (by assumption) (by first | omega | (simp; done) | (simp; omega)))))
  have t3 : Below w.heap.size w w3 := t2.trans (j3.mono t2.size)
  replace iA := iA.below j3
  go_wp2_with fail
  go_at_call 40
  refine (exBounds aB cB _ (dB.below (by (repeat (first | exact Below.refl _ _ | refine Below.alloc ?_ (by first | omega | (simp; done) | (simp; omega)) _ | refine Below.drew ?_ | refine Below.setCell ?_ (by first | omega | (simp; done) | (simp; omega)) _ | refine Below.trans ?_ (Below.mono (by assumption) (by first | omega | (simp; done) | (simp; omega)))))))).mono ?_
  rintro e w4 ⟨⟨aR, cR, rfl, iR⟩, b4⟩
  have j4 : Below w3.heap.size w3 w4 := by (repeat (first | exact Below.refl _ _ | refine Below.alloc ?_ (by first | omega | (simp; done) | (simp; omega)) _ | refine Below.drew ?_ | refine Below.setCell ?_ (by first | omega | (simp; done) | (simp; omega)) _ | refine Below.trans ?_ (Below.mono (by assumption) (by first | omega | (simp; done) | (simp; omega)))))
  have t4 : Below w.heap.size w w4 := t3.trans (j4.mono t3.size)
  replace iA := iA.below j4
  replace dB := dB.below j4
  clear dB
  go_wp2_with fail
  go_at_call 50
  refine (two_any _).mono ?_
  rintro e w5 ⟨⟨aW, cW, rfl, dW⟩, b5⟩
  have j5 : Below w4.heap.size w4 w5 := by (repeat (first | exact Below.refl _ _ | refine Below.alloc ?_ (by first | omega | (simp; done) | (simp; omega)) _ | refine Below.drew ?_ | refine Below.setCell ?_ (by first | omega | (simp; done) | (simp; omega)) _ | refine Below.trans ?_ (Below.mono (by assumption) (by first | omega | (simp; done) | (simp; omega)))))
  have t5 : Below w.heap.size w w5 := t4.trans (j5.mono t4.size)
  replace iA := iA.below j5
  replace iR := iR.below j5
  go_wp2_with fail
  go_at_call 29
  refine (exWords aW cW _ (dW.below (by (repeat (first | exact Below.refl _ _ | refine Below.alloc ?_ (by first | omega | (simp; done) | (simp; omega)) _ | refine Below.drew ?_ | refine Below.setCell ?_ (by first | omega | (simp; done) | (simp; omega)) _ | refine Below.trans ?_ (Below.mono (by assumption) (by first | omega | (simp; done) | (simp; omega)))))))).mono ?_
  rintro e w6 ⟨⟨aV, cV, rfl, iV⟩, b6⟩
  have j6 : Below w5.heap.size w5 w6 := by (repeat (first | exact Below.refl _ _ | refine Below.alloc ?_ (by first | omega | (simp; done) | (simp; omega)) _ | refine Below.drew ?_ | refine Below.setCell ?_ (by first | omega | (simp; done) | (simp; omega)) _ | refine Below.trans ?_ (Below.mono (by assumption) (by first | omega | (simp; done) | (simp; omega)))))
  have t6 : Below w.heap.size w w6 := t5.trans (j6.mono t5.size)
  replace iA := iA.below j6
  replace iR := iR.below j6
  replace dW := dW.below j6
  clear dW
  go_wp2_with fail
  go_at_call 50
  refine (two_any _).mono ?_
  rintro e w7 ⟨⟨aT, cT, rfl, dT⟩, b7⟩
  have j7 : Below w6.heap.size w6 w7 := by (repeat (first | exact Below.refl _ _ | refine Below.alloc ?_ (by first | omega | (simp; done) | (simp; omega)) _ | refine Below.drew ?_ | refine Below.setCell ?_ (by first | omega | (simp; done) | (simp; omega)) _ | refine Below.trans ?_ (Below.mono (by assumption) (by first | omega | (simp; done) | (simp; omega)))))
  have t7 : Below w.heap.size w w7 := t6.trans (j7.mono t6.size)
  replace iA := iA.below j7
  replace iR := iR.below j7
  replace iV := iV.below j7
  go_wp2_with fail
  go_at_call 21
  refine (exBalance aT cT _ (dT.below (by (repeat (first | exact Below.refl _ _ | refine Below.alloc ?_ (by first | omega | (simp; done) | (simp; omega)) _ | refine Below.drew ?_ | refine Below.setCell ?_ (by first | omega | (simp; done) | (simp; omega)) _ | refine Below.trans ?_ (Below.mono (by assumption) (by first | omega | (simp; done) | (simp; omega))))))) _ _ (ints_lit _ _ _ _ rfl)).mono ?_
  rintro e w8 ⟨⟨aL, cL, rfl, iL⟩, b8⟩
  have j8 : Below w7.heap.size w7 w8 := by (repeat (first | exact Below.refl _ _ | refine Below.alloc ?_ (by first | omega | (simp; done) | (simp; omega)) _ | refine Below.drew ?_ | refine Below.setCell ?_ (by first | omega | (simp; done) | (simp; omega)) _ | refine Below.trans ?_ (Below.mono (by assumption) (by first | omega | (simp; done) | (simp; omega)))))
  have t8 : Below w.heap.size w w8 := t7.trans (j8.mono t7.size)
  replace iA := iA.below j8
  replace iR := iR.below j8
  replace iV := iV.below j8
  replace dT := dT.below j8
  clear dT
  go_wp2_with fail
  go_at_call 51
  refine (owed_any _).mono ?_
  rintro e w9 ⟨rfl, oA, b9⟩
  have j9 : Below w8.heap.size w8 w9 := by (repeat (first | exact Below.refl _ _ | refine Below.alloc ?_ (by first | omega | (simp; done) | (simp; omega)) _ | refine Below.drew ?_ | refine Below.setCell ?_ (by first | omega | (simp; done) | (simp; omega)) _ | refine Below.trans ?_ (Below.mono (by assumption) (by first | omega | (simp; done) | (simp; omega)))))
  have t9 : Below w.heap.size w w9 := t8.trans (j9.mono t8.size)
  replace iA := iA.below j9
  replace iR := iR.below j9
  replace iV := iV.below j9
  replace iL := iL.below j9
  go_wp2_with fail
  go_at_call 31
  refine (exSettle _ _ _ oA).mono ?_
  rintro e w10 ⟨⟨aP, cP, rfl, iP⟩, b10⟩
  have j10 : Below w9.heap.size w9 w10 := by (repeat (first | exact Below.refl _ _ | refine Below.alloc ?_ (by first | omega | (simp; done) | (simp; omega)) _ | refine Below.drew ?_ | refine Below.setCell ?_ (by first | omega | (simp; done) | (simp; omega)) _ | refine Below.trans ?_ (Below.mono (by assumption) (by first | omega | (simp; done) | (simp; omega)))))
  have t10 : Below w.heap.size w w10 := t9.trans (j10.mono t9.size)
  replace iA := iA.below j10
  replace iR := iR.below j10
  replace iV := iV.below j10
  replace iL := iL.below j10
  replace oA := oA.below j10
  clear oA
  go_wp2_with fail
  go_at_call 51
  refine (owed_any _).mono ?_
  rintro e w11 ⟨rfl, oB, b11⟩
  have j11 : Below w10.heap.size w10 w11 := by (repeat (first | exact Below.refl _ _ | refine Below.alloc ?_ (by first | omega | (simp; done) | (simp; omega)) _ | refine Below.drew ?_ | refine Below.setCell ?_ (by first | omega | (simp; done) | (simp; omega)) _ | refine Below.trans ?_ (Below.mono (by assumption) (by first | omega | (simp; done) | (simp; omega)))))
  have t11 : Below w.heap.size w w11 := t10.trans (j11.mono t10.size)
  replace iA := iA.below j11
  replace iR := iR.below j11
  replace iV := iV.below j11
  replace iL := iL.below j11
  replace iP := iP.below j11
  go_wp2_with fail
  go_at_call 45
  refine (exGroups _ _ _ oB).mono ?_
  rintro e w12 ⟨⟨aG, cG, rfl, iG⟩, b12⟩
  have j12 : Below w11.heap.size w11 w12 := by (repeat (first | exact Below.refl _ _ | refine Below.alloc ?_ (by first | omega | (simp; done) | (simp; omega)) _ | refine Below.drew ?_ | refine Below.setCell ?_ (by first | omega | (simp; done) | (simp; omega)) _ | refine Below.trans ?_ (Below.mono (by assumption) (by first | omega | (simp; done) | (simp; omega)))))
  have t12 : Below w.heap.size w w12 := t11.trans (j12.mono t11.size)
  replace iA := iA.below j12
  replace iR := iR.below j12
  replace iV := iV.below j12
  replace iL := iL.below j12
  replace iP := iP.below j12
  replace oB := oB.below j12
  clear oB
  obtain ⟨bR, oR, rfl, lR, r0, r1⟩ := iR 0 (by decide)
  obtain ⟨bR2, oR2, eR, _, r2, r3⟩ := iR 3 (by decide)
  cases eR
  simp at r0 r1 r2 r3
  obtain ⟨bG, oG, al0, cl0, rfl, lG, g0, j0⟩ := iG 0 (by decide)
  obtain ⟨bG2, oG2, al1, cl1, eG, _, g1, j1⟩ := iG 1 (by decide)
  cases eG
  simp at g0 g1 j0 j1
  clear iR iG b1 b2 b3 b4 b5 b6 b7 b8 b9 b10 b11 b12 j2 j3 j4 j5 j6 j7 j8 j9 j10 j11 j12 t1 t2 t3 t4 t5 t6 t7 t8 t9 t10 t11 lR lG
  have kk : Below w12.heap.size w12 w12.drew := (Below.refl _ _).drew
  go_wp2_with fail
  simp only [List.append_eq, List.cons_append, List.nil_append]
  go_region_held3 (fun w' => w'.cell? ⟨bR, oR, none⟩ = some (.int .i64 (-42)) ∧ w'.cell? ⟨bR, oR + 1, none⟩ = some (.int .i64 (-30)) ∧ w'.cell? ⟨bR, oR + 6, none⟩ = some (.int .i64 (-12)) ∧ w'.cell? ⟨bR, oR + 7, none⟩ = some (.int .i64 (-8)) ∧ w'.cell? ⟨bG, oG, none⟩ = some (.slice al0 2 cl0) ∧ w'.cell? ⟨bG, oG + 1, none⟩ = some (.slice al1 2 cl1))
    (first
      | exact ⟨below_cell kk r0, below_cell kk r1, below_cell kk r2, below_cell kk r3, below_cell kk g0, below_cell kk g1⟩
      | exact ⟨below_cell (show Below w12.heap.size w12 _ by (repeat (first | exact kk | exact Below.refl _ _ | refine Below.drew ?_ | refine Below.alloc ?_ (by first | exact Nat.le_refl _ | exact kk.size | (simp; done) | (have := kk.size; simp; omega)) _))) r0, below_cell (show Below w12.heap.size w12 _ by (repeat (first | exact kk | exact Below.refl _ _ | refine Below.drew ?_ | refine Below.alloc ?_ (by first | exact Nat.le_refl _ | exact kk.size | (simp; done) | (have := kk.size; simp; omega)) _))) r1, below_cell (show Below w12.heap.size w12 _ by (repeat (first | exact kk | exact Below.refl _ _ | refine Below.drew ?_ | refine Below.alloc ?_ (by first | exact Nat.le_refl _ | exact kk.size | (simp; done) | (have := kk.size; simp; omega)) _))) r2, below_cell (show Below w12.heap.size w12 _ by (repeat (first | exact kk | exact Below.refl _ _ | refine Below.drew ?_ | refine Below.alloc ?_ (by first | exact Nat.le_refl _ | exact kk.size | (simp; done) | (have := kk.size; simp; omega)) _))) r3, below_cell (show Below w12.heap.size w12 _ by (repeat (first | exact kk | exact Below.refl _ _ | refine Below.drew ?_ | refine Below.alloc ?_ (by first | exact Nat.le_refl _ | exact kk.size | (simp; done) | (have := kk.size; simp; omega)) _))) g0, below_cell (show Below w12.heap.size w12 _ by (repeat (first | exact kk | exact Below.refl _ _ | refine Below.drew ?_ | refine Below.alloc ?_ (by first | exact Nat.le_refl _ | exact kk.size | (simp; done) | (have := kk.size; simp; omega)) _))) g1⟩
      | fail)
    (first
      | (go_at_call 25; (first | (with_reducible refine (same_eq aA [16, 13, 13] 3 cA rfl _ _ _ (iA.below (by (repeat (first | exact kk | exact Below.refl _ _ | refine Below.drew ?_ | refine Below.alloc ?_ (by first | exact Nat.le_refl _ | exact kk.size | (simp; done) | (have := kk.size; simp; omega)) _)))) (by first | exact ints_lit _ _ _ _ rfl | exact (ints_lit _ _ _ _ rfl).below (Below.refl _ _).drew | fail) (by decide)).mono ?_) | (with_reducible refine (same_eq aV [11] 1 cV rfl _ _ _ (iV.below (by (repeat (first | exact kk | exact Below.refl _ _ | refine Below.drew ?_ | refine Below.alloc ?_ (by first | exact Nat.le_refl _ | exact kk.size | (simp; done) | (have := kk.size; simp; omega)) _)))) (by first | exact ints_lit _ _ _ _ rfl | exact (ints_lit _ _ _ _ rfl).below (Below.refl _ _).drew | fail) (by decide)).mono ?_) | (with_reducible refine (same_eq aL exL 4 cL rfl _ _ _ (iL.below (by (repeat (first | exact kk | exact Below.refl _ _ | refine Below.drew ?_ | refine Below.alloc ?_ (by first | exact Nat.le_refl _ | exact kk.size | (simp; done) | (have := kk.size; simp; omega)) _)))) oC (by decide)).mono ?_) | (with_reducible refine (same_eq al0 [0, 2] 2 cl0 rfl _ _ _ (j0.below (by (repeat (first | exact kk | exact Below.refl _ _ | refine Below.drew ?_ | refine Below.alloc ?_ (by first | exact Nat.le_refl _ | exact kk.size | (simp; done) | (have := kk.size; simp; omega)) _)))) (by first | exact ints_lit _ _ _ _ rfl | exact (ints_lit _ _ _ _ rfl).below (Below.refl _ _).drew | fail) (by decide)).mono ?_) | (with_reducible refine (same_eq al1 [1, 3] 2 cl1 rfl _ _ _ (j1.below (by (repeat (first | exact kk | exact Below.refl _ _ | refine Below.drew ?_ | refine Below.alloc ?_ (by first | exact Nat.le_refl _ | exact kk.size | (simp; done) | (have := kk.size; simp; omega)) _)))) (by first | exact ints_lit _ _ _ _ rfl | exact (ints_lit _ _ _ _ rfl).below (Below.refl _ _).drew | fail) (by decide)).mono ?_)); rintro e w9 ⟨rfl, b9⟩; replace kk : Below w12.heap.size w12 w9 := Below.trans (by (repeat (first | exact kk | exact Below.refl _ _ | refine Below.drew ?_ | refine Below.alloc ?_ (by first | exact Nat.le_refl _ | exact kk.size | (simp; done) | (have := kk.size; simp; omega)) _))) (Below.mono b9 (by first | exact Nat.le_refl _ | exact kk.size | (simp; done) | (have := kk.size; simp; omega))))
      | (go_at_call 44; (first | (with_reducible refine (between_any _ _ _).mono ?_)); rintro e w9 ⟨rfl, b9⟩; replace kk : Below w12.heap.size w12 w9 := Below.trans (by (repeat (first | exact kk | exact Below.refl _ _ | refine Below.drew ?_ | refine Below.alloc ?_ (by first | exact Nat.le_refl _ | exact kk.size | (simp; done) | (have := kk.size; simp; omega)) _))) (Below.mono b9 (by first | exact Nat.le_refl _ | exact kk.size | (simp; done) | (have := kk.size; simp; omega))))
      | (go_at_call 51; (first | (with_reducible refine (owed_any _).mono ?_)); rintro e w9 ⟨rfl, oC, b9⟩; replace kk : Below w12.heap.size w12 w9 := Below.trans (by (repeat (first | exact kk | exact Below.refl _ _ | refine Below.drew ?_ | refine Below.alloc ?_ (by first | exact Nat.le_refl _ | exact kk.size | (simp; done) | (have := kk.size; simp; omega)) _))) (Below.mono b9 (by first | exact Nat.le_refl _ | exact kk.size | (simp; done) | (have := kk.size; simp; omega))))
      | (go_at_call 32; (first | (with_reducible refine (exProve _ _ _ oC aP cP (iP.below (by (repeat (first | exact kk | exact Below.refl _ _ | refine Below.drew ?_ | refine Below.alloc ?_ (by first | exact Nat.le_refl _ | exact kk.size | (simp; done) | (have := kk.size; simp; omega)) _))))).mono ?_)); rintro e w9 ⟨rfl, b9⟩; replace kk : Below w12.heap.size w12 w9 := Below.trans (by (repeat (first | exact kk | exact Below.refl _ _ | refine Below.drew ?_ | refine Below.alloc ?_ (by first | exact Nat.le_refl _ | exact kk.size | (simp; done) | (have := kk.size; simp; omega)) _))) (Below.mono b9 (by first | exact Nat.le_refl _ | exact kk.size | (simp; done) | (have := kk.size; simp; omega))))
      | fail)
  all_goals (go_wp2_with fail; go_ret; exact ⟨rfl, t12.trans (kk.mono t12.size)⟩)
end Go.Proofs.Ytomjlmhnjgohdaa
