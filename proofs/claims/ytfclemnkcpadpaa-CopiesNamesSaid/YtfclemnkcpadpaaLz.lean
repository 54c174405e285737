/- CopiesNames: the walk -/
import Derived.Test.YtfclemnkcpadpaaNd
namespace Go.Proofs.Ytfclemnkcpadpaa
set_option linter.unusedVariables false
set_option linter.unusedSimpArgs false
set_option linter.unnecessarySimpa false
open Go.RowKit Go.Flow Go.Shelf
theorem legs2C {w : World} {m g : Nat} {T1 T2 : TypeId} (c2 : Cells w m #[.int .i64 1, .int .i64 1, .slice (some ⟨g, 0, none⟩) 1 1, .int .i64 1, .int .i64 2, .slice none 0 0] T1) (cg : Cells w g #[.int .i64 1, .int .i64 4] T2) : LegsAt w (some ⟨m, 0, none⟩) [⟨1, 1, [(1, 4)]⟩, ⟨1, 2, []⟩] := fun j hj => by
  have hj2 : j = 0 ∨ j = 1 := by have : j < 2 := hj; omega
  rcases hj2 with rfl | rfl
  · refine ⟨m, 0, some ⟨g, 0, none⟩, 1, rfl, c2.lt, cell_of c2 rfl, cell_of (k := 1) c2 rfl, cell_of (k := 2) c2 rfl, fun i hi => ?_⟩
    obtain rfl : i = 0 := by have : i < 1 := hi; omega
    exact ⟨g, 0, rfl, cg.lt, cell_of cg rfl, cell_of (k := 1) cg rfl⟩
  · exact ⟨m, 0, none, 0, rfl, c2.lt, cell_of (k := 3) c2 rfl, cell_of (k := 4) c2 rfl, cell_of (k := 5) c2 rfl, Recs2At.nil _ _⟩

set_option maxRecDepth 100000 in
set_option maxHeartbeats 16000000 in
theorem names_walk (w : World) :
    Calls Try.prog 15 #[] w fun e w' => e = .returned (.bool true) ∧ Below w.heap.size w w' := by
  go_enter Try.func15, Try.ntmps15
  go_wp2_with fail
  go_at_call 55
  refine (two_any _).mono ?_
  rintro e w1 ⟨⟨a1, c1, r1, d1, rfl, s1, q1⟩, b1⟩
  have t1 : Below w.heap.size w w1 := by (repeat (first | exact Below.refl _ _ | refine Below.alloc ?_ (by first | omega | (simp; done) | (simp; omega)) _ | refine Below.drew ?_ | refine Below.setCell ?_ (by first | omega | (simp; done) | (simp; omega)) _ | refine Below.trans ?_ (Below.mono (by assumption) (by first | omega | (simp; done) | (simp; omega)))))
  go_wp2_with fail
  go_at_call 28
  refine (exH00 a1 c1 r1 d1 _ s1 q1).mono ?_
  rintro e w2 ⟨⟨aA, cA, rfl, iA⟩, b2⟩
  have j2 : Below w1.heap.size w1 w2 := by (repeat (first | exact Below.refl _ _ | refine Below.alloc ?_ (by first | omega | (simp; done) | (simp; omega)) _ | refine Below.drew ?_ | refine Below.setCell ?_ (by first | omega | (simp; done) | (simp; omega)) _ | refine Below.trans ?_ (Below.mono (by assumption) (by first | omega | (simp; done) | (simp; omega)))))
  have t2 : Below w.heap.size w w2 := t1.trans (j2.mono t1.size)
  replace s1 := s1.below j2
  replace q1 := q1.below j2
  clear s1 q1
  go_wp2_with fail
  go_at_call 55
  refine (two_any _).mono ?_
  rintro e w3 ⟨⟨a2, c2, r2, d2, rfl, s2, q2⟩, b3⟩
  have j3 : Below w2.heap.size w2 w3 := by (repeat (first | exact Below.refl _ _ | refine Below.alloc ?_ (by first | omega | (simp; done) | (simp; omega)) _ | refine Below.drew ?_ | refine Below.setCell ?_ (by first | omega | (simp; done) | (simp; omega)) _ | refine Below.trans ?_ (Below.mono (by assumption) (by first | omega | (simp; done) | (simp; omega)))))
  have t3 : Below w.heap.size w w3 := t2.trans (j3.mono t2.size)
  replace iA := iA.below j3
  go_wp2_with fail
  go_at_call 28
  refine (exH10 a2 c2 r2 d2 _ s2 q2).mono ?_
  rintro e w4 ⟨⟨aB, cB, rfl, iB⟩, b4⟩
  have j4 : Below w3.heap.size w3 w4 := by (repeat (first | exact Below.refl _ _ | refine Below.alloc ?_ (by first | omega | (simp; done) | (simp; omega)) _ | refine Below.drew ?_ | refine Below.setCell ?_ (by first | omega | (simp; done) | (simp; omega)) _ | refine Below.trans ?_ (Below.mono (by assumption) (by first | omega | (simp; done) | (simp; omega)))))
  have t4 : Below w.heap.size w w4 := t3.trans (j4.mono t3.size)
  replace iA := iA.below j4
  replace s2 := s2.below j4
  replace q2 := q2.below j4
  clear s2 q2
  go_wp2_with fail
  go_at_call 55
  refine (two_any _).mono ?_
  rintro e w5 ⟨⟨a3, c3, r3, d3, rfl, s3, q3⟩, b5⟩
  have j5 : Below w4.heap.size w4 w5 := by (repeat (first | exact Below.refl _ _ | refine Below.alloc ?_ (by first | omega | (simp; done) | (simp; omega)) _ | refine Below.drew ?_ | refine Below.setCell ?_ (by first | omega | (simp; done) | (simp; omega)) _ | refine Below.trans ?_ (Below.mono (by assumption) (by first | omega | (simp; done) | (simp; omega)))))
  have t5 : Below w.heap.size w w5 := t4.trans (j5.mono t4.size)
  replace iA := iA.below j5
  replace iB := iB.below j5
  go_wp2_with fail
  go_at_call 48
  refine (exExpl a3 c3 r3 d3 _ 1 _ (s3.below (by (repeat (first | exact Below.refl _ _ | refine Below.alloc ?_ (by first | omega | (simp; done) | (simp; omega)) _ | refine Below.drew ?_ | refine Below.setCell ?_ (by first | omega | (simp; done) | (simp; omega)) _ | refine Below.trans ?_ (Below.mono (by assumption) (by first | omega | (simp; done) | (simp; omega))))))) (q3.below (by (repeat (first | exact Below.refl _ _ | refine Below.alloc ?_ (by first | omega | (simp; done) | (simp; omega)) _ | refine Below.drew ?_ | refine Below.setCell ?_ (by first | omega | (simp; done) | (simp; omega)) _ | refine Below.trans ?_ (Below.mono (by assumption) (by first | omega | (simp; done) | (simp; omega))))))) (ents_lit _ _ _ _ rfl)).mono ?_
  rintro e w6 ⟨⟨aT, cT, rfl, tT⟩, b6⟩
  have j6 : Below w5.heap.size w5 w6 := by (repeat (first | exact Below.refl _ _ | refine Below.alloc ?_ (by first | omega | (simp; done) | (simp; omega)) _ | refine Below.drew ?_ | refine Below.setCell ?_ (by first | omega | (simp; done) | (simp; omega)) _ | refine Below.trans ?_ (Below.mono (by assumption) (by first | omega | (simp; done) | (simp; omega)))))
  have t6 : Below w.heap.size w w6 := t5.trans (j6.mono t5.size)
  replace iA := iA.below j6
  replace iB := iB.below j6
  replace s3 := s3.below j6
  replace q3 := q3.below j6
  clear s3 q3
  have tL := tT
  rw [truthTwo_lit] at tL
  obtain ⟨bT, oT, aU, cU, rfl, lT, x0, lU, _⟩ := tL 0 (by decide)
  obtain ⟨bU, oU, aV, cV, rfl, lV, x1, _, _⟩ := lU 0 (by decide)
  simp at x0 x1
  clear tL lU
  go_wp2_with fail
  go_at_call 31
  refine (ints_eq aA [1, 2, 3] 3 cA rfl _ _ _ (iA.below (by (repeat (first | exact Below.refl _ _ | refine Below.alloc ?_ (by first | omega | (simp; done) | (simp; omega)) _ | refine Below.drew ?_ | refine Below.setCell ?_ (by first | omega | (simp; done) | (simp; omega)) _ | refine Below.trans ?_ (Below.mono (by assumption) (by first | omega | (simp; done) | (simp; omega))))))) (ints_lit _ _ _ _ rfl) (by omega)).mono ?_
  rintro e w7 ⟨rfl, b7⟩
  have j7 : Below w6.heap.size w6 w7 := by (repeat (first | exact Below.refl _ _ | refine Below.alloc ?_ (by first | omega | (simp; done) | (simp; omega)) _ | refine Below.drew ?_ | refine Below.setCell ?_ (by first | omega | (simp; done) | (simp; omega)) _ | refine Below.trans ?_ (Below.mono (by assumption) (by first | omega | (simp; done) | (simp; omega)))))
  have t7 : Below w.heap.size w w7 := t6.trans (j7.mono t6.size)
  replace iA := iA.below j7
  replace iB := iB.below j7
  replace tT := tT.below j7
  replace x0 := below_cell j7 x0
  replace x1 := below_cell j7 x1
  replace lT := Nat.lt_of_lt_of_le lT j7.size
  replace lV := Nat.lt_of_lt_of_le lV j7.size
  clear iA
  go_wp2_with fail
  go_at_call 31
  refine (ints_eq aB [3, 4, 5] 3 cB rfl _ _ _ (iB.below (by (repeat (first | exact Below.refl _ _ | refine Below.alloc ?_ (by first | omega | (simp; done) | (simp; omega)) _ | refine Below.drew ?_ | refine Below.setCell ?_ (by first | omega | (simp; done) | (simp; omega)) _ | refine Below.trans ?_ (Below.mono (by assumption) (by first | omega | (simp; done) | (simp; omega))))))) (ints_lit _ _ _ _ rfl) (by omega)).mono ?_
  rintro e w8 ⟨rfl, b8⟩
  have j8 : Below w7.heap.size w7 w8 := by (repeat (first | exact Below.refl _ _ | refine Below.alloc ?_ (by first | omega | (simp; done) | (simp; omega)) _ | refine Below.drew ?_ | refine Below.setCell ?_ (by first | omega | (simp; done) | (simp; omega)) _ | refine Below.trans ?_ (Below.mono (by assumption) (by first | omega | (simp; done) | (simp; omega)))))
  have t8 : Below w.heap.size w w8 := t7.trans (j8.mono t7.size)
  replace iB := iB.below j8
  replace tT := tT.below j8
  replace x0 := below_cell j8 x0
  replace x1 := below_cell j8 x1
  replace lT := Nat.lt_of_lt_of_le lT j8.size
  replace lV := Nat.lt_of_lt_of_le lV j8.size
  clear iB
  go_wp2_with fail
  go_at_call 55
  refine (two_any _).mono ?_
  rintro e w9 ⟨⟨a4, c4, r4, d4, rfl, s4, q4⟩, b9⟩
  have j9 : Below w8.heap.size w8 w9 := by (repeat (first | exact Below.refl _ _ | refine Below.alloc ?_ (by first | omega | (simp; done) | (simp; omega)) _ | refine Below.drew ?_ | refine Below.setCell ?_ (by first | omega | (simp; done) | (simp; omega)) _ | refine Below.trans ?_ (Below.mono (by assumption) (by first | omega | (simp; done) | (simp; omega)))))
  have t9 : Below w.heap.size w w9 := t8.trans (j9.mono t8.size)
  replace tT := tT.below j9
  replace x0 := below_cell j9 x0
  replace x1 := below_cell j9 x1
  replace lT := Nat.lt_of_lt_of_le lT j9.size
  replace lV := Nat.lt_of_lt_of_le lV j9.size
  go_wp2_with fail
  go_at_call 52
  refine (exProve1 a4 c4 r4 d4 _ _ _ _ _ (s4.below (by (repeat (first | exact Below.refl _ _ | refine Below.alloc ?_ (by first | omega | (simp; done) | (simp; omega)) _ | refine Below.drew ?_ | refine Below.setCell ?_ (by first | omega | (simp; done) | (simp; omega)) _ | refine Below.trans ?_ (Below.mono (by assumption) (by first | omega | (simp; done) | (simp; omega))))))) (q4.below (by (repeat (first | exact Below.refl _ _ | refine Below.alloc ?_ (by first | omega | (simp; done) | (simp; omega)) _ | refine Below.drew ?_ | refine Below.setCell ?_ (by first | omega | (simp; done) | (simp; omega)) _ | refine Below.trans ?_ (Below.mono (by assumption) (by first | omega | (simp; done) | (simp; omega))))))) (tT.below (by (repeat (first | exact Below.refl _ _ | refine Below.alloc ?_ (by first | omega | (simp; done) | (simp; omega)) _ | refine Below.drew ?_ | refine Below.setCell ?_ (by first | omega | (simp; done) | (simp; omega)) _ | refine Below.trans ?_ (Below.mono (by assumption) (by first | omega | (simp; done) | (simp; omega))))))) (ents_lit _ _ _ _ rfl)).mono ?_
  rintro e w10 ⟨rfl, b10⟩
  have j10 : Below w9.heap.size w9 w10 := by (repeat (first | exact Below.refl _ _ | refine Below.alloc ?_ (by first | omega | (simp; done) | (simp; omega)) _ | refine Below.drew ?_ | refine Below.setCell ?_ (by first | omega | (simp; done) | (simp; omega)) _ | refine Below.trans ?_ (Below.mono (by assumption) (by first | omega | (simp; done) | (simp; omega)))))
  have t10 : Below w.heap.size w w10 := t9.trans (j10.mono t9.size)
  replace tT := tT.below j10
  replace x0 := below_cell j10 x0
  replace x1 := below_cell j10 x1
  replace lT := Nat.lt_of_lt_of_le lT j10.size
  replace lV := Nat.lt_of_lt_of_le lV j10.size
  replace s4 := s4.below j10
  replace q4 := q4.below j10
  clear s4 q4
  go_wp2_with fail
  go_at_call 55
  refine (two_any _).mono ?_
  rintro e w11 ⟨⟨a5, c5, r5, d5, rfl, s5, q5⟩, b11⟩
  have j11 : Below w10.heap.size w10 w11 := by (repeat (first | exact Below.refl _ _ | refine Below.alloc ?_ (by first | omega | (simp; done) | (simp; omega)) _ | refine Below.drew ?_ | refine Below.setCell ?_ (by first | omega | (simp; done) | (simp; omega)) _ | refine Below.trans ?_ (Below.mono (by assumption) (by first | omega | (simp; done) | (simp; omega)))))
  have t11 : Below w.heap.size w w11 := t10.trans (j11.mono t10.size)
  replace tT := tT.below j11
  replace x0 := below_cell j11 x0
  replace x1 := below_cell j11 x1
  replace lT := Nat.lt_of_lt_of_le lT j11.size
  replace lV := Nat.lt_of_lt_of_le lV j11.size
  go_wp2_with fail
  go_at_call 52
  refine (exProve2 a5 c5 r5 d5 _ _ _ _ _ (s5.below (by (repeat (first | exact Below.refl _ _ | refine Below.alloc ?_ (by first | omega | (simp; done) | (simp; omega)) _ | refine Below.drew ?_ | refine Below.setCell ?_ (by first | omega | (simp; done) | (simp; omega)) _ | refine Below.trans ?_ (Below.mono (by assumption) (by first | omega | (simp; done) | (simp; omega))))))) (q5.below (by (repeat (first | exact Below.refl _ _ | refine Below.alloc ?_ (by first | omega | (simp; done) | (simp; omega)) _ | refine Below.drew ?_ | refine Below.setCell ?_ (by first | omega | (simp; done) | (simp; omega)) _ | refine Below.trans ?_ (Below.mono (by assumption) (by first | omega | (simp; done) | (simp; omega))))))) (tT.below (by (repeat (first | exact Below.refl _ _ | refine Below.alloc ?_ (by first | omega | (simp; done) | (simp; omega)) _ | refine Below.drew ?_ | refine Below.setCell ?_ (by first | omega | (simp; done) | (simp; omega)) _ | refine Below.trans ?_ (Below.mono (by assumption) (by first | omega | (simp; done) | (simp; omega))))))) (ents_lit _ _ _ _ rfl)).mono ?_
  rintro e w12 ⟨rfl, b12⟩
  have j12 : Below w11.heap.size w11 w12 := by (repeat (first | exact Below.refl _ _ | refine Below.alloc ?_ (by first | omega | (simp; done) | (simp; omega)) _ | refine Below.drew ?_ | refine Below.setCell ?_ (by first | omega | (simp; done) | (simp; omega)) _ | refine Below.trans ?_ (Below.mono (by assumption) (by first | omega | (simp; done) | (simp; omega)))))
  have t12 : Below w.heap.size w w12 := t11.trans (j12.mono t11.size)
  replace tT := tT.below j12
  replace x0 := below_cell j12 x0
  replace x1 := below_cell j12 x1
  replace lT := Nat.lt_of_lt_of_le lT j12.size
  replace lV := Nat.lt_of_lt_of_le lV j12.size
  replace s5 := s5.below j12
  replace q5 := q5.below j12
  clear s5 q5
  go_wp2_with fail
  go_at_call 55
  refine (two_any _).mono ?_
  rintro e w13 ⟨⟨a6, c6, r6, d6, rfl, s6, q6⟩, b13⟩
  have j13 : Below w12.heap.size w12 w13 := by (repeat (first | exact Below.refl _ _ | refine Below.alloc ?_ (by first | omega | (simp; done) | (simp; omega)) _ | refine Below.drew ?_ | refine Below.setCell ?_ (by first | omega | (simp; done) | (simp; omega)) _ | refine Below.trans ?_ (Below.mono (by assumption) (by first | omega | (simp; done) | (simp; omega)))))
  have t13 : Below w.heap.size w w13 := t12.trans (j13.mono t12.size)
  replace tT := tT.below j13
  replace x0 := below_cell j13 x0
  replace x1 := below_cell j13 x1
  replace lT := Nat.lt_of_lt_of_le lT j13.size
  replace lV := Nat.lt_of_lt_of_le lV j13.size
  go_wp2_with fail
  go_at_call 52
  refine (exProve3 a6 c6 r6 d6 none 0 none 0 _ s6 q6 (fun k hk => absurd hk (Nat.not_lt_zero k)) (fun k hk => absurd hk (Nat.not_lt_zero k))).mono ?_
  rintro e w14 ⟨rfl, b14⟩
  have j14 : Below w13.heap.size w13 w14 := by (repeat (first | exact Below.refl _ _ | refine Below.alloc ?_ (by first | omega | (simp; done) | (simp; omega)) _ | refine Below.drew ?_ | refine Below.setCell ?_ (by first | omega | (simp; done) | (simp; omega)) _ | refine Below.trans ?_ (Below.mono (by assumption) (by first | omega | (simp; done) | (simp; omega)))))
  have t14 : Below w.heap.size w w14 := t13.trans (j14.mono t13.size)
  replace tT := tT.below j14
  replace x0 := below_cell j14 x0
  replace x1 := below_cell j14 x1
  replace lT := Nat.lt_of_lt_of_le lT j14.size
  replace lV := Nat.lt_of_lt_of_le lV j14.size
  replace s6 := s6.below j14
  replace q6 := q6.below j14
  clear s6 q6
  clear tT x0 x1 lT lV
  go_wp2_with fail
  go_at_call 55
  refine (twoI_any _).mono ?_
  rintro e w15 ⟨⟨S1, R1, L1, M1, G1, rfl, T1⟩, b15⟩
  have j15 : Below w14.heap.size w14 w15 := by (repeat (first | exact Below.refl _ _ | refine Below.alloc ?_ (by first | omega | (simp; done) | (simp; omega)) _ | refine Below.drew ?_ | refine Below.setCell ?_ (by first | omega | (simp; done) | (simp; omega)) _ | refine Below.trans ?_ (Below.mono (by assumption) (by first | omega | (simp; done) | (simp; omega)))))
  have t15 : Below w.heap.size w w15 := t14.trans (j15.mono t14.size)
  have z15 := b15.size
  go_wp2_with fail
  go_at_call 55
  refine (twoI_any _).mono ?_
  rintro e w16 ⟨⟨S2, R2, L2, M2, G2, rfl, T2⟩, b16⟩
  have j16 : Below w15.heap.size w15 w16 := by (repeat (first | exact Below.refl _ _ | refine Below.alloc ?_ (by first | omega | (simp; done) | (simp; omega)) _ | refine Below.drew ?_ | refine Below.setCell ?_ (by first | omega | (simp; done) | (simp; omega)) _ | refine Below.trans ?_ (Below.mono (by assumption) (by first | omega | (simp; done) | (simp; omega)))))
  have t16 : Below w.heap.size w w16 := t15.trans (j16.mono t15.size)
  replace T1 := T1.below j16
  have z16 := b16.size
  go_wp2_with fail
  go_at_call 55
  refine (twoI_any _).mono ?_
  rintro e w17 ⟨⟨S3, R3, L3, M3, G3, rfl, T3⟩, b17⟩
  have j17 : Below w16.heap.size w16 w17 := by (repeat (first | exact Below.refl _ _ | refine Below.alloc ?_ (by first | omega | (simp; done) | (simp; omega)) _ | refine Below.drew ?_ | refine Below.setCell ?_ (by first | omega | (simp; done) | (simp; omega)) _ | refine Below.trans ?_ (Below.mono (by assumption) (by first | omega | (simp; done) | (simp; omega)))))
  have t17 : Below w.heap.size w w17 := t16.trans (j17.mono t16.size)
  replace T1 := T1.below j17
  replace T2 := T2.below j17
  have z17 := b17.size
  go_wp2_with fail
  go_at_call 55
  refine (twoI_any _).mono ?_
  rintro e w18 ⟨⟨S4, R4, L4, M4, G4, rfl, T4⟩, b18⟩
  have j18 : Below w17.heap.size w17 w18 := by (repeat (first | exact Below.refl _ _ | refine Below.alloc ?_ (by first | omega | (simp; done) | (simp; omega)) _ | refine Below.drew ?_ | refine Below.setCell ?_ (by first | omega | (simp; done) | (simp; omega)) _ | refine Below.trans ?_ (Below.mono (by assumption) (by first | omega | (simp; done) | (simp; omega)))))
  have t18 : Below w.heap.size w w18 := t17.trans (j18.mono t17.size)
  replace T1 := T1.below j18
  replace T2 := T2.below j18
  replace T3 := T3.below j18
  have z18 := b18.size
  go_wp2_with fail
  go_at_call 55
  refine (twoI_any _).mono ?_
  rintro e w19 ⟨⟨S5, R5, L5, M5, G5, rfl, T5⟩, b19⟩
  have j19 : Below w18.heap.size w18 w19 := by (repeat (first | exact Below.refl _ _ | refine Below.alloc ?_ (by first | omega | (simp; done) | (simp; omega)) _ | refine Below.drew ?_ | refine Below.setCell ?_ (by first | omega | (simp; done) | (simp; omega)) _ | refine Below.trans ?_ (Below.mono (by assumption) (by first | omega | (simp; done) | (simp; omega)))))
  have t19 : Below w.heap.size w w19 := t18.trans (j19.mono t18.size)
  replace T1 := T1.below j19
  replace T2 := T2.below j19
  replace T3 := T3.below j19
  replace T4 := T4.below j19
  have z19 := b19.size
  go_wp2_with fail
  go_at_call 55
  refine (twoI_any _).mono ?_
  rintro e w20 ⟨⟨S6, R6, L6, M6, G6, rfl, T6⟩, b20⟩
  have j20 : Below w19.heap.size w19 w20 := by (repeat (first | exact Below.refl _ _ | refine Below.alloc ?_ (by first | omega | (simp; done) | (simp; omega)) _ | refine Below.drew ?_ | refine Below.setCell ?_ (by first | omega | (simp; done) | (simp; omega)) _ | refine Below.trans ?_ (Below.mono (by assumption) (by first | omega | (simp; done) | (simp; omega)))))
  have t20 : Below w.heap.size w w20 := t19.trans (j20.mono t19.size)
  replace T1 := T1.below j20
  replace T2 := T2.below j20
  replace T3 := T3.below j20
  replace T4 := T4.below j20
  replace T5 := T5.below j20
  have z20 := b20.size
  obtain ⟨-, lR1, lL1, -, -⟩ := T1.lo5
  obtain ⟨-, hR1, hL1, -, -⟩ := T1.hi5
  obtain ⟨-, lR3, -, -, -⟩ := T3.lo5
  obtain ⟨hS3, hR3, -, hM3, hG3⟩ := T3.hi5
  obtain ⟨-, -, -, -, lG6⟩ := T6.lo5
  obtain ⟨-, -, -, -, hG6⟩ := T6.hi5
  obtain ⟨NR1, NS3, NM3, NG3, N6⟩ : Hid (R1 ≠ L1) ∧ Hid (S3 ≠ R3) ∧ Hid (M3 ≠ R3) ∧ Hid (G3 ≠ R3) ∧ Hid (S6 ≠ G6 ∧ R6 ≠ G6 ∧ L6 ≠ G6 ∧ M6 ≠ G6) := by
    have nd1 := T1.nd
    have nd3 := T3.nd
    have nd6 := T6.nd
    simp only [List.nodup_cons, List.mem_cons, List.not_mem_nil, or_false, not_or, List.nodup_nil, and_true, not_false_eq_true] at nd1 nd3 nd6
    exact ⟨Lib.hid nd1.2.1.1, Lib.hid nd3.1.1, Lib.hid (fun h => nd3.2.1.2.1 h.symm), Lib.hid (fun h => nd3.2.1.2.2 h.symm), Lib.hid ⟨nd6.1.2.2.2, nd6.2.1.2.2, nd6.2.2.1.2, nd6.2.2.2⟩⟩
  have zt := t14.size
  go_upto_region 7 with fail
  obtain ⟨w21, hwq⟩ : ∃ z : World, z = ((((((w20.alloc (.cells #[.slice (some ⟨S1, 0, none⟩) 2 2, .slice (some ⟨R1, 0, none⟩) 2 2, .int .i64 5] 34)).alloc (.cells #[.slice (some ⟨S2, 0, none⟩) 2 2, .slice (some ⟨R2, 0, none⟩) 2 2, .int .i64 5] 34)).alloc (.cells #[.slice (some ⟨S3, 0, none⟩) 2 2, .slice (some ⟨R3, 0, none⟩) 2 2, .int .i64 5] 34)).alloc (.cells #[.slice (some ⟨S4, 0, none⟩) 2 2, .slice (some ⟨R4, 0, none⟩) 2 2, .int .i64 5] 34)).alloc (.cells #[.slice (some ⟨S5, 0, none⟩) 2 2, .slice (some ⟨R5, 0, none⟩) 2 2, .int .i64 5] 34)).alloc (.cells #[.slice (some ⟨S6, 0, none⟩) 2 2, .slice (some ⟨R6, 0, none⟩) 2 2, .int .i64 5] 34)) := ⟨_, rfl⟩
  rw [← hwq]
  have j21 : Below w20.heap.size w20 w21 := by rw [hwq]; (repeat (first | exact Below.refl _ _ | refine Below.alloc ?_ (by first | omega | (simp; done) | (simp; omega)) _ | refine Below.drew ?_ | refine Below.setCell ?_ (by first | omega | (simp; done) | (simp; omega)) _ | refine Below.trans ?_ (Below.mono (by assumption) (by first | omega | (simp; done) | (simp; omega)))))
  have D1 : Cells w21 (w20.heap.size) #[.slice (some ⟨S1, 0, none⟩) 2 2, .slice (some ⟨R1, 0, none⟩) 2 2, .int .i64 5] 34 := by rw [hwq]; exact (((((Cells.new _ _ _).alloc _).alloc _).alloc _).alloc _).alloc _
  have D2 : Cells w21 (w20.heap.size + 1) #[.slice (some ⟨S2, 0, none⟩) 2 2, .slice (some ⟨R2, 0, none⟩) 2 2, .int .i64 5] 34 := by rw [hwq]; exact ((((Cells.new' _ _ _ _ (by simp)).alloc _).alloc _).alloc _).alloc _
  have D3 : Cells w21 (w20.heap.size + 1 + 1) #[.slice (some ⟨S3, 0, none⟩) 2 2, .slice (some ⟨R3, 0, none⟩) 2 2, .int .i64 5] 34 := by rw [hwq]; exact (((Cells.new' _ _ _ _ (by simp)).alloc _).alloc _).alloc _
  have D4 : Cells w21 (w20.heap.size + 1 + 1 + 1) #[.slice (some ⟨S4, 0, none⟩) 2 2, .slice (some ⟨R4, 0, none⟩) 2 2, .int .i64 5] 34 := by rw [hwq]; exact ((Cells.new' _ _ _ _ (by simp)).alloc _).alloc _
  have D5 : Cells w21 (w20.heap.size + 1 + 1 + 1 + 1) #[.slice (some ⟨S5, 0, none⟩) 2 2, .slice (some ⟨R5, 0, none⟩) 2 2, .int .i64 5] 34 := by rw [hwq]; exact (Cells.new' _ _ _ _ (by simp)).alloc _
  have D6 : Cells w21 (w20.heap.size + 1 + 1 + 1 + 1 + 1) #[.slice (some ⟨S6, 0, none⟩) 2 2, .slice (some ⟨R6, 0, none⟩) 2 2, .int .i64 5] 34 := by rw [hwq]; exact Cells.new' _ _ _ _ (by simp)
  clear hwq
  have t21 : Below w.heap.size w w21 := t20.trans (j21.mono t20.size)
  replace T1 := T1.below j21
  replace T2 := T2.below j21
  replace T3 := T3.below j21
  replace T4 := T4.below j21
  replace T5 := T5.below j21
  replace T6 := T6.below j21
  have CR := T1.at_.cr
  have CL := T1.at_.c1
  clear T1
  have d1 := D1.cell 1
  have r0 := CR.cell 0
  have e0 := CL.cell 0
  have e1 := CL.cell 1
  have f0 := CL.frozen 0
  have f1 := CL.frozen 1
  have lc := CL.lt
  have lr := CR.lt
  have ld := D1.lt
  simp at d1 r0 e0 e1
  (refine wp_region_ext 8 (by kernel_rfl) (by kernel_rfl) ?_; simp only [List.take_succ_cons, List.take_zero, List.drop_succ_cons, List.drop_zero]; (repeat (go_big_quiet_step (((go_at_call 47; refine Calls_ext (between_any 6 6 _)))))); refine wpQuiet_nil ?_; rintro _ ⟨ex, rfl⟩; have hex := ex.below; have hexz := ex.size; (try simp at hexz); (try (have hy0 : w.heap.size < ex.to.heap.size := by omega)); (try (have hy1 : w.heap.size + 1 < ex.to.heap.size := by omega)); (try (have hy2 : w.heap.size + 2 < ex.to.heap.size := by omega)))
  have b22 := ex.below
  obtain ⟨w22, hwq⟩ : ∃ x : World, x = ex.to := ⟨_, rfl⟩
  rw [← hwq] at b22 ⊢
  clear hwq
  have j22 := b22
  have t22 : Below w.heap.size w w22 := t21.trans (j22.mono t21.size)
  replace CR := CR.below j22
  replace CL := CL.below j22
  replace D1 := D1.below j22
  replace D2 := D2.below j22
  replace D3 := D3.below j22
  replace D4 := D4.below j22
  replace D5 := D5.below j22
  replace D6 := D6.below j22
  replace T2 := T2.below j22
  replace T3 := T3.below j22
  replace T4 := T4.below j22
  replace T5 := T5.below j22
  replace T6 := T6.below j22
  replace e0 := below_cell j22 e0
  replace e1 := below_cell j22 e1
  replace f0 := CL.frozen 0
  replace f1 := CL.frozen 1
  replace lc := CL.lt
  clear r0 d1 lr ld
  go_upto_region 8 with fail
  obtain ⟨w23, hwq⟩ : ∃ z : World, z = (w22.setCell ⟨L1, 0, none⟩ (.int .i64 6)).setCell ⟨L1, 1, none⟩ (.int .i64 6) := ⟨_, rfl⟩
  rw [← hwq]
  have tr : ∀ {g : Nat} {cs : Array Value} {T : TypeId}, g ≠ L1 → Cells w22 g cs T → Cells w23 g cs T := fun hne h => by rw [hwq]; exact (h.other hne 0 _).other hne 1 _
  have trT : ∀ {lo hi s r l m g : Nat}, (L1 < lo ∨ hi ≤ L1) → TwoIn w22 lo hi s r l m g → TwoIn w23 lo hi s r l m g := fun hx h => by rw [hwq]; exact (h.other hx 0 _).other hx 1 _
  have t23 : Below w.heap.size w w23 := by rw [hwq]; exact (t22.setCell (p := ⟨L1, 0, none⟩) (by show w.heap.size ≤ L1; omega) _).setCell (p := ⟨L1, 1, none⟩) (by show w.heap.size ≤ L1; omega) _
  have CL' : Cells w23 L1 #[.int .i64 6, .int .i64 6, .slice none 0 0] 105 := by rw [hwq]; exact (CL.set 0 _).set 1 _
  clear hwq
  replace CR := tr NR1.out CR
  replace CL := CL'
  clear CL'
  replace D1 := tr (by omega) D1
  replace D2 := tr (by omega) D2
  replace D3 := tr (by omega) D3
  replace D4 := tr (by omega) D4
  replace D5 := tr (by omega) D5
  replace D6 := tr (by omega) D6
  replace T2 := trT (by omega) T2
  replace T3 := trT (by omega) T3
  replace T4 := trT (by omega) T4
  replace T5 := trT (by omega) T5
  replace T6 := trT (by omega) T6
  clear tr trT
  clear e0 e1 f0 f1 lc
  have y0 := D1.cell 0
  have f0 := D1.frozen 0
  have ld23 := D6.lt
  have la := D1.lt
  simp at y0
  go_upto_region 9 with fail
  obtain ⟨w24, hwq⟩ : ∃ z : World, z = (w23.setCell ⟨w20.heap.size, 0, none⟩ (.slice (some ⟨w23.heap.size, 0, none⟩) 1 1)).alloc (.cells #[.int .i64 30] 3) := ⟨_, rfl⟩
  rw [← hwq]
  have tr : ∀ {g : Nat} {cs : Array Value} {T : TypeId}, g ≠ w20.heap.size → Cells w23 g cs T → Cells w24 g cs T := fun hne h => by rw [hwq]; exact (h.other hne 0 _).alloc _
  have trT : ∀ {lo hi s r l m g : Nat}, (w20.heap.size < lo ∨ hi ≤ w20.heap.size) → TwoIn w23 lo hi s r l m g → TwoIn w24 lo hi s r l m g := fun hx h => by rw [hwq]; exact (h.other hx 0 _).below ((Below.refl _ _).alloc (Nat.le_refl _) _)
  have t24 : Below w.heap.size w w24 := by rw [hwq]; exact Below.alloc (t23.setCell (p := ⟨w20.heap.size, 0, none⟩) (by show w.heap.size ≤ w20.heap.size; omega) _) (t23.setCell (p := ⟨w20.heap.size, 0, none⟩) (by show w.heap.size ≤ w20.heap.size; omega) _).size _
  have D1' : Cells w24 (w20.heap.size) #[.slice (some ⟨w23.heap.size, 0, none⟩) 1 1, .slice (some ⟨R1, 0, none⟩) 2 2, .int .i64 5] 34 := by rw [hwq]; exact (D1.set 0 _).alloc _
  have S30' : Cells w24 w23.heap.size #[.int .i64 30] 3 := by rw [hwq]; exact Cells.new' _ _ _ _ (by simp)
  clear hwq
  have S30 := S30'
  clear S30'
  replace CR := tr (by omega) CR
  replace CL := tr (by omega) CL
  replace D1 := D1'
  clear D1'
  replace D2 := tr (by omega) D2
  replace D3 := tr (by omega) D3
  replace D4 := tr (by omega) D4
  replace D5 := tr (by omega) D5
  replace D6 := tr (by omega) D6
  replace T2 := trT (by omega) T2
  replace T3 := trT (by omega) T3
  replace T4 := trT (by omega) T4
  replace T5 := trT (by omega) T5
  replace T6 := trT (by omega) T6
  clear tr trT
  clear y0 f0 la
  have d1 := D1.cell 1
  have lb := D1.lt
  have ldB := D6.lt
  have lc := CR.lt
  simp at d1
  (refine wp_region_seq 14 [] [14, 15, 16] 289 [true, true, true, true, true, true, true, true, true, false, false, false, false, false] [LitV w24.heap.size 1 #[.int .i64 0, .int .i64 30] 68, LegX w24.heap.size, LegsX w24.heap.size, RouX w24.heap.size, RousX w24.heap.size] (by kernel_rfl) (by kernel_rfl) rfl (mono_cons (fun v w w' h hb => h.kept hb) (mono_cons (fun v w w' h hb => h.kept hb) (mono_cons (fun v w w' h hb => h.kept hb) (mono_cons (fun v w w' h hb => h.kept hb) (mono_cons (fun v w w' h hb => h.kept hb) mono_nil))))) ?_; simp only [pickOps, List.filterMap_cons, List.filterMap_nil, List.getElem?_toArray, List.getElem?_cons_succ, List.getElem?_cons_zero]; (repeat (refine wpFl_step _ rfl (fun w => (by go_simp; rfl)) ?_)); refine wpFl_nil ?_; simp only [maskOps, dummy, Act.put, List.setIfInBounds_toArray, List.set_cons_zero, List.set_cons_succ, List.take_succ_cons, List.take_zero, List.drop_succ_cons, List.drop_zero]; (repeat (refine wpQB_step (fun K hK => ?_); go_simp; first | (refine hK _ ?_; clear hK K) | (apply Exists.intro; refine ⟨fun ex => ?_, hK _ ?_⟩; ((go_at_call 47; exact between_any _ _ _)); clear hK K))); refine wpQB_nil ?_; simp only [relObl2, under, relEnd, and_true, List.nil_append, List.cons_append])
  refine ⟨⟨fun e => ?_, fun e v1 h1 => ?_, fun e v1 h1 v2 h2 => ?_, fun e v1 h1 v2 h2 v3 h3 => ?_, fun e v1 h1 v2 h2 v3 h3 v4 h4 => ?_⟩, fun e => ?_⟩
  · go_simp
    exact ⟨(Below.refl _ _).alloc (Nat.le_refl _) _, e.to.heap.size, rfl, e.size, Cells.new _ _ _⟩
  · obtain ⟨g, rfl, hg, cg⟩ := h1 (by kernel_rfl)
    go_simp
    exact ⟨Below.refl _ _, g, rfl, hg, cg⟩
  · obtain ⟨g, rfl, hg, cg⟩ := h2 (by kernel_rfl)
    go_simp
    exact ⟨(Below.refl _ _).alloc (Nat.le_refl _) _, e.to.heap.size, g, rfl, ⟨e.size, hg, Cells.new _ _ _, cg.alloc _⟩⟩
  · obtain ⟨m, g, rfl, hc⟩ := h3 (by kernel_rfl)
    go_simp
    exact ⟨Below.refl _ _, m, g, rfl, hc⟩
  · obtain ⟨m, g, rfl, hc⟩ := h4 (by kernel_rfl)
    go_simp
    exact ⟨(Below.refl _ _).alloc (Nat.le_refl _) _, e.to.heap.size, m, g, rfl, e.size, Cells.new _ _ _, hc.below ((Below.refl _ _).alloc (Nat.le_refl _) _)⟩
  rintro v1 - v2 - v3 - v4 - v5 ⟨q9, m9, g9, rfl, hq9, cq9, hm9, hg9, C9M, C9G⟩
  simp only [Act.put, List.setIfInBounds_toArray, List.set_cons_zero, List.set_cons_succ]
  have j25 := e.below
  obtain ⟨w25, hwq⟩ : ∃ x : World, x = e.to := ⟨_, rfl⟩
  rw [← hwq] at j25 cq9 C9M C9G ⊢
  clear hwq e d1 lc
  have t25 : Below w.heap.size w w25 := t24.trans (j25.mono t24.size)
  replace CR := CR.below j25
  replace CL := CL.below j25
  replace D1 := D1.below j25
  replace D2 := D2.below j25
  replace D3 := D3.below j25
  replace D4 := D4.below j25
  replace D5 := D5.below j25
  replace D6 := D6.below j25
  replace S30 := S30.below j25
  replace T2 := T2.below j25
  replace T3 := T3.below j25
  replace T4 := T4.below j25
  replace T5 := T5.below j25
  replace T6 := T6.below j25
  refine wpList_room el_croutes rfl _ _ rfl R1 0 1 2 rfl ⟨q9, 0, none⟩ 1 1 [.slice (some ⟨m9, 0, none⟩) 3 3, .bool false] rfl rfl (fun j u hu => by rw [addr_add, Nat.zero_add, cq9.cell]; simpa using hu) (fun u hu => by simp at hu; rcases hu with rfl | rfl <;> rfl) (by omega) (fun j hj => by
    have hj2 : j = 0 ∨ j = 1 := by simp at hj; omega
    rw [CR.cell]
    rcases hj2 with rfl | rfl <;> rfl) (fun j _ => CR.frozen _) ?_
  obtain ⟨w26, hwq⟩ : ∃ z : World, z = w25.setCells R1 (0 + 1 * 2) [.slice (some ⟨m9, 0, none⟩) 3 3, .bool false] := ⟨_, rfl⟩
  rw [← hwq]
  have tr : ∀ {g : Nat} {cs : Array Value} {T : TypeId}, g ≠ R1 → Cells w25 g cs T → Cells w26 g cs T := fun hne h => by rw [hwq]; exact (h.other hne 2 _).other hne 3 _
  have trT : ∀ {lo hi s r l m g : Nat}, (R1 < lo ∨ hi ≤ R1) → TwoIn w25 lo hi s r l m g → TwoIn w26 lo hi s r l m g := fun hx h => by rw [hwq]; exact (h.other hx 2 _).other hx 3 _
  have t26 : Below w.heap.size w w26 := by rw [hwq]; exact (t25.setCell (p := ⟨R1, 2, none⟩) (by show w.heap.size ≤ R1; omega) _).setCell (p := ⟨R1, 3, none⟩) (by show w.heap.size ≤ R1; omega) _
  have CR' : Cells w26 R1 #[.slice (some ⟨L1, 0, none⟩) 1 1, .bool true, .slice (some ⟨m9, 0, none⟩) 3 3, .bool false] 108 := by rw [hwq]; exact (CR.set 2 _).set 3 _
  clear hwq
  replace CR := CR'
  clear CR'
  replace CL := tr NR1.out.symm CL
  replace D1 := tr (by omega) D1
  replace D2 := tr (by omega) D2
  replace D3 := tr (by omega) D3
  replace D4 := tr (by omega) D4
  replace D5 := tr (by omega) D5
  replace D6 := tr (by omega) D6
  replace S30 := tr (by omega) S30
  replace C9M := tr (by omega) C9M
  replace C9G := tr (by omega) C9G
  replace T2 := trT (by omega) T2
  replace T3 := trT (by omega) T3
  replace T4 := trT (by omega) T4
  replace T5 := trT (by omega) T5
  replace T6 := trT (by omega) T6
  clear tr trT
  clear cq9
  have y0 := D1.cell 1
  have f0 := D1.frozen 1
  have lc := D1.lt
  simp at y0
  go_upto_region 10 with fail
  obtain ⟨w27, hwq⟩ : ∃ z : World, z = w26.setCell ⟨w20.heap.size, 1, none⟩ (.slice (some ⟨R1, 0, none⟩) 2 2) := ⟨_, rfl⟩
  rw [← hwq]
  have tr : ∀ {g : Nat} {cs : Array Value} {T : TypeId}, g ≠ w20.heap.size → Cells w26 g cs T → Cells w27 g cs T := fun hne h => by rw [hwq]; exact h.other hne 1 _
  have trT : ∀ {lo hi s r l m g : Nat}, (w20.heap.size < lo ∨ hi ≤ w20.heap.size) → TwoIn w26 lo hi s r l m g → TwoIn w27 lo hi s r l m g := fun hx h => by rw [hwq]; exact h.other hx 1 _
  have t27 : Below w.heap.size w w27 := by rw [hwq]; exact t26.setCell (p := ⟨w20.heap.size, 1, none⟩) (by show w.heap.size ≤ w20.heap.size; omega) _
  have D1' : Cells w27 (w20.heap.size) #[.slice (some ⟨w23.heap.size, 0, none⟩) 1 1, .slice (some ⟨R1, 0, none⟩) 2 2, .int .i64 5] 34 := by rw [hwq]; exact D1.set 1 _
  clear hwq
  replace CR := tr (by omega) CR
  replace CL := tr (by omega) CL
  replace D1 := D1'
  clear D1'
  replace D2 := tr (by omega) D2
  replace D3 := tr (by omega) D3
  replace D4 := tr (by omega) D4
  replace D5 := tr (by omega) D5
  replace D6 := tr (by omega) D6
  replace S30 := tr (by omega) S30
  replace C9M := tr (by omega) C9M
  replace C9G := tr (by omega) C9G
  replace T2 := trT (by omega) T2
  replace T3 := trT (by omega) T3
  replace T4 := trT (by omega) T4
  replace T5 := trT (by omega) T5
  replace T6 := trT (by omega) T6
  clear tr trT
  clear y0 f0 lc

  have y0 := D2.cell 0
  have f0 := D2.frozen 0
  have ld27 := D6.lt
  have la := D2.lt
  simp at y0
  go_upto_region 11 with fail
  obtain ⟨w28, hwq⟩ : ∃ z : World, z = (w27.setCell ⟨w20.heap.size + 1, 0, none⟩ (.slice (some ⟨w27.heap.size, 0, none⟩) 5 5)).alloc (.cells #[.int .i64 1, .int .i64 2, .int .i64 3, .int .i64 4, .int .i64 5] 3) := ⟨_, rfl⟩
  rw [← hwq]
  have tr : ∀ {g : Nat} {cs : Array Value} {T : TypeId}, g ≠ w20.heap.size + 1 → Cells w27 g cs T → Cells w28 g cs T := fun hne h => by rw [hwq]; exact (h.other hne 0 _).alloc _
  have trT : ∀ {lo hi s r l m g : Nat}, (w20.heap.size + 1 < lo ∨ hi ≤ w20.heap.size + 1) → TwoIn w27 lo hi s r l m g → TwoIn w28 lo hi s r l m g := fun hx h => by rw [hwq]; exact (h.other hx 0 _).below ((Below.refl _ _).alloc (Nat.le_refl _) _)
  have t28 : Below w.heap.size w w28 := by rw [hwq]; exact Below.alloc (t27.setCell (p := ⟨w20.heap.size + 1, 0, none⟩) (by show w.heap.size ≤ w20.heap.size + 1; omega) _) (t27.setCell (p := ⟨w20.heap.size + 1, 0, none⟩) (by show w.heap.size ≤ w20.heap.size + 1; omega) _).size _
  have D2' : Cells w28 (w20.heap.size + 1) #[.slice (some ⟨w27.heap.size, 0, none⟩) 5 5, .slice (some ⟨R2, 0, none⟩) 2 2, .int .i64 5] 34 := by rw [hwq]; exact (D2.set 0 _).alloc _
  have SM' : Cells w28 w27.heap.size #[.int .i64 1, .int .i64 2, .int .i64 3, .int .i64 4, .int .i64 5] 3 := by rw [hwq]; exact Cells.new' _ _ _ _ (by simp)
  clear hwq
  have SM := SM'
  clear SM'
  replace CR := tr (by omega) CR
  replace CL := tr (by omega) CL
  replace D1 := tr (by omega) D1
  replace D2 := D2'
  clear D2'
  replace D3 := tr (by omega) D3
  replace D4 := tr (by omega) D4
  replace D5 := tr (by omega) D5
  replace D6 := tr (by omega) D6
  replace S30 := tr (by omega) S30
  replace C9M := tr (by omega) C9M
  replace C9G := tr (by omega) C9G
  replace T2 := trT (by omega) T2
  replace T3 := trT (by omega) T3
  replace T4 := trT (by omega) T4
  replace T5 := trT (by omega) T5
  replace T6 := trT (by omega) T6
  clear tr trT
  clear y0 f0 la
  have C3S := T3.at_.cs
  have C3R := T3.at_.cr
  have C3M := T3.at_.c2
  have C3G := T3.at_.cg
  clear T3
  have d1 := D3.cell 1
  have y0 := C3R.cell 0
  have f0 := C3R.frozen 0
  have lc := C3R.lt
  have lb3 := D3.lt
  simp at d1 y0
  go_upto_region 12 with fail
  obtain ⟨w29, hwq⟩ : ∃ z : World, z = w28.setCell ⟨R3, 0, none⟩ (.slice none 0 0) := ⟨_, rfl⟩
  rw [← hwq]
  have tr : ∀ {g : Nat} {cs : Array Value} {T : TypeId}, g ≠ R3 → Cells w28 g cs T → Cells w29 g cs T := fun hne h => by rw [hwq]; exact h.other hne 0 _
  have trT : ∀ {lo hi s r l m g : Nat}, (R3 < lo ∨ hi ≤ R3) → TwoIn w28 lo hi s r l m g → TwoIn w29 lo hi s r l m g := fun hx h => by rw [hwq]; exact h.other hx 0 _
  have t29 : Below w.heap.size w w29 := by rw [hwq]; exact t28.setCell (p := ⟨R3, 0, none⟩) (by show w.heap.size ≤ R3; omega) _
  have C3R' : Cells w29 R3 #[.slice none 0 0, .bool true, .slice (some ⟨M3, 0, none⟩) 2 2, .bool false] 108 := by rw [hwq]; exact C3R.set 0 _
  clear hwq
  replace CR := tr (by omega) CR
  replace CL := tr (by omega) CL
  replace D1 := tr (by omega) D1
  replace D2 := tr (by omega) D2
  replace D3 := tr (by omega) D3
  replace D4 := tr (by omega) D4
  replace D5 := tr (by omega) D5
  replace D6 := tr (by omega) D6
  replace S30 := tr (by omega) S30
  replace C9M := tr (by omega) C9M
  replace C9G := tr (by omega) C9G
  replace SM := tr (by omega) SM
  replace C3S := tr NS3.out C3S
  replace C3R := C3R'
  clear C3R'
  replace C3M := tr NM3.out C3M
  replace C3G := tr NG3.out C3G
  replace T2 := trT (by omega) T2
  replace T4 := trT (by omega) T4
  replace T5 := trT (by omega) T5
  replace T6 := trT (by omega) T6
  clear tr trT
  clear d1 y0 f0 lc lb3
  have y0 := D4.cell 0
  have f0 := D4.frozen 0
  have ld29 := D6.lt
  have la := D4.lt
  simp at y0
  go_upto_region 13 with fail
  obtain ⟨w30, hwq⟩ : ∃ z : World, z = (w29.setCell ⟨w20.heap.size + 1 + 1 + 1, 0, none⟩ (.slice (some ⟨w29.heap.size, 0, none⟩) 2 2)).alloc (.cells #[.int .i64 2, .int .i64 2] 3) := ⟨_, rfl⟩
  rw [← hwq]
  have tr : ∀ {g : Nat} {cs : Array Value} {T : TypeId}, g ≠ w20.heap.size + 1 + 1 + 1 → Cells w29 g cs T → Cells w30 g cs T := fun hne h => by rw [hwq]; exact (h.other hne 0 _).alloc _
  have trT : ∀ {lo hi s r l m g : Nat}, (w20.heap.size + 1 + 1 + 1 < lo ∨ hi ≤ w20.heap.size + 1 + 1 + 1) → TwoIn w29 lo hi s r l m g → TwoIn w30 lo hi s r l m g := fun hx h => by rw [hwq]; exact (h.other hx 0 _).below ((Below.refl _ _).alloc (Nat.le_refl _) _)
  have t30 : Below w.heap.size w w30 := by rw [hwq]; exact Below.alloc (t29.setCell (p := ⟨w20.heap.size + 1 + 1 + 1, 0, none⟩) (by show w.heap.size ≤ w20.heap.size + 1 + 1 + 1; omega) _) (t29.setCell (p := ⟨w20.heap.size + 1 + 1 + 1, 0, none⟩) (by show w.heap.size ≤ w20.heap.size + 1 + 1 + 1; omega) _).size _
  have D4' : Cells w30 (w20.heap.size + 1 + 1 + 1) #[.slice (some ⟨w29.heap.size, 0, none⟩) 2 2, .slice (some ⟨R4, 0, none⟩) 2 2, .int .i64 5] 34 := by rw [hwq]; exact (D4.set 0 _).alloc _
  have SD' : Cells w30 w29.heap.size #[.int .i64 2, .int .i64 2] 3 := by rw [hwq]; exact Cells.new' _ _ _ _ (by simp)
  clear hwq
  have SD := SD'
  clear SD'
  replace CR := tr (by omega) CR
  replace CL := tr (by omega) CL
  replace D1 := tr (by omega) D1
  replace D2 := tr (by omega) D2
  replace D3 := tr (by omega) D3
  replace D4 := D4'
  clear D4'
  replace D5 := tr (by omega) D5
  replace D6 := tr (by omega) D6
  replace S30 := tr (by omega) S30
  replace C9M := tr (by omega) C9M
  replace C9G := tr (by omega) C9G
  replace SM := tr (by omega) SM
  replace C3S := tr (by omega) C3S
  replace C3R := tr (by omega) C3R
  replace C3M := tr (by omega) C3M
  replace C3G := tr (by omega) C3G
  replace T2 := trT (by omega) T2
  replace T4 := trT (by omega) T4
  replace T5 := trT (by omega) T5
  replace T6 := trT (by omega) T6
  clear tr trT
  clear y0 f0 la
  have y0 := D5.cell 2
  have f0 := D5.frozen 2
  have lc := D5.lt
  simp at y0
  go_upto_region 14 with fail
  obtain ⟨w31, hwq⟩ : ∃ z : World, z = w30.setCell ⟨w20.heap.size + 1 + 1 + 1 + 1, 2, none⟩ (.int .i64 31) := ⟨_, rfl⟩
  rw [← hwq]
  have tr : ∀ {g : Nat} {cs : Array Value} {T : TypeId}, g ≠ w20.heap.size + 1 + 1 + 1 + 1 → Cells w30 g cs T → Cells w31 g cs T := fun hne h => by rw [hwq]; exact h.other hne 2 _
  have trT : ∀ {lo hi s r l m g : Nat}, (w20.heap.size + 1 + 1 + 1 + 1 < lo ∨ hi ≤ w20.heap.size + 1 + 1 + 1 + 1) → TwoIn w30 lo hi s r l m g → TwoIn w31 lo hi s r l m g := fun hx h => by rw [hwq]; exact h.other hx 2 _
  have t31 : Below w.heap.size w w31 := by rw [hwq]; exact t30.setCell (p := ⟨w20.heap.size + 1 + 1 + 1 + 1, 2, none⟩) (by show w.heap.size ≤ w20.heap.size + 1 + 1 + 1 + 1; omega) _
  have D5' : Cells w31 (w20.heap.size + 1 + 1 + 1 + 1) #[.slice (some ⟨S5, 0, none⟩) 2 2, .slice (some ⟨R5, 0, none⟩) 2 2, .int .i64 31] 34 := by rw [hwq]; exact D5.set 2 _
  clear hwq
  replace CR := tr (by omega) CR
  replace CL := tr (by omega) CL
  replace D1 := tr (by omega) D1
  replace D2 := tr (by omega) D2
  replace D3 := tr (by omega) D3
  replace D4 := tr (by omega) D4
  replace D5 := D5'
  clear D5'
  replace D6 := tr (by omega) D6
  replace S30 := tr (by omega) S30
  replace C9M := tr (by omega) C9M
  replace C9G := tr (by omega) C9G
  replace SM := tr (by omega) SM
  replace C3S := tr (by omega) C3S
  replace C3R := tr (by omega) C3R
  replace C3M := tr (by omega) C3M
  replace C3G := tr (by omega) C3G
  replace SD := tr (by omega) SD
  replace T2 := trT (by omega) T2
  replace T4 := trT (by omega) T4
  replace T5 := trT (by omega) T5
  replace T6 := trT (by omega) T6
  clear tr trT
  clear y0 f0 lc
  have C6S := T6.at_.cs
  have C6R := T6.at_.cr
  have C6L := T6.at_.c1
  have C6M := T6.at_.c2
  have C6G := T6.at_.cg
  clear T6
  have d1 := D6.cell 1
  have d2 := C6R.cell 2
  have d3 := C6M.cell 2
  have y0 := C6G.cell 1
  have f0 := C6G.frozen 1
  have lc := C6G.lt
  have l1 := D6.lt
  have l2 := C6R.lt
  have l3 := C6M.lt
  simp at d1 d2 d3 y0
  go_upto_region 15 with fail
  obtain ⟨w32, hwq⟩ : ∃ z : World, z = w31.setCell ⟨G6, 1, none⟩ (.int .i64 31) := ⟨_, rfl⟩
  rw [← hwq]
  have tr : ∀ {g : Nat} {cs : Array Value} {T : TypeId}, g ≠ G6 → Cells w31 g cs T → Cells w32 g cs T := fun hne h => by rw [hwq]; exact h.other hne 1 _
  have trT : ∀ {lo hi s r l m g : Nat}, (G6 < lo ∨ hi ≤ G6) → TwoIn w31 lo hi s r l m g → TwoIn w32 lo hi s r l m g := fun hx h => by rw [hwq]; exact h.other hx 1 _
  have t32 : Below w.heap.size w w32 := by rw [hwq]; exact t31.setCell (p := ⟨G6, 1, none⟩) (by show w.heap.size ≤ G6; omega) _
  have C6G' : Cells w32 G6 #[.int .i64 1, .int .i64 31] 68 := by rw [hwq]; exact C6G.set 1 _
  clear hwq
  replace CR := tr (by omega) CR
  replace CL := tr (by omega) CL
  replace D1 := tr (by omega) D1
  replace D2 := tr (by omega) D2
  replace D3 := tr (by omega) D3
  replace D4 := tr (by omega) D4
  replace D5 := tr (by omega) D5
  replace D6 := tr (by omega) D6
  replace S30 := tr (by omega) S30
  replace C9M := tr (by omega) C9M
  replace C9G := tr (by omega) C9G
  replace SM := tr (by omega) SM
  replace C3S := tr (by omega) C3S
  replace C3R := tr (by omega) C3R
  replace C3M := tr (by omega) C3M
  replace C3G := tr (by omega) C3G
  replace SD := tr (by omega) SD
  replace C6S := tr N6.out.1 C6S
  replace C6R := tr N6.out.2.1 C6R
  replace C6L := tr N6.out.2.2.1 C6L
  replace C6M := tr N6.out.2.2.2 C6M
  replace C6G := C6G'
  clear C6G'
  replace T2 := trT (by omega) T2
  replace T4 := trT (by omega) T4
  replace T5 := trT (by omega) T5
  clear tr trT
  clear d1 d2 d3 y0 f0 lc l1 l2 l3
  have i1 := S30.ints slowP.sends rfl
  have o1 := slow_routes CR CL C9M C9G
  have i2 := SM.ints manyP.sends rfl
  have o2 : RoutesAt _ _ manyP.routes := T2.at_.routes
  have i3 := C3S.ints legsP.sends rfl
  have o3 := legs_routes C3R (legs2C C3M C3G)
  have i4 := SD.ints sameP.sends rfl
  have o4 : RoutesAt _ _ sameP.routes := T4.at_.routes
  have i5 : IntsAt _ _ lateP.sends := T5.at_.sends
  have o5 : RoutesAt _ _ lateP.routes := T5.at_.routes
  have i6 := C6S.ints earlyP.sends rfl
  have o6 := early_routes C6R C6L C6M C6G
  clear CR CL S30 C9M C9G SM C3S C3R C3M C3G SD C6S C6R C6L C6M C6G T2 T4 T5

  have y0 := D1.cell 0
  have y1 := D1.cell 1
  have y2 := D1.cell 2
  have lc := D1.lt
  simp at y0 y1 y2
  go_wp2_with fail
  go_at_call 34
  refine (exLeastS _ _ _ _ _ i1 o1).mono ?_
  rintro e w33 ⟨rfl, b33⟩
  have j33 : Below w32.heap.size w32 w33 := by (repeat (first | exact Below.refl _ _ | refine Below.alloc ?_ (by first | omega | (simp; done) | (simp; omega)) _ | refine Below.drew ?_ | refine Below.setCell ?_ (by first | omega | (simp; done) | (simp; omega)) _ | refine Below.trans ?_ (Below.mono (by assumption) (by first | omega | (simp; done) | (simp; omega)))))
  have t33 : Below w.heap.size w w33 := t32.trans (j33.mono t32.size)
  replace D1 := D1.below j33
  replace i1 := i1.below j33
  replace o1 := o1.below j33
  replace D2 := D2.below j33
  replace i2 := i2.below j33
  replace o2 := o2.below j33
  replace D3 := D3.below j33
  replace i3 := i3.below j33
  replace o3 := o3.below j33
  replace D4 := D4.below j33
  replace i4 := i4.below j33
  replace o4 := o4.below j33
  replace D5 := D5.below j33
  replace i5 := i5.below j33
  replace o5 := o5.below j33
  replace D6 := D6.below j33
  replace i6 := i6.below j33
  replace o6 := o6.below j33
  clear D1 i1 o1
  clear y0 y1 y2 lc
  go_wp2_with fail
  go_at_call 55
  refine (twoI_any _).mono ?_
  rintro e w34 ⟨⟨S7, R7, L7, M7, G7, rfl, T7⟩, b34⟩
  have j34 : Below w33.heap.size w33 w34 := by (repeat (first | exact Below.refl _ _ | refine Below.alloc ?_ (by first | omega | (simp; done) | (simp; omega)) _ | refine Below.drew ?_ | refine Below.setCell ?_ (by first | omega | (simp; done) | (simp; omega)) _ | refine Below.trans ?_ (Below.mono (by assumption) (by first | omega | (simp; done) | (simp; omega)))))
  have t34 : Below w.heap.size w w34 := t33.trans (j34.mono t33.size)
  replace D2 := D2.below j34
  replace i2 := i2.below j34
  replace o2 := o2.below j34
  replace D3 := D3.below j34
  replace i3 := i3.below j34
  replace o3 := o3.below j34
  replace D4 := D4.below j34
  replace i4 := i4.below j34
  replace o4 := o4.below j34
  replace D5 := D5.below j34
  replace i5 := i5.below j34
  replace o5 := o5.below j34
  replace D6 := D6.below j34
  replace i6 := i6.below j34
  replace o6 := o6.below j34
  have i7 : IntsAt _ _ lostP.sends := T7.at_.sends
  have o7 := lost_routes T7.at_
  clear T7
  go_upto_region 18 with fail
  obtain ⟨w35, hwq⟩ : ∃ z : World, z = w34.alloc (.cells #[.slice (some ⟨S7, 0, none⟩) 2 2, .slice (some ⟨R7, 0, none⟩) 1 2, .int .i64 5] 34) := ⟨_, rfl⟩
  rw [← hwq]
  have b35 : Below w34.heap.size w34 w35 := by rw [hwq]; (repeat (first | exact Below.refl _ _ | refine Below.alloc ?_ (by first | omega | (simp; done) | (simp; omega)) _ | refine Below.drew ?_ | refine Below.setCell ?_ (by first | omega | (simp; done) | (simp; omega)) _ | refine Below.trans ?_ (Below.mono (by assumption) (by first | omega | (simp; done) | (simp; omega)))))
  have D7 : Cells w35 w34.heap.size #[.slice (some ⟨S7, 0, none⟩) 2 2, .slice (some ⟨R7, 0, none⟩) 1 2, .int .i64 5] 34 := by rw [hwq]; exact Cells.new _ _ _
  clear hwq
  have j35 : Below w34.heap.size w34 w35 := by (repeat (first | exact Below.refl _ _ | refine Below.alloc ?_ (by first | omega | (simp; done) | (simp; omega)) _ | refine Below.drew ?_ | refine Below.setCell ?_ (by first | omega | (simp; done) | (simp; omega)) _ | refine Below.trans ?_ (Below.mono (by assumption) (by first | omega | (simp; done) | (simp; omega)))))
  have t35 : Below w.heap.size w w35 := t34.trans (j35.mono t34.size)
  replace D2 := D2.below j35
  replace i2 := i2.below j35
  replace o2 := o2.below j35
  replace D3 := D3.below j35
  replace i3 := i3.below j35
  replace o3 := o3.below j35
  replace D4 := D4.below j35
  replace i4 := i4.below j35
  replace o4 := o4.below j35
  replace D5 := D5.below j35
  replace i5 := i5.below j35
  replace o5 := o5.below j35
  replace D6 := D6.below j35
  replace i6 := i6.below j35
  replace o6 := o6.below j35
  replace i7 := i7.below j35
  replace o7 := o7.below j35
  have y0 := D7.cell 0
  have y1 := D7.cell 1
  have y2 := D7.cell 2
  have lc := D7.lt
  simp at y0 y1 y2
  clear D7
  go_wp2_with fail
  go_at_call 34
  refine (exLeastL _ _ _ _ _ i7 o7).mono ?_
  rintro e w36 ⟨rfl, b36⟩
  have j36 : Below w35.heap.size w35 w36 := by (repeat (first | exact Below.refl _ _ | refine Below.alloc ?_ (by first | omega | (simp; done) | (simp; omega)) _ | refine Below.drew ?_ | refine Below.setCell ?_ (by first | omega | (simp; done) | (simp; omega)) _ | refine Below.trans ?_ (Below.mono (by assumption) (by first | omega | (simp; done) | (simp; omega)))))
  have t36 : Below w.heap.size w w36 := t35.trans (j36.mono t35.size)
  replace D2 := D2.below j36
  replace i2 := i2.below j36
  replace o2 := o2.below j36
  replace D3 := D3.below j36
  replace i3 := i3.below j36
  replace o3 := o3.below j36
  replace D4 := D4.below j36
  replace i4 := i4.below j36
  replace o4 := o4.below j36
  replace D5 := D5.below j36
  replace i5 := i5.below j36
  replace o5 := o5.below j36
  replace D6 := D6.below j36
  replace i6 := i6.below j36
  replace o6 := o6.below j36
  replace i7 := i7.below j36
  replace o7 := o7.below j36
  clear i7 o7
  clear y0 y1 y2 lc
  go_wp2_with fail
  go_at_call 55
  refine (two_any _).mono ?_
  rintro e w37 ⟨⟨a8, c8, r8, d8, rfl, s8, q8⟩, b37⟩
  have j37 : Below w36.heap.size w36 w37 := by (repeat (first | exact Below.refl _ _ | refine Below.alloc ?_ (by first | omega | (simp; done) | (simp; omega)) _ | refine Below.drew ?_ | refine Below.setCell ?_ (by first | omega | (simp; done) | (simp; omega)) _ | refine Below.trans ?_ (Below.mono (by assumption) (by first | omega | (simp; done) | (simp; omega)))))
  have t37 : Below w.heap.size w w37 := t36.trans (j37.mono t36.size)
  replace D2 := D2.below j37
  replace i2 := i2.below j37
  replace o2 := o2.below j37
  replace D3 := D3.below j37
  replace i3 := i3.below j37
  replace o3 := o3.below j37
  replace D4 := D4.below j37
  replace i4 := i4.below j37
  replace o4 := o4.below j37
  replace D5 := D5.below j37
  replace i5 := i5.below j37
  replace o5 := o5.below j37
  replace D6 := D6.below j37
  replace i6 := i6.below j37
  replace o6 := o6.below j37
  go_wp2_with fail
  go_at_call 22
  refine (exPlay1 a8 c8 r8 d8 _ _ _ (s8.below (by (repeat (first | exact Below.refl _ _ | refine Below.alloc ?_ (by first | omega | (simp; done) | (simp; omega)) _ | refine Below.drew ?_ | refine Below.setCell ?_ (by first | omega | (simp; done) | (simp; omega)) _ | refine Below.trans ?_ (Below.mono (by assumption) (by first | omega | (simp; done) | (simp; omega))))))) (q8.below (by (repeat (first | exact Below.refl _ _ | refine Below.alloc ?_ (by first | omega | (simp; done) | (simp; omega)) _ | refine Below.drew ?_ | refine Below.setCell ?_ (by first | omega | (simp; done) | (simp; omega)) _ | refine Below.trans ?_ (Below.mono (by assumption) (by first | omega | (simp; done) | (simp; omega))))))) (t1_lit _ _ _ _)).mono ?_
  rintro e w38 ⟨⟨e8, f8, rfl⟩, b38⟩
  have j38 : Below w37.heap.size w37 w38 := by (repeat (first | exact Below.refl _ _ | refine Below.alloc ?_ (by first | omega | (simp; done) | (simp; omega)) _ | refine Below.drew ?_ | refine Below.setCell ?_ (by first | omega | (simp; done) | (simp; omega)) _ | refine Below.trans ?_ (Below.mono (by assumption) (by first | omega | (simp; done) | (simp; omega)))))
  have t38 : Below w.heap.size w w38 := t37.trans (j38.mono t37.size)
  replace D2 := D2.below j38
  replace i2 := i2.below j38
  replace o2 := o2.below j38
  replace D3 := D3.below j38
  replace i3 := i3.below j38
  replace o3 := o3.below j38
  replace D4 := D4.below j38
  replace i4 := i4.below j38
  replace o4 := o4.below j38
  replace D5 := D5.below j38
  replace i5 := i5.below j38
  replace o5 := o5.below j38
  replace D6 := D6.below j38
  replace i6 := i6.below j38
  replace o6 := o6.below j38
  replace s8 := s8.below j38
  replace q8 := q8.below j38
  clear s8 q8
  go_wp2_with fail
  go_at_call 55
  refine (two_any _).mono ?_
  rintro e w39 ⟨⟨a9, c9, r9, d9, rfl, s9, q9⟩, b39⟩
  have j39 : Below w38.heap.size w38 w39 := by (repeat (first | exact Below.refl _ _ | refine Below.alloc ?_ (by first | omega | (simp; done) | (simp; omega)) _ | refine Below.drew ?_ | refine Below.setCell ?_ (by first | omega | (simp; done) | (simp; omega)) _ | refine Below.trans ?_ (Below.mono (by assumption) (by first | omega | (simp; done) | (simp; omega)))))
  have t39 : Below w.heap.size w w39 := t38.trans (j39.mono t38.size)
  replace D2 := D2.below j39
  replace i2 := i2.below j39
  replace o2 := o2.below j39
  replace D3 := D3.below j39
  replace i3 := i3.below j39
  replace o3 := o3.below j39
  replace D4 := D4.below j39
  replace i4 := i4.below j39
  replace o4 := o4.below j39
  replace D5 := D5.below j39
  replace i5 := i5.below j39
  replace o5 := o5.below j39
  replace D6 := D6.below j39
  replace i6 := i6.below j39
  replace o6 := o6.below j39
  go_wp2_with fail
  go_at_call 22
  refine (exPlay2 a9 c9 r9 d9 _ _ _ (s9.below (by (repeat (first | exact Below.refl _ _ | refine Below.alloc ?_ (by first | omega | (simp; done) | (simp; omega)) _ | refine Below.drew ?_ | refine Below.setCell ?_ (by first | omega | (simp; done) | (simp; omega)) _ | refine Below.trans ?_ (Below.mono (by assumption) (by first | omega | (simp; done) | (simp; omega))))))) (q9.below (by (repeat (first | exact Below.refl _ _ | refine Below.alloc ?_ (by first | omega | (simp; done) | (simp; omega)) _ | refine Below.drew ?_ | refine Below.setCell ?_ (by first | omega | (simp; done) | (simp; omega)) _ | refine Below.trans ?_ (Below.mono (by assumption) (by first | omega | (simp; done) | (simp; omega))))))) (t2_lit _ _ _ _)).mono ?_
  rintro e w40 ⟨⟨e9, f9, rfl⟩, b40⟩
  have j40 : Below w39.heap.size w39 w40 := by (repeat (first | exact Below.refl _ _ | refine Below.alloc ?_ (by first | omega | (simp; done) | (simp; omega)) _ | refine Below.drew ?_ | refine Below.setCell ?_ (by first | omega | (simp; done) | (simp; omega)) _ | refine Below.trans ?_ (Below.mono (by assumption) (by first | omega | (simp; done) | (simp; omega)))))
  have t40 : Below w.heap.size w w40 := t39.trans (j40.mono t39.size)
  replace D2 := D2.below j40
  replace i2 := i2.below j40
  replace o2 := o2.below j40
  replace D3 := D3.below j40
  replace i3 := i3.below j40
  replace o3 := o3.below j40
  replace D4 := D4.below j40
  replace i4 := i4.below j40
  replace o4 := o4.below j40
  replace D5 := D5.below j40
  replace i5 := i5.below j40
  replace o5 := o5.below j40
  replace D6 := D6.below j40
  replace i6 := i6.below j40
  replace o6 := o6.below j40
  replace s9 := s9.below j40
  replace q9 := q9.below j40
  clear s9 q9
  go_wp2_with fail
  go_at_call 55
  refine (two_any _).mono ?_
  rintro e w41 ⟨⟨a10, c10, r10, d10, rfl, s10, q10⟩, b41⟩
  have j41 : Below w40.heap.size w40 w41 := by (repeat (first | exact Below.refl _ _ | refine Below.alloc ?_ (by first | omega | (simp; done) | (simp; omega)) _ | refine Below.drew ?_ | refine Below.setCell ?_ (by first | omega | (simp; done) | (simp; omega)) _ | refine Below.trans ?_ (Below.mono (by assumption) (by first | omega | (simp; done) | (simp; omega)))))
  have t41 : Below w.heap.size w w41 := t40.trans (j41.mono t40.size)
  replace D2 := D2.below j41
  replace i2 := i2.below j41
  replace o2 := o2.below j41
  replace D3 := D3.below j41
  replace i3 := i3.below j41
  replace o3 := o3.below j41
  replace D4 := D4.below j41
  replace i4 := i4.below j41
  replace o4 := o4.below j41
  replace D5 := D5.below j41
  replace i5 := i5.below j41
  replace o5 := o5.below j41
  replace D6 := D6.below j41
  replace i6 := i6.below j41
  replace o6 := o6.below j41
  go_wp2_with fail
  go_at_call 28
  refine (exH20 a10 c10 r10 d10 _ s10 q10).mono ?_
  rintro e w42 ⟨⟨e10, f10, rfl, _⟩, b42⟩
  have j42 : Below w41.heap.size w41 w42 := by (repeat (first | exact Below.refl _ _ | refine Below.alloc ?_ (by first | omega | (simp; done) | (simp; omega)) _ | refine Below.drew ?_ | refine Below.setCell ?_ (by first | omega | (simp; done) | (simp; omega)) _ | refine Below.trans ?_ (Below.mono (by assumption) (by first | omega | (simp; done) | (simp; omega)))))
  have t42 : Below w.heap.size w w42 := t41.trans (j42.mono t41.size)
  replace D2 := D2.below j42
  replace i2 := i2.below j42
  replace o2 := o2.below j42
  replace D3 := D3.below j42
  replace i3 := i3.below j42
  replace o3 := o3.below j42
  replace D4 := D4.below j42
  replace i4 := i4.below j42
  replace o4 := o4.below j42
  replace D5 := D5.below j42
  replace i5 := i5.below j42
  replace o5 := o5.below j42
  replace D6 := D6.below j42
  replace i6 := i6.below j42
  replace o6 := o6.below j42
  replace s10 := s10.below j42
  replace q10 := q10.below j42
  clear s10 q10
  go_wp2_with fail
  go_at_call 55
  refine (two_any _).mono ?_
  rintro e w43 ⟨⟨a11, c11, r11, d11, rfl, s11, q11⟩, b43⟩
  have j43 : Below w42.heap.size w42 w43 := by (repeat (first | exact Below.refl _ _ | refine Below.alloc ?_ (by first | omega | (simp; done) | (simp; omega)) _ | refine Below.drew ?_ | refine Below.setCell ?_ (by first | omega | (simp; done) | (simp; omega)) _ | refine Below.trans ?_ (Below.mono (by assumption) (by first | omega | (simp; done) | (simp; omega)))))
  have t43 : Below w.heap.size w w43 := t42.trans (j43.mono t42.size)
  replace D2 := D2.below j43
  replace i2 := i2.below j43
  replace o2 := o2.below j43
  replace D3 := D3.below j43
  replace i3 := i3.below j43
  replace o3 := o3.below j43
  replace D4 := D4.below j43
  replace i4 := i4.below j43
  replace o4 := o4.below j43
  replace D5 := D5.below j43
  replace i5 := i5.below j43
  replace o5 := o5.below j43
  replace D6 := D6.below j43
  replace i6 := i6.below j43
  replace o6 := o6.below j43
  go_wp2_with fail
  go_at_call 48
  refine (exExpl4 a11 c11 r11 d11 _ _ _ (s11.below (by (repeat (first | exact Below.refl _ _ | refine Below.alloc ?_ (by first | omega | (simp; done) | (simp; omega)) _ | refine Below.drew ?_ | refine Below.setCell ?_ (by first | omega | (simp; done) | (simp; omega)) _ | refine Below.trans ?_ (Below.mono (by assumption) (by first | omega | (simp; done) | (simp; omega))))))) (q11.below (by (repeat (first | exact Below.refl _ _ | refine Below.alloc ?_ (by first | omega | (simp; done) | (simp; omega)) _ | refine Below.drew ?_ | refine Below.setCell ?_ (by first | omega | (simp; done) | (simp; omega)) _ | refine Below.trans ?_ (Below.mono (by assumption) (by first | omega | (simp; done) | (simp; omega))))))) (ents_lit _ _ _ _ rfl)).mono ?_
  rintro e w44 ⟨⟨e11, f11, rfl, _⟩, b44⟩
  have j44 : Below w43.heap.size w43 w44 := by (repeat (first | exact Below.refl _ _ | refine Below.alloc ?_ (by first | omega | (simp; done) | (simp; omega)) _ | refine Below.drew ?_ | refine Below.setCell ?_ (by first | omega | (simp; done) | (simp; omega)) _ | refine Below.trans ?_ (Below.mono (by assumption) (by first | omega | (simp; done) | (simp; omega)))))
  have t44 : Below w.heap.size w w44 := t43.trans (j44.mono t43.size)
  replace D2 := D2.below j44
  replace i2 := i2.below j44
  replace o2 := o2.below j44
  replace D3 := D3.below j44
  replace i3 := i3.below j44
  replace o3 := o3.below j44
  replace D4 := D4.below j44
  replace i4 := i4.below j44
  replace o4 := o4.below j44
  replace D5 := D5.below j44
  replace i5 := i5.below j44
  replace o5 := o5.below j44
  replace D6 := D6.below j44
  replace i6 := i6.below j44
  replace o6 := o6.below j44
  replace s11 := s11.below j44
  replace q11 := q11.below j44
  clear s11 q11
  go_wp2_with fail
  go_at_call 55
  refine (two_any _).mono ?_
  rintro e w45 ⟨⟨a12, c12, r12, d12, rfl, s12, q12⟩, b45⟩
  have j45 : Below w44.heap.size w44 w45 := by (repeat (first | exact Below.refl _ _ | refine Below.alloc ?_ (by first | omega | (simp; done) | (simp; omega)) _ | refine Below.drew ?_ | refine Below.setCell ?_ (by first | omega | (simp; done) | (simp; omega)) _ | refine Below.trans ?_ (Below.mono (by assumption) (by first | omega | (simp; done) | (simp; omega)))))
  have t45 : Below w.heap.size w w45 := t44.trans (j45.mono t44.size)
  replace D2 := D2.below j45
  replace i2 := i2.below j45
  replace o2 := o2.below j45
  replace D3 := D3.below j45
  replace i3 := i3.below j45
  replace o3 := o3.below j45
  replace D4 := D4.below j45
  replace i4 := i4.below j45
  replace o4 := o4.below j45
  replace D5 := D5.below j45
  replace i5 := i5.below j45
  replace o5 := o5.below j45
  replace D6 := D6.below j45
  replace i6 := i6.below j45
  replace o6 := o6.below j45
  go_wp2_with fail
  go_at_call 40
  refine (exOddF a12 c12 r12 d12 _ _ _ (s12.below (by (repeat (first | exact Below.refl _ _ | refine Below.alloc ?_ (by first | omega | (simp; done) | (simp; omega)) _ | refine Below.drew ?_ | refine Below.setCell ?_ (by first | omega | (simp; done) | (simp; omega)) _ | refine Below.trans ?_ (Below.mono (by assumption) (by first | omega | (simp; done) | (simp; omega))))))) (q12.below (by (repeat (first | exact Below.refl _ _ | refine Below.alloc ?_ (by first | omega | (simp; done) | (simp; omega)) _ | refine Below.drew ?_ | refine Below.setCell ?_ (by first | omega | (simp; done) | (simp; omega)) _ | refine Below.trans ?_ (Below.mono (by assumption) (by first | omega | (simp; done) | (simp; omega))))))) (ents_lit _ _ _ _ rfl)).mono ?_
  rintro e w46 ⟨⟨e12, f12, rfl⟩, b46⟩
  have j46 : Below w45.heap.size w45 w46 := by (repeat (first | exact Below.refl _ _ | refine Below.alloc ?_ (by first | omega | (simp; done) | (simp; omega)) _ | refine Below.drew ?_ | refine Below.setCell ?_ (by first | omega | (simp; done) | (simp; omega)) _ | refine Below.trans ?_ (Below.mono (by assumption) (by first | omega | (simp; done) | (simp; omega)))))
  have t46 : Below w.heap.size w w46 := t45.trans (j46.mono t45.size)
  replace D2 := D2.below j46
  replace i2 := i2.below j46
  replace o2 := o2.below j46
  replace D3 := D3.below j46
  replace i3 := i3.below j46
  replace o3 := o3.below j46
  replace D4 := D4.below j46
  replace i4 := i4.below j46
  replace o4 := o4.below j46
  replace D5 := D5.below j46
  replace i5 := i5.below j46
  replace o5 := o5.below j46
  replace D6 := D6.below j46
  replace i6 := i6.below j46
  replace o6 := o6.below j46
  replace s12 := s12.below j46
  replace q12 := q12.below j46
  clear s12 q12

  go_upto_region 24 with fail
  refine reg24 _ _ _ _ rfl ?_
  intro v1 v2 v3 v4 v5 v6 a24 n24 c24 w47 b47
  simp only [List.setIfInBounds_toArray, List.set_cons_zero, List.set_cons_succ]
  have j47 : Below w46.heap.size w46 w47 := by (repeat (first | exact Below.refl _ _ | refine Below.alloc ?_ (by first | omega | (simp; done) | (simp; omega)) _ | refine Below.drew ?_ | refine Below.setCell ?_ (by first | omega | (simp; done) | (simp; omega)) _ | refine Below.trans ?_ (Below.mono (by assumption) (by first | omega | (simp; done) | (simp; omega)))))
  have t47 : Below w.heap.size w w47 := t46.trans (j47.mono t46.size)
  replace D2 := D2.below j47
  replace i2 := i2.below j47
  replace o2 := o2.below j47
  replace D3 := D3.below j47
  replace i3 := i3.below j47
  replace o3 := o3.below j47
  replace D4 := D4.below j47
  replace i4 := i4.below j47
  replace o4 := o4.below j47
  replace D5 := D5.below j47
  replace i5 := i5.below j47
  replace o5 := o5.below j47
  replace D6 := D6.below j47
  replace i6 := i6.below j47
  replace o6 := o6.below j47
  have y0 := D2.cell 0
  have y1 := D2.cell 1
  have y2 := D2.cell 2
  have lc := D2.lt
  simp at y0 y1 y2
  go_wp2_with fail
  go_at_call 20
  refine (exChk_many _ _ _ _ _ i2 o2).mono ?_
  rintro e w48 ⟨rfl, b48⟩
  have j48 : Below w47.heap.size w47 w48 := by (repeat (first | exact Below.refl _ _ | refine Below.alloc ?_ (by first | omega | (simp; done) | (simp; omega)) _ | refine Below.drew ?_ | refine Below.setCell ?_ (by first | omega | (simp; done) | (simp; omega)) _ | refine Below.trans ?_ (Below.mono (by assumption) (by first | omega | (simp; done) | (simp; omega)))))
  have t48 : Below w.heap.size w w48 := t47.trans (j48.mono t47.size)
  replace D2 := D2.below j48
  replace i2 := i2.below j48
  replace o2 := o2.below j48
  replace D3 := D3.below j48
  replace i3 := i3.below j48
  replace o3 := o3.below j48
  replace D4 := D4.below j48
  replace i4 := i4.below j48
  replace o4 := o4.below j48
  replace D5 := D5.below j48
  replace i5 := i5.below j48
  replace o5 := o5.below j48
  replace D6 := D6.below j48
  replace i6 := i6.below j48
  replace o6 := o6.below j48
  clear D2 i2 o2
  clear y0 y1 y2 lc
  have y0 := D3.cell 0
  have y1 := D3.cell 1
  have y2 := D3.cell 2
  have lc := D3.lt
  simp at y0 y1 y2
  go_wp2_with fail
  go_at_call 20
  refine (exChk_legs _ _ _ _ _ i3 o3).mono ?_
  rintro e w49 ⟨rfl, b49⟩
  have j49 : Below w48.heap.size w48 w49 := by (repeat (first | exact Below.refl _ _ | refine Below.alloc ?_ (by first | omega | (simp; done) | (simp; omega)) _ | refine Below.drew ?_ | refine Below.setCell ?_ (by first | omega | (simp; done) | (simp; omega)) _ | refine Below.trans ?_ (Below.mono (by assumption) (by first | omega | (simp; done) | (simp; omega)))))
  have t49 : Below w.heap.size w w49 := t48.trans (j49.mono t48.size)
  replace D3 := D3.below j49
  replace i3 := i3.below j49
  replace o3 := o3.below j49
  replace D4 := D4.below j49
  replace i4 := i4.below j49
  replace o4 := o4.below j49
  replace D5 := D5.below j49
  replace i5 := i5.below j49
  replace o5 := o5.below j49
  replace D6 := D6.below j49
  replace i6 := i6.below j49
  replace o6 := o6.below j49
  clear D3 i3 o3
  clear y0 y1 y2 lc
  have y0 := D4.cell 0
  have y1 := D4.cell 1
  have y2 := D4.cell 2
  have lc := D4.lt
  simp at y0 y1 y2
  go_wp2_with fail
  go_at_call 20
  refine (exChk_same _ _ _ _ _ i4 o4).mono ?_
  rintro e w50 ⟨rfl, b50⟩
  have j50 : Below w49.heap.size w49 w50 := by (repeat (first | exact Below.refl _ _ | refine Below.alloc ?_ (by first | omega | (simp; done) | (simp; omega)) _ | refine Below.drew ?_ | refine Below.setCell ?_ (by first | omega | (simp; done) | (simp; omega)) _ | refine Below.trans ?_ (Below.mono (by assumption) (by first | omega | (simp; done) | (simp; omega)))))
  have t50 : Below w.heap.size w w50 := t49.trans (j50.mono t49.size)
  replace D4 := D4.below j50
  replace i4 := i4.below j50
  replace o4 := o4.below j50
  replace D5 := D5.below j50
  replace i5 := i5.below j50
  replace o5 := o5.below j50
  replace D6 := D6.below j50
  replace i6 := i6.below j50
  replace o6 := o6.below j50
  clear D4 i4 o4
  clear y0 y1 y2 lc
  have y0 := D5.cell 0
  have y1 := D5.cell 1
  have y2 := D5.cell 2
  have lc := D5.lt
  simp at y0 y1 y2
  go_wp2_with fail
  go_at_call 20
  refine (exChk_late _ _ _ _ _ i5 o5).mono ?_
  rintro e w51 ⟨rfl, b51⟩
  have j51 : Below w50.heap.size w50 w51 := by (repeat (first | exact Below.refl _ _ | refine Below.alloc ?_ (by first | omega | (simp; done) | (simp; omega)) _ | refine Below.drew ?_ | refine Below.setCell ?_ (by first | omega | (simp; done) | (simp; omega)) _ | refine Below.trans ?_ (Below.mono (by assumption) (by first | omega | (simp; done) | (simp; omega)))))
  have t51 : Below w.heap.size w w51 := t50.trans (j51.mono t50.size)
  replace D5 := D5.below j51
  replace i5 := i5.below j51
  replace o5 := o5.below j51
  replace D6 := D6.below j51
  replace i6 := i6.below j51
  replace o6 := o6.below j51
  clear D5 i5 o5
  clear y0 y1 y2 lc
  have y0 := D6.cell 0
  have y1 := D6.cell 1
  have y2 := D6.cell 2
  have lc := D6.lt
  simp at y0 y1 y2
  go_wp2_with fail
  go_at_call 20
  refine (exChk_early _ _ _ _ _ i6 o6).mono ?_
  rintro e w52 ⟨rfl, b52⟩
  have j52 : Below w51.heap.size w51 w52 := by (repeat (first | exact Below.refl _ _ | refine Below.alloc ?_ (by first | omega | (simp; done) | (simp; omega)) _ | refine Below.drew ?_ | refine Below.setCell ?_ (by first | omega | (simp; done) | (simp; omega)) _ | refine Below.trans ?_ (Below.mono (by assumption) (by first | omega | (simp; done) | (simp; omega)))))
  have t52 : Below w.heap.size w w52 := t51.trans (j52.mono t51.size)
  replace D6 := D6.below j52
  replace i6 := i6.below j52
  replace o6 := o6.below j52
  clear D6 i6 o6
  clear y0 y1 y2 lc
  go_wp2_with fail
  go_at_call 20
  refine (exChk_zero none 0 none 0 _ (IntsAt.nil _ _) (fun k hk => absurd hk (Nat.not_lt_zero k))).mono ?_
  rintro e w53 ⟨rfl, b53⟩
  have j53 : Below w52.heap.size w52 w53 := by (repeat (first | exact Below.refl _ _ | refine Below.alloc ?_ (by first | omega | (simp; done) | (simp; omega)) _ | refine Below.drew ?_ | refine Below.setCell ?_ (by first | omega | (simp; done) | (simp; omega)) _ | refine Below.trans ?_ (Below.mono (by assumption) (by first | omega | (simp; done) | (simp; omega)))))
  have t53 : Below w.heap.size w w53 := t52.trans (j53.mono t52.size)
  go_wp2_with fail
  go_at_call 19
  refine (awake_any _).mono ?_
  rintro e w54 ⟨rfl, b54⟩
  have j54 : Below w53.heap.size w53 w54 := by (repeat (first | exact Below.refl _ _ | refine Below.alloc ?_ (by first | omega | (simp; done) | (simp; omega)) _ | refine Below.drew ?_ | refine Below.setCell ?_ (by first | omega | (simp; done) | (simp; omega)) _ | refine Below.trans ?_ (Below.mono (by assumption) (by first | omega | (simp; done) | (simp; omega)))))
  have t54 : Below w.heap.size w w54 := t53.trans (j54.mono t53.size)
  go_wp2_with fail
  go_ret
  exact ⟨rfl, t54⟩

end Go.Proofs.Ytfclemnkcpadpaa
