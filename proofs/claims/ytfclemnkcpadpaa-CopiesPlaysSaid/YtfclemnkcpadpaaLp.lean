/- CopiesPlays: the walk -/
import Derived.Test.YtfclemnkcpadpaaLg
namespace Go.Proofs.Ytfclemnkcpadpaa
set_option linter.unusedVariables false
set_option linter.unusedSimpArgs false
set_option linter.unnecessarySimpa false
open Go.RowKit Go.Flow

set_option maxRecDepth 100000 in
set_option maxHeartbeats 4000000 in
theorem plays_a1 (a : Option Addr) (c : Nat) (ar : Option Addr) (cr : Nat) (p : Post) (at_ : Option Addr) (t : List (List (List Int))) (ct : Nat) (w : World) (hs : IntsAt w a p.sends) (hr : RoutesAt w ar p.routes) (na : a = none → c = 0) (big : PostBig p) (ht : TruthAt w at_ t) (bt : TruthBig t) (hT : thinB p = false) :
    Calls Try.prog 3 #[.agg #[.slice a p.sends.length c, .slice ar p.routes.length cr, .int .i64 p.pat], .slice at_ t.length ct] w fun e w' => e = .returned (.bool true) ∧ Below w.heap.size w w' := by

  have HB := Lib.hid big
  have HT := Lib.hid hT
  have HBT := Lib.hid bt
  clear hT big bt
  go_enter Try.func3, Try.ntmps3
  go_wp2_with fail
  go_at_call 17
  refine (thin_eq a c ar cr p _ false HT (hr.below (by (repeat (first | exact Below.refl _ _ | refine Below.alloc ?_ (by first | omega | (simp; done) | (simp; omega)) _ | refine Below.drew ?_ | refine Below.setCell ?_ (by first | omega | (simp; done) | (simp; omega)) _ | refine Below.trans ?_ (Below.mono (by assumption) (by first | omega | (simp; done) | (simp; omega))))))) HB.out).mono ?_
  rintro e w1 ⟨rfl, b1⟩
  have t1 : Below w.heap.size w w1 := by (repeat (first | exact Below.refl _ _ | refine Below.alloc ?_ (by first | omega | (simp; done) | (simp; omega)) _ | refine Below.drew ?_ | refine Below.setCell ?_ (by first | omega | (simp; done) | (simp; omega)) _ | refine Below.trans ?_ (Below.mono (by assumption) (by first | omega | (simp; done) | (simp; omega)))))
  replace hs := hs.below t1
  replace hr := hr.below t1
  replace ht := ht.below t1
  have q0 := box_cells b1 0 rfl
  have q1 := box_cells b1 1 rfl
  have q2 := box_cells b1 2 rfl
  have lB := cell_ltK q0
  go_wp2_with fail
  go_at_call 19
  refine (awake_any _).mono ?_
  rintro e w2 ⟨rfl, b2⟩
  have j2 : Below w1.heap.size w1 w2 := by (repeat (first | exact Below.refl _ _ | refine Below.alloc ?_ (by first | omega | (simp; done) | (simp; omega)) _ | refine Below.drew ?_ | refine Below.setCell ?_ (by first | omega | (simp; done) | (simp; omega)) _ | refine Below.trans ?_ (Below.mono (by assumption) (by first | omega | (simp; done) | (simp; omega)))))
  have t2 : Below w.heap.size w w2 := t1.trans (j2.mono t1.size)
  replace hs := hs.below j2
  replace hr := hr.below j2
  replace ht := ht.below j2
  replace q0 := below_cell j2 q0
  replace q1 := below_cell j2 q1
  replace q2 := below_cell j2 q2
  replace lB := Nat.lt_of_lt_of_le lB j2.size
  go_wp2_with fail
  go_ret
  exact ⟨rfl, t2⟩

set_option maxRecDepth 100000 in
set_option maxHeartbeats 4000000 in
theorem plays_a2 (a : Option Addr) (c : Nat) (ar : Option Addr) (cr : Nat) (p : Post) (at_ : Option Addr) (t : List (List (List Int))) (ct : Nat) (w : World) (hs : IntsAt w a p.sends) (hr : RoutesAt w ar p.routes) (na : a = none → c = 0) (big : PostBig p) (ht : TruthAt w at_ t) (bt : TruthBig t) (hT : thinB p = true) (hS : shortB t = false) :
    Calls Try.prog 3 #[.agg #[.slice a p.sends.length c, .slice ar p.routes.length cr, .int .i64 p.pat], .slice at_ t.length ct] w fun e w' => e = .returned (.bool true) ∧ Below w.heap.size w w' := by

  have HB := Lib.hid big
  have HT := Lib.hid hT
  have HBT := Lib.hid bt
  have SM := Lib.hid (thin_small hT)
  have HS := Lib.hid hS
  clear hT big bt hS
  go_enter Try.func3, Try.ntmps3
  go_wp2_with fail
  go_at_call 17
  refine (thin_eq a c ar cr p _ true HT (hr.below (by (repeat (first | exact Below.refl _ _ | refine Below.alloc ?_ (by first | omega | (simp; done) | (simp; omega)) _ | refine Below.drew ?_ | refine Below.setCell ?_ (by first | omega | (simp; done) | (simp; omega)) _ | refine Below.trans ?_ (Below.mono (by assumption) (by first | omega | (simp; done) | (simp; omega))))))) HB.out).mono ?_
  rintro e w1 ⟨rfl, b1⟩
  have t1 : Below w.heap.size w w1 := by (repeat (first | exact Below.refl _ _ | refine Below.alloc ?_ (by first | omega | (simp; done) | (simp; omega)) _ | refine Below.drew ?_ | refine Below.setCell ?_ (by first | omega | (simp; done) | (simp; omega)) _ | refine Below.trans ?_ (Below.mono (by assumption) (by first | omega | (simp; done) | (simp; omega)))))
  replace hs := hs.below t1
  replace hr := hr.below t1
  replace ht := ht.below t1
  have q0 := box_cells b1 0 rfl
  have q1 := box_cells b1 1 rfl
  have q2 := box_cells b1 2 rfl
  have lB := cell_ltK q0
  go_wp2_with fail
  go_at_call 18
  refine (short_eq _ at_ t ct false HS (ht.below (by (repeat (first | exact Below.refl _ _ | refine Below.alloc ?_ (by first | omega | (simp; done) | (simp; omega)) _ | refine Below.drew ?_ | refine Below.setCell ?_ (by first | omega | (simp; done) | (simp; omega)) _ | refine Below.trans ?_ (Below.mono (by assumption) (by first | omega | (simp; done) | (simp; omega))))))) HBT.out).mono ?_
  rintro e w2 ⟨rfl, b2⟩
  have j2 : Below w1.heap.size w1 w2 := by (repeat (first | exact Below.refl _ _ | refine Below.alloc ?_ (by first | omega | (simp; done) | (simp; omega)) _ | refine Below.drew ?_ | refine Below.setCell ?_ (by first | omega | (simp; done) | (simp; omega)) _ | refine Below.trans ?_ (Below.mono (by assumption) (by first | omega | (simp; done) | (simp; omega)))))
  have t2 : Below w.heap.size w w2 := t1.trans (j2.mono t1.size)
  replace hs := hs.below j2
  replace hr := hr.below j2
  replace ht := ht.below j2
  replace q0 := below_cell j2 q0
  replace q1 := below_cell j2 q1
  replace q2 := below_cell j2 q2
  replace lB := Nat.lt_of_lt_of_le lB j2.size
  go_wp2_with fail
  go_at_call 19
  refine (awake_any _).mono ?_
  rintro e w3 ⟨rfl, b3⟩
  have j3 : Below w2.heap.size w2 w3 := by (repeat (first | exact Below.refl _ _ | refine Below.alloc ?_ (by first | omega | (simp; done) | (simp; omega)) _ | refine Below.drew ?_ | refine Below.setCell ?_ (by first | omega | (simp; done) | (simp; omega)) _ | refine Below.trans ?_ (Below.mono (by assumption) (by first | omega | (simp; done) | (simp; omega)))))
  have t3 : Below w.heap.size w w3 := t2.trans (j3.mono t2.size)
  replace hs := hs.below j3
  replace hr := hr.below j3
  replace ht := ht.below j3
  replace q0 := below_cell j3 q0
  replace q1 := below_cell j3 q1
  replace q2 := below_cell j3 q2
  replace lB := Nat.lt_of_lt_of_le lB j3.size
  go_wp2_with fail
  go_ret
  exact ⟨rfl, t3⟩

set_option maxRecDepth 100000 in
set_option maxHeartbeats 4000000 in
theorem plays_b1 (a : Option Addr) (c : Nat) (ar : Option Addr) (cr : Nat) (p : Post) (at_ : Option Addr) (t : List (List (List Int))) (ct : Nat) (w : World) (hs : IntsAt w a p.sends) (hr : RoutesAt w ar p.routes) (na : a = none → c = 0) (big : PostBig p) (ht : TruthAt w at_ t) (bt : TruthBig t) (hT : thinB p = true) (hS : shortB t = true) (hE : postErr p ≠ 0) :
    Calls Try.prog 3 #[.agg #[.slice a p.sends.length c, .slice ar p.routes.length cr, .int .i64 p.pat], .slice at_ t.length ct] w fun e w' => e = .returned (.bool true) ∧ Below w.heap.size w w' := by

  have HB := Lib.hid big
  have HT := Lib.hid hT
  have HBT := Lib.hid bt
  have SM := Lib.hid (thin_small hT)
  have HS := Lib.hid hS
  have ST := Lib.hid (short_small hS)
  clear hT big bt hS
  have HO : Hid (playOut p t = []) := Lib.hid (by unfold playOut playErr; rw [if_neg hE, if_neg hE])
  have hPE : playErr p t = postErr p := by unfold playErr; rw [if_neg hE]
  obtain ⟨E, hX⟩ : ∃ E, postErr p = E := ⟨_, rfl⟩
  rw [hX] at hPE hE
  have HE := Lib.hid hX
  have HPE := Lib.hid hPE
  have Hn : Hid (([] : List Ent).length = 0) := Lib.hid rfl
  have hne : (E != 0) = true := by simpa using hE
  have hne2 : (E == 0) = false := by simpa using hE
  have hbd : 0 ≤ E ∧ E ≤ 3 := by rw [← hX]; exact postErr_bd p
  clear hX hPE hE
  go_enter Try.func3, Try.ntmps3
  go_wp2_with fail
  go_at_call 17
  refine (thin_eq a c ar cr p _ true HT (hr.below (by (repeat (first | exact Below.refl _ _ | refine Below.alloc ?_ (by first | omega | (simp; done) | (simp; omega)) _ | refine Below.drew ?_ | refine Below.setCell ?_ (by first | omega | (simp; done) | (simp; omega)) _ | refine Below.trans ?_ (Below.mono (by assumption) (by first | omega | (simp; done) | (simp; omega))))))) HB.out).mono ?_
  rintro e w1 ⟨rfl, b1⟩
  have t1 : Below w.heap.size w w1 := by (repeat (first | exact Below.refl _ _ | refine Below.alloc ?_ (by first | omega | (simp; done) | (simp; omega)) _ | refine Below.drew ?_ | refine Below.setCell ?_ (by first | omega | (simp; done) | (simp; omega)) _ | refine Below.trans ?_ (Below.mono (by assumption) (by first | omega | (simp; done) | (simp; omega)))))
  replace hs := hs.below t1
  replace hr := hr.below t1
  replace ht := ht.below t1
  have q0 := box_cells b1 0 rfl
  have q1 := box_cells b1 1 rfl
  have q2 := box_cells b1 2 rfl
  have lB := cell_ltK q0
  go_wp2_with fail
  go_at_call 18
  refine (short_eq _ at_ t ct true HS (ht.below (by (repeat (first | exact Below.refl _ _ | refine Below.alloc ?_ (by first | omega | (simp; done) | (simp; omega)) _ | refine Below.drew ?_ | refine Below.setCell ?_ (by first | omega | (simp; done) | (simp; omega)) _ | refine Below.trans ?_ (Below.mono (by assumption) (by first | omega | (simp; done) | (simp; omega))))))) HBT.out).mono ?_
  rintro e w2 ⟨rfl, b2⟩
  have j2 : Below w1.heap.size w1 w2 := by (repeat (first | exact Below.refl _ _ | refine Below.alloc ?_ (by first | omega | (simp; done) | (simp; omega)) _ | refine Below.drew ?_ | refine Below.setCell ?_ (by first | omega | (simp; done) | (simp; omega)) _ | refine Below.trans ?_ (Below.mono (by assumption) (by first | omega | (simp; done) | (simp; omega)))))
  have t2 : Below w.heap.size w w2 := t1.trans (j2.mono t1.size)
  replace hs := hs.below j2
  replace hr := hr.below j2
  replace ht := ht.below j2
  replace q0 := below_cell j2 q0
  replace q1 := below_cell j2 q1
  replace q2 := below_cell j2 q2
  replace lB := Nat.lt_of_lt_of_le lB j2.size
  go_wp2_with fail
  go_at_call 21
  refine (post_eq a c ar cr p _ hs hr SM na).mono ?_
  rintro e w3 ⟨⟨a1, c1, r1, d1, rfl, s1, o1⟩, b3⟩
  have j3 : Below w2.heap.size w2 w3 := by (repeat (first | exact Below.refl _ _ | refine Below.alloc ?_ (by first | omega | (simp; done) | (simp; omega)) _ | refine Below.drew ?_ | refine Below.setCell ?_ (by first | omega | (simp; done) | (simp; omega)) _ | refine Below.trans ?_ (Below.mono (by assumption) (by first | omega | (simp; done) | (simp; omega)))))
  have t3 : Below w.heap.size w w3 := t2.trans (j3.mono t2.size)
  replace hs := hs.below j3
  replace hr := hr.below j3
  replace ht := ht.below j3
  replace q0 := below_cell j3 q0
  replace q1 := below_cell j3 q1
  replace q2 := below_cell j3 q2
  replace lB := Nat.lt_of_lt_of_le lB j3.size
  go_wp2_with fail
  go_at_call 20
  refine (chk_eq a1 c1 r1 d1 p _ E HE s1 o1 SM).mono ?_
  rintro e w4 ⟨rfl, b4⟩
  have j4 : Below w3.heap.size w3 w4 := by (repeat (first | exact Below.refl _ _ | refine Below.alloc ?_ (by first | omega | (simp; done) | (simp; omega)) _ | refine Below.drew ?_ | refine Below.setCell ?_ (by first | omega | (simp; done) | (simp; omega)) _ | refine Below.trans ?_ (Below.mono (by assumption) (by first | omega | (simp; done) | (simp; omega)))))
  have t4 : Below w.heap.size w w4 := t3.trans (j4.mono t3.size)
  replace hs := hs.below j4
  replace hr := hr.below j4
  replace ht := ht.below j4
  replace q0 := below_cell j4 q0
  replace q1 := below_cell j4 q1
  replace q2 := below_cell j4 q2
  replace lB := Nat.lt_of_lt_of_le lB j4.size
  replace s1 := s1.below j4
  replace o1 := o1.below j4
  clear s1 o1
  go_wp2_with fail
  go_at_call 21
  refine (post_eq a c ar cr p _ hs hr SM na).mono ?_
  rintro e w5 ⟨⟨a2, c2, r2, d2, rfl, s2, o2⟩, b5⟩
  have j5 : Below w4.heap.size w4 w5 := by (repeat (first | exact Below.refl _ _ | refine Below.alloc ?_ (by first | omega | (simp; done) | (simp; omega)) _ | refine Below.drew ?_ | refine Below.setCell ?_ (by first | omega | (simp; done) | (simp; omega)) _ | refine Below.trans ?_ (Below.mono (by assumption) (by first | omega | (simp; done) | (simp; omega)))))
  have t5 : Below w.heap.size w w5 := t4.trans (j5.mono t4.size)
  replace hs := hs.below j5
  replace hr := hr.below j5
  replace ht := ht.below j5
  replace q0 := below_cell j5 q0
  replace q1 := below_cell j5 q1
  replace q2 := below_cell j5 q2
  replace lB := Nat.lt_of_lt_of_le lB j5.size
  go_wp2_with fail
  go_at_call 23
  refine (truth_eq _ at_ t ct ht ST).mono ?_
  rintro e w6 ⟨⟨a3, c3, rfl, x3⟩, b6⟩
  have j6 : Below w5.heap.size w5 w6 := by (repeat (first | exact Below.refl _ _ | refine Below.alloc ?_ (by first | omega | (simp; done) | (simp; omega)) _ | refine Below.drew ?_ | refine Below.setCell ?_ (by first | omega | (simp; done) | (simp; omega)) _ | refine Below.trans ?_ (Below.mono (by assumption) (by first | omega | (simp; done) | (simp; omega)))))
  have t6 : Below w.heap.size w w6 := t5.trans (j6.mono t5.size)
  replace hs := hs.below j6
  replace hr := hr.below j6
  replace ht := ht.below j6
  replace q0 := below_cell j6 q0
  replace q1 := below_cell j6 q1
  replace q2 := below_cell j6 q2
  replace lB := Nat.lt_of_lt_of_le lB j6.size
  replace s2 := s2.below j6
  replace o2 := o2.below j6
  go_wp2_with fail
  go_at_call 22
  refine (play_eq a2 c2 r2 d2 p _ a3 t c3 E [] 0 HPE HO Hn s2 o2 SM x3 ST).mono ?_
  rintro e w7 ⟨⟨a4, c4, rfl, x4⟩, b7⟩
  have j7 : Below w6.heap.size w6 w7 := by (repeat (first | exact Below.refl _ _ | refine Below.alloc ?_ (by first | omega | (simp; done) | (simp; omega)) _ | refine Below.drew ?_ | refine Below.setCell ?_ (by first | omega | (simp; done) | (simp; omega)) _ | refine Below.trans ?_ (Below.mono (by assumption) (by first | omega | (simp; done) | (simp; omega)))))
  have t7 : Below w.heap.size w w7 := t6.trans (j7.mono t6.size)
  replace hs := hs.below j7
  replace hr := hr.below j7
  replace ht := ht.below j7
  replace q0 := below_cell j7 q0
  replace q1 := below_cell j7 q1
  replace q2 := below_cell j7 q2
  replace lB := Nat.lt_of_lt_of_le lB j7.size
  replace s2 := s2.below j7
  replace o2 := o2.below j7
  replace x3 := x3.below j7
  clear s2 o2 x3
  go_wp2_with fail
  go_at_call 24
  refine (fault_eq a c ar cr p _ E HE hs hr SM).mono ?_
  rintro e w8 ⟨rfl, b8⟩
  have j8 : Below w7.heap.size w7 w8 := by (repeat (first | exact Below.refl _ _ | refine Below.alloc ?_ (by first | omega | (simp; done) | (simp; omega)) _ | refine Below.drew ?_ | refine Below.setCell ?_ (by first | omega | (simp; done) | (simp; omega)) _ | refine Below.trans ?_ (Below.mono (by assumption) (by first | omega | (simp; done) | (simp; omega)))))
  have t8 : Below w.heap.size w w8 := t7.trans (j8.mono t7.size)
  replace hs := hs.below j8
  replace hr := hr.below j8
  replace ht := ht.below j8
  replace q0 := below_cell j8 q0
  replace q1 := below_cell j8 q1
  replace q2 := below_cell j8 q2
  replace lB := Nat.lt_of_lt_of_le lB j8.size
  replace x4 := x4.below j8
  go_wp2_with fail
  go_at_call 24
  refine (fault_eq a c ar cr p _ E HE hs hr SM).mono ?_
  rintro e w9 ⟨rfl, b9⟩
  have j9 : Below w8.heap.size w8 w9 := by (repeat (first | exact Below.refl _ _ | refine Below.alloc ?_ (by first | omega | (simp; done) | (simp; omega)) _ | refine Below.drew ?_ | refine Below.setCell ?_ (by first | omega | (simp; done) | (simp; omega)) _ | refine Below.trans ?_ (Below.mono (by assumption) (by first | omega | (simp; done) | (simp; omega)))))
  have t9 : Below w.heap.size w w9 := t8.trans (j9.mono t8.size)
  replace hs := hs.below j9
  replace hr := hr.below j9
  replace ht := ht.below j9
  replace q0 := below_cell j9 q0
  replace q1 := below_cell j9 q1
  replace q2 := below_cell j9 q2
  replace lB := Nat.lt_of_lt_of_le lB j9.size
  replace x4 := x4.below j9
  go_wp2_with fail
  go_at_call 19
  refine (awake_any _).mono ?_
  rintro e w10 ⟨rfl, b10⟩
  have j10 : Below w9.heap.size w9 w10 := by (repeat (first | exact Below.refl _ _ | refine Below.alloc ?_ (by first | omega | (simp; done) | (simp; omega)) _ | refine Below.drew ?_ | refine Below.setCell ?_ (by first | omega | (simp; done) | (simp; omega)) _ | refine Below.trans ?_ (Below.mono (by assumption) (by first | omega | (simp; done) | (simp; omega)))))
  have t10 : Below w.heap.size w w10 := t9.trans (j10.mono t9.size)
  replace hs := hs.below j10
  replace hr := hr.below j10
  replace ht := ht.below j10
  replace q0 := below_cell j10 q0
  replace q1 := below_cell j10 q1
  replace q2 := below_cell j10 q2
  replace lB := Nat.lt_of_lt_of_le lB j10.size
  replace x4 := x4.below j10
  go_wp2_with fail
  go_ret
  exact ⟨rfl, t10⟩

set_option maxRecDepth 100000 in
set_option maxHeartbeats 4000000 in
theorem plays_b2 (a : Option Addr) (c : Nat) (ar : Option Addr) (cr : Nat) (p : Post) (at_ : Option Addr) (t : List (List (List Int))) (ct : Nat) (w : World) (hs : IntsAt w a p.sends) (hr : RoutesAt w ar p.routes) (na : a = none → c = 0) (big : PostBig p) (ht : TruthAt w at_ t) (bt : TruthBig t) (hT : thinB p = true) (hS : shortB t = true) (hE : postErr p = 0) (hQ : shapeErr p t ≠ 0) :
    Calls Try.prog 3 #[.agg #[.slice a p.sends.length c, .slice ar p.routes.length cr, .int .i64 p.pat], .slice at_ t.length ct] w fun e w' => e = .returned (.bool true) ∧ Below w.heap.size w w' := by

  have HB := Lib.hid big
  have HT := Lib.hid hT
  have HBT := Lib.hid bt
  have SM := Lib.hid (thin_small hT)
  have HS := Lib.hid hS
  have ST := Lib.hid (short_small hS)
  clear hT big bt hS
  have hPE : playErr p t = shapeErr p t := by unfold playErr; rw [if_pos hE]
  have HO : Hid (playOut p t = []) := Lib.hid (by unfold playOut; rw [hPE, if_neg hQ])
  obtain ⟨S, hX⟩ : ∃ E, shapeErr p t = E := ⟨_, rfl⟩
  rw [hX] at hPE hQ
  have HE := Lib.hid hE
  have HSE := Lib.hid hX
  have HPE := Lib.hid hPE
  have Hn : Hid (([] : List Ent).length = 0) := Lib.hid rfl
  have hne : (S != 0) = true := by simpa using hQ
  have hne2 : (S == 0) = false := by simpa using hQ
  have hbd : 0 ≤ S ∧ S ≤ 11 := by rw [← hX]; exact shapeErr_bd p t
  clear hX hPE hE hQ
  go_enter Try.func3, Try.ntmps3
  go_wp2_with fail
  go_at_call 17
  refine (thin_eq a c ar cr p _ true HT (hr.below (by (repeat (first | exact Below.refl _ _ | refine Below.alloc ?_ (by first | omega | (simp; done) | (simp; omega)) _ | refine Below.drew ?_ | refine Below.setCell ?_ (by first | omega | (simp; done) | (simp; omega)) _ | refine Below.trans ?_ (Below.mono (by assumption) (by first | omega | (simp; done) | (simp; omega))))))) HB.out).mono ?_
  rintro e w1 ⟨rfl, b1⟩
  have t1 : Below w.heap.size w w1 := by (repeat (first | exact Below.refl _ _ | refine Below.alloc ?_ (by first | omega | (simp; done) | (simp; omega)) _ | refine Below.drew ?_ | refine Below.setCell ?_ (by first | omega | (simp; done) | (simp; omega)) _ | refine Below.trans ?_ (Below.mono (by assumption) (by first | omega | (simp; done) | (simp; omega)))))
  replace hs := hs.below t1
  replace hr := hr.below t1
  replace ht := ht.below t1
  have q0 := box_cells b1 0 rfl
  have q1 := box_cells b1 1 rfl
  have q2 := box_cells b1 2 rfl
  have lB := cell_ltK q0
  go_wp2_with fail
  go_at_call 18
  refine (short_eq _ at_ t ct true HS (ht.below (by (repeat (first | exact Below.refl _ _ | refine Below.alloc ?_ (by first | omega | (simp; done) | (simp; omega)) _ | refine Below.drew ?_ | refine Below.setCell ?_ (by first | omega | (simp; done) | (simp; omega)) _ | refine Below.trans ?_ (Below.mono (by assumption) (by first | omega | (simp; done) | (simp; omega))))))) HBT.out).mono ?_
  rintro e w2 ⟨rfl, b2⟩
  have j2 : Below w1.heap.size w1 w2 := by (repeat (first | exact Below.refl _ _ | refine Below.alloc ?_ (by first | omega | (simp; done) | (simp; omega)) _ | refine Below.drew ?_ | refine Below.setCell ?_ (by first | omega | (simp; done) | (simp; omega)) _ | refine Below.trans ?_ (Below.mono (by assumption) (by first | omega | (simp; done) | (simp; omega)))))
  have t2 : Below w.heap.size w w2 := t1.trans (j2.mono t1.size)
  replace hs := hs.below j2
  replace hr := hr.below j2
  replace ht := ht.below j2
  replace q0 := below_cell j2 q0
  replace q1 := below_cell j2 q1
  replace q2 := below_cell j2 q2
  replace lB := Nat.lt_of_lt_of_le lB j2.size
  go_wp2_with fail
  go_at_call 21
  refine (post_eq a c ar cr p _ hs hr SM na).mono ?_
  rintro e w3 ⟨⟨a1, c1, r1, d1, rfl, s1, o1⟩, b3⟩
  have j3 : Below w2.heap.size w2 w3 := by (repeat (first | exact Below.refl _ _ | refine Below.alloc ?_ (by first | omega | (simp; done) | (simp; omega)) _ | refine Below.drew ?_ | refine Below.setCell ?_ (by first | omega | (simp; done) | (simp; omega)) _ | refine Below.trans ?_ (Below.mono (by assumption) (by first | omega | (simp; done) | (simp; omega)))))
  have t3 : Below w.heap.size w w3 := t2.trans (j3.mono t2.size)
  replace hs := hs.below j3
  replace hr := hr.below j3
  replace ht := ht.below j3
  replace q0 := below_cell j3 q0
  replace q1 := below_cell j3 q1
  replace q2 := below_cell j3 q2
  replace lB := Nat.lt_of_lt_of_le lB j3.size
  go_wp2_with fail
  go_at_call 20
  refine (chk_eq a1 c1 r1 d1 p _ 0 HE s1 o1 SM).mono ?_
  rintro e w4 ⟨rfl, b4⟩
  have j4 : Below w3.heap.size w3 w4 := by (repeat (first | exact Below.refl _ _ | refine Below.alloc ?_ (by first | omega | (simp; done) | (simp; omega)) _ | refine Below.drew ?_ | refine Below.setCell ?_ (by first | omega | (simp; done) | (simp; omega)) _ | refine Below.trans ?_ (Below.mono (by assumption) (by first | omega | (simp; done) | (simp; omega)))))
  have t4 : Below w.heap.size w w4 := t3.trans (j4.mono t3.size)
  replace hs := hs.below j4
  replace hr := hr.below j4
  replace ht := ht.below j4
  replace q0 := below_cell j4 q0
  replace q1 := below_cell j4 q1
  replace q2 := below_cell j4 q2
  replace lB := Nat.lt_of_lt_of_le lB j4.size
  replace s1 := s1.below j4
  replace o1 := o1.below j4
  clear s1 o1
  go_wp2_with fail
  go_at_call 21
  refine (post_eq a c ar cr p _ hs hr SM na).mono ?_
  rintro e w5 ⟨⟨a2, c2, r2, d2, rfl, s2, o2⟩, b5⟩
  have j5 : Below w4.heap.size w4 w5 := by (repeat (first | exact Below.refl _ _ | refine Below.alloc ?_ (by first | omega | (simp; done) | (simp; omega)) _ | refine Below.drew ?_ | refine Below.setCell ?_ (by first | omega | (simp; done) | (simp; omega)) _ | refine Below.trans ?_ (Below.mono (by assumption) (by first | omega | (simp; done) | (simp; omega)))))
  have t5 : Below w.heap.size w w5 := t4.trans (j5.mono t4.size)
  replace hs := hs.below j5
  replace hr := hr.below j5
  replace ht := ht.below j5
  replace q0 := below_cell j5 q0
  replace q1 := below_cell j5 q1
  replace q2 := below_cell j5 q2
  replace lB := Nat.lt_of_lt_of_le lB j5.size
  go_wp2_with fail
  go_at_call 23
  refine (truth_eq _ at_ t ct ht ST).mono ?_
  rintro e w6 ⟨⟨a3, c3, rfl, x3⟩, b6⟩
  have j6 : Below w5.heap.size w5 w6 := by (repeat (first | exact Below.refl _ _ | refine Below.alloc ?_ (by first | omega | (simp; done) | (simp; omega)) _ | refine Below.drew ?_ | refine Below.setCell ?_ (by first | omega | (simp; done) | (simp; omega)) _ | refine Below.trans ?_ (Below.mono (by assumption) (by first | omega | (simp; done) | (simp; omega)))))
  have t6 : Below w.heap.size w w6 := t5.trans (j6.mono t5.size)
  replace hs := hs.below j6
  replace hr := hr.below j6
  replace ht := ht.below j6
  replace q0 := below_cell j6 q0
  replace q1 := below_cell j6 q1
  replace q2 := below_cell j6 q2
  replace lB := Nat.lt_of_lt_of_le lB j6.size
  replace s2 := s2.below j6
  replace o2 := o2.below j6
  go_wp2_with fail
  go_at_call 22
  refine (play_eq a2 c2 r2 d2 p _ a3 t c3 S [] 0 HPE HO Hn s2 o2 SM x3 ST).mono ?_
  rintro e w7 ⟨⟨a4, c4, rfl, x4⟩, b7⟩
  have j7 : Below w6.heap.size w6 w7 := by (repeat (first | exact Below.refl _ _ | refine Below.alloc ?_ (by first | omega | (simp; done) | (simp; omega)) _ | refine Below.drew ?_ | refine Below.setCell ?_ (by first | omega | (simp; done) | (simp; omega)) _ | refine Below.trans ?_ (Below.mono (by assumption) (by first | omega | (simp; done) | (simp; omega)))))
  have t7 : Below w.heap.size w w7 := t6.trans (j7.mono t6.size)
  replace hs := hs.below j7
  replace hr := hr.below j7
  replace ht := ht.below j7
  replace q0 := below_cell j7 q0
  replace q1 := below_cell j7 q1
  replace q2 := below_cell j7 q2
  replace lB := Nat.lt_of_lt_of_le lB j7.size
  replace s2 := s2.below j7
  replace o2 := o2.below j7
  replace x3 := x3.below j7
  clear s2 o2 x3
  go_wp2_with fail
  go_at_call 24
  refine (fault_eq a c ar cr p _ 0 HE hs hr SM).mono ?_
  rintro e w8 ⟨rfl, b8⟩
  have j8 : Below w7.heap.size w7 w8 := by (repeat (first | exact Below.refl _ _ | refine Below.alloc ?_ (by first | omega | (simp; done) | (simp; omega)) _ | refine Below.drew ?_ | refine Below.setCell ?_ (by first | omega | (simp; done) | (simp; omega)) _ | refine Below.trans ?_ (Below.mono (by assumption) (by first | omega | (simp; done) | (simp; omega)))))
  have t8 : Below w.heap.size w w8 := t7.trans (j8.mono t7.size)
  replace hs := hs.below j8
  replace hr := hr.below j8
  replace ht := ht.below j8
  replace q0 := below_cell j8 q0
  replace q1 := below_cell j8 q1
  replace q2 := below_cell j8 q2
  replace lB := Nat.lt_of_lt_of_le lB j8.size
  replace x4 := x4.below j8
  go_wp2_with fail
  go_at_call 24
  refine (fault_eq a c ar cr p _ 0 HE hs hr SM).mono ?_
  rintro e w9 ⟨rfl, b9⟩
  have j9 : Below w8.heap.size w8 w9 := by (repeat (first | exact Below.refl _ _ | refine Below.alloc ?_ (by first | omega | (simp; done) | (simp; omega)) _ | refine Below.drew ?_ | refine Below.setCell ?_ (by first | omega | (simp; done) | (simp; omega)) _ | refine Below.trans ?_ (Below.mono (by assumption) (by first | omega | (simp; done) | (simp; omega)))))
  have t9 : Below w.heap.size w w9 := t8.trans (j9.mono t8.size)
  replace hs := hs.below j9
  replace hr := hr.below j9
  replace ht := ht.below j9
  replace q0 := below_cell j9 q0
  replace q1 := below_cell j9 q1
  replace q2 := below_cell j9 q2
  replace lB := Nat.lt_of_lt_of_le lB j9.size
  replace x4 := x4.below j9
  go_wp2_with fail
  go_at_call 25
  refine (tfault_eq a c ar cr p _ at_ t ct S HSE hr SM ht ST).mono ?_
  rintro e w10 ⟨rfl, b10⟩
  have j10 : Below w9.heap.size w9 w10 := by (repeat (first | exact Below.refl _ _ | refine Below.alloc ?_ (by first | omega | (simp; done) | (simp; omega)) _ | refine Below.drew ?_ | refine Below.setCell ?_ (by first | omega | (simp; done) | (simp; omega)) _ | refine Below.trans ?_ (Below.mono (by assumption) (by first | omega | (simp; done) | (simp; omega)))))
  have t10 : Below w.heap.size w w10 := t9.trans (j10.mono t9.size)
  replace hs := hs.below j10
  replace hr := hr.below j10
  replace ht := ht.below j10
  replace q0 := below_cell j10 q0
  replace q1 := below_cell j10 q1
  replace q2 := below_cell j10 q2
  replace lB := Nat.lt_of_lt_of_le lB j10.size
  replace x4 := x4.below j10
  go_wp2_with fail
  go_at_call 19
  refine (awake_any _).mono ?_
  rintro e w11 ⟨rfl, b11⟩
  have j11 : Below w10.heap.size w10 w11 := by (repeat (first | exact Below.refl _ _ | refine Below.alloc ?_ (by first | omega | (simp; done) | (simp; omega)) _ | refine Below.drew ?_ | refine Below.setCell ?_ (by first | omega | (simp; done) | (simp; omega)) _ | refine Below.trans ?_ (Below.mono (by assumption) (by first | omega | (simp; done) | (simp; omega)))))
  have t11 : Below w.heap.size w w11 := t10.trans (j11.mono t10.size)
  replace hs := hs.below j11
  replace hr := hr.below j11
  replace ht := ht.below j11
  replace q0 := below_cell j11 q0
  replace q1 := below_cell j11 q1
  replace q2 := below_cell j11 q2
  replace lB := Nat.lt_of_lt_of_le lB j11.size
  replace x4 := x4.below j11
  go_wp2_with fail
  go_ret
  exact ⟨rfl, t11⟩

set_option maxRecDepth 100000 in
set_option maxHeartbeats 4000000 in
theorem plays_b3 (a : Option Addr) (c : Nat) (ar : Option Addr) (cr : Nat) (p : Post) (at_ : Option Addr) (t : List (List (List Int))) (ct : Nat) (w : World) (hs : IntsAt w a p.sends) (hr : RoutesAt w ar p.routes) (na : a = none → c = 0) (big : PostBig p) (ht : TruthAt w at_ t) (bt : TruthBig t) (hT : thinB p = true) (hS : shortB t = true) (hE : postErr p = 0) (hQ : shapeErr p t = 0) :
    Calls Try.prog 3 #[.agg #[.slice a p.sends.length c, .slice ar p.routes.length cr, .int .i64 p.pat], .slice at_ t.length ct] w fun e w' => e = .returned (.bool true) ∧ Below w.heap.size w w' := by

  have HB := Lib.hid big
  have HT := Lib.hid hT
  have HBT := Lib.hid bt
  have SM := Lib.hid (thin_small hT)
  have HS := Lib.hid hS
  have ST := Lib.hid (short_small hS)
  clear hT big bt hS
  have hPE : playErr p t = 0 := by unfold playErr; rw [if_pos hE, hQ]
  have hO : playOut p t = playF p t := by unfold playOut; rw [hPE]; rfl
  have OK := Lib.hid (playOk_of hE hQ)
  obtain ⟨O, hX⟩ : ∃ O, playF p t = O := ⟨_, rfl⟩
  rw [hX] at hO
  have HO := Lib.hid hO
  have HO2 := Lib.hid hX
  have HE := Lib.hid hE
  have HSE := Lib.hid hQ
  have HPE := Lib.hid hPE
  obtain ⟨n, hn⟩ : ∃ n, O.length = n := ⟨_, rfl⟩
  have Hn := Lib.hid hn
  have ln : n ≤ 1000 := by rw [← hn, ← hX]; unfold playF; rw [playGo_len]; exact ST.out.n
  clear hX hPE hE hQ hO hn
  go_enter Try.func3, Try.ntmps3
  go_wp2_with fail
  go_at_call 17
  refine (thin_eq a c ar cr p _ true HT (hr.below (by (repeat (first | exact Below.refl _ _ | refine Below.alloc ?_ (by first | omega | (simp; done) | (simp; omega)) _ | refine Below.drew ?_ | refine Below.setCell ?_ (by first | omega | (simp; done) | (simp; omega)) _ | refine Below.trans ?_ (Below.mono (by assumption) (by first | omega | (simp; done) | (simp; omega))))))) HB.out).mono ?_
  rintro e w1 ⟨rfl, b1⟩
  have t1 : Below w.heap.size w w1 := by (repeat (first | exact Below.refl _ _ | refine Below.alloc ?_ (by first | omega | (simp; done) | (simp; omega)) _ | refine Below.drew ?_ | refine Below.setCell ?_ (by first | omega | (simp; done) | (simp; omega)) _ | refine Below.trans ?_ (Below.mono (by assumption) (by first | omega | (simp; done) | (simp; omega)))))
  replace hs := hs.below t1
  replace hr := hr.below t1
  replace ht := ht.below t1
  have q0 := box_cells b1 0 rfl
  have q1 := box_cells b1 1 rfl
  have q2 := box_cells b1 2 rfl
  have lB := cell_ltK q0
  go_wp2_with fail
  go_at_call 18
  refine (short_eq _ at_ t ct true HS (ht.below (by (repeat (first | exact Below.refl _ _ | refine Below.alloc ?_ (by first | omega | (simp; done) | (simp; omega)) _ | refine Below.drew ?_ | refine Below.setCell ?_ (by first | omega | (simp; done) | (simp; omega)) _ | refine Below.trans ?_ (Below.mono (by assumption) (by first | omega | (simp; done) | (simp; omega))))))) HBT.out).mono ?_
  rintro e w2 ⟨rfl, b2⟩
  have j2 : Below w1.heap.size w1 w2 := by (repeat (first | exact Below.refl _ _ | refine Below.alloc ?_ (by first | omega | (simp; done) | (simp; omega)) _ | refine Below.drew ?_ | refine Below.setCell ?_ (by first | omega | (simp; done) | (simp; omega)) _ | refine Below.trans ?_ (Below.mono (by assumption) (by first | omega | (simp; done) | (simp; omega)))))
  have t2 : Below w.heap.size w w2 := t1.trans (j2.mono t1.size)
  replace hs := hs.below j2
  replace hr := hr.below j2
  replace ht := ht.below j2
  replace q0 := below_cell j2 q0
  replace q1 := below_cell j2 q1
  replace q2 := below_cell j2 q2
  replace lB := Nat.lt_of_lt_of_le lB j2.size
  go_wp2_with fail
  go_at_call 21
  refine (post_eq a c ar cr p _ hs hr SM na).mono ?_
  rintro e w3 ⟨⟨a1, c1, r1, d1, rfl, s1, o1⟩, b3⟩
  have j3 : Below w2.heap.size w2 w3 := by (repeat (first | exact Below.refl _ _ | refine Below.alloc ?_ (by first | omega | (simp; done) | (simp; omega)) _ | refine Below.drew ?_ | refine Below.setCell ?_ (by first | omega | (simp; done) | (simp; omega)) _ | refine Below.trans ?_ (Below.mono (by assumption) (by first | omega | (simp; done) | (simp; omega)))))
  have t3 : Below w.heap.size w w3 := t2.trans (j3.mono t2.size)
  replace hs := hs.below j3
  replace hr := hr.below j3
  replace ht := ht.below j3
  replace q0 := below_cell j3 q0
  replace q1 := below_cell j3 q1
  replace q2 := below_cell j3 q2
  replace lB := Nat.lt_of_lt_of_le lB j3.size
  go_wp2_with fail
  go_at_call 20
  refine (chk_eq a1 c1 r1 d1 p _ 0 HE s1 o1 SM).mono ?_
  rintro e w4 ⟨rfl, b4⟩
  have j4 : Below w3.heap.size w3 w4 := by (repeat (first | exact Below.refl _ _ | refine Below.alloc ?_ (by first | omega | (simp; done) | (simp; omega)) _ | refine Below.drew ?_ | refine Below.setCell ?_ (by first | omega | (simp; done) | (simp; omega)) _ | refine Below.trans ?_ (Below.mono (by assumption) (by first | omega | (simp; done) | (simp; omega)))))
  have t4 : Below w.heap.size w w4 := t3.trans (j4.mono t3.size)
  replace hs := hs.below j4
  replace hr := hr.below j4
  replace ht := ht.below j4
  replace q0 := below_cell j4 q0
  replace q1 := below_cell j4 q1
  replace q2 := below_cell j4 q2
  replace lB := Nat.lt_of_lt_of_le lB j4.size
  replace s1 := s1.below j4
  replace o1 := o1.below j4
  clear s1 o1
  go_wp2_with fail
  go_at_call 21
  refine (post_eq a c ar cr p _ hs hr SM na).mono ?_
  rintro e w5 ⟨⟨a2, c2, r2, d2, rfl, s2, o2⟩, b5⟩
  have j5 : Below w4.heap.size w4 w5 := by (repeat (first | exact Below.refl _ _ | refine Below.alloc ?_ (by first | omega | (simp; done) | (simp; omega)) _ | refine Below.drew ?_ | refine Below.setCell ?_ (by first | omega | (simp; done) | (simp; omega)) _ | refine Below.trans ?_ (Below.mono (by assumption) (by first | omega | (simp; done) | (simp; omega)))))
  have t5 : Below w.heap.size w w5 := t4.trans (j5.mono t4.size)
  replace hs := hs.below j5
  replace hr := hr.below j5
  replace ht := ht.below j5
  replace q0 := below_cell j5 q0
  replace q1 := below_cell j5 q1
  replace q2 := below_cell j5 q2
  replace lB := Nat.lt_of_lt_of_le lB j5.size
  go_wp2_with fail
  go_at_call 23
  refine (truth_eq _ at_ t ct ht ST).mono ?_
  rintro e w6 ⟨⟨a3, c3, rfl, x3⟩, b6⟩
  have j6 : Below w5.heap.size w5 w6 := by (repeat (first | exact Below.refl _ _ | refine Below.alloc ?_ (by first | omega | (simp; done) | (simp; omega)) _ | refine Below.drew ?_ | refine Below.setCell ?_ (by first | omega | (simp; done) | (simp; omega)) _ | refine Below.trans ?_ (Below.mono (by assumption) (by first | omega | (simp; done) | (simp; omega)))))
  have t6 : Below w.heap.size w w6 := t5.trans (j6.mono t5.size)
  replace hs := hs.below j6
  replace hr := hr.below j6
  replace ht := ht.below j6
  replace q0 := below_cell j6 q0
  replace q1 := below_cell j6 q1
  replace q2 := below_cell j6 q2
  replace lB := Nat.lt_of_lt_of_le lB j6.size
  replace s2 := s2.below j6
  replace o2 := o2.below j6
  go_wp2_with fail
  go_at_call 22
  refine (play_eq a2 c2 r2 d2 p _ a3 t c3 0 O n HPE HO Hn s2 o2 SM x3 ST).mono ?_
  rintro e w7 ⟨⟨a4, c4, rfl, x4⟩, b7⟩
  have j7 : Below w6.heap.size w6 w7 := by (repeat (first | exact Below.refl _ _ | refine Below.alloc ?_ (by first | omega | (simp; done) | (simp; omega)) _ | refine Below.drew ?_ | refine Below.setCell ?_ (by first | omega | (simp; done) | (simp; omega)) _ | refine Below.trans ?_ (Below.mono (by assumption) (by first | omega | (simp; done) | (simp; omega)))))
  have t7 : Below w.heap.size w w7 := t6.trans (j7.mono t6.size)
  replace hs := hs.below j7
  replace hr := hr.below j7
  replace ht := ht.below j7
  replace q0 := below_cell j7 q0
  replace q1 := below_cell j7 q1
  replace q2 := below_cell j7 q2
  replace lB := Nat.lt_of_lt_of_le lB j7.size
  replace s2 := s2.below j7
  replace o2 := o2.below j7
  replace x3 := x3.below j7
  clear s2 o2 x3
  go_wp2_with fail
  go_at_call 24
  refine (fault_eq a c ar cr p _ 0 HE hs hr SM).mono ?_
  rintro e w8 ⟨rfl, b8⟩
  have j8 : Below w7.heap.size w7 w8 := by (repeat (first | exact Below.refl _ _ | refine Below.alloc ?_ (by first | omega | (simp; done) | (simp; omega)) _ | refine Below.drew ?_ | refine Below.setCell ?_ (by first | omega | (simp; done) | (simp; omega)) _ | refine Below.trans ?_ (Below.mono (by assumption) (by first | omega | (simp; done) | (simp; omega)))))
  have t8 : Below w.heap.size w w8 := t7.trans (j8.mono t7.size)
  replace hs := hs.below j8
  replace hr := hr.below j8
  replace ht := ht.below j8
  replace q0 := below_cell j8 q0
  replace q1 := below_cell j8 q1
  replace q2 := below_cell j8 q2
  replace lB := Nat.lt_of_lt_of_le lB j8.size
  replace x4 := x4.below j8
  go_wp2_with fail
  go_at_call 24
  refine (fault_eq a c ar cr p _ 0 HE hs hr SM).mono ?_
  rintro e w9 ⟨rfl, b9⟩
  have j9 : Below w8.heap.size w8 w9 := by (repeat (first | exact Below.refl _ _ | refine Below.alloc ?_ (by first | omega | (simp; done) | (simp; omega)) _ | refine Below.drew ?_ | refine Below.setCell ?_ (by first | omega | (simp; done) | (simp; omega)) _ | refine Below.trans ?_ (Below.mono (by assumption) (by first | omega | (simp; done) | (simp; omega)))))
  have t9 : Below w.heap.size w w9 := t8.trans (j9.mono t8.size)
  replace hs := hs.below j9
  replace hr := hr.below j9
  replace ht := ht.below j9
  replace q0 := below_cell j9 q0
  replace q1 := below_cell j9 q1
  replace q2 := below_cell j9 q2
  replace lB := Nat.lt_of_lt_of_le lB j9.size
  replace x4 := x4.below j9
  go_wp2_with fail
  go_at_call 25
  refine (tfault_eq a c ar cr p _ at_ t ct 0 HSE hr SM ht ST).mono ?_
  rintro e w10 ⟨rfl, b10⟩
  have j10 : Below w9.heap.size w9 w10 := by (repeat (first | exact Below.refl _ _ | refine Below.alloc ?_ (by first | omega | (simp; done) | (simp; omega)) _ | refine Below.drew ?_ | refine Below.setCell ?_ (by first | omega | (simp; done) | (simp; omega)) _ | refine Below.trans ?_ (Below.mono (by assumption) (by first | omega | (simp; done) | (simp; omega)))))
  have t10 : Below w.heap.size w w10 := t9.trans (j10.mono t9.size)
  replace hs := hs.below j10
  replace hr := hr.below j10
  replace ht := ht.below j10
  replace q0 := below_cell j10 q0
  replace q1 := below_cell j10 q1
  replace q2 := below_cell j10 q2
  replace lB := Nat.lt_of_lt_of_le lB j10.size
  replace x4 := x4.below j10
  go_wp2_with fail
  go_at_call 27
  refine (rplay_eq a c ar cr p _ at_ t ct O n HO2 Hn hs hr ht OK).mono ?_
  rintro e w11 ⟨⟨a5, c5, rfl, x5⟩, b11⟩
  have j11 : Below w10.heap.size w10 w11 := by (repeat (first | exact Below.refl _ _ | refine Below.alloc ?_ (by first | omega | (simp; done) | (simp; omega)) _ | refine Below.drew ?_ | refine Below.setCell ?_ (by first | omega | (simp; done) | (simp; omega)) _ | refine Below.trans ?_ (Below.mono (by assumption) (by first | omega | (simp; done) | (simp; omega)))))
  have t11 : Below w.heap.size w w11 := t10.trans (j11.mono t10.size)
  replace hs := hs.below j11
  replace hr := hr.below j11
  replace ht := ht.below j11
  replace q0 := below_cell j11 q0
  replace q1 := below_cell j11 q1
  replace q2 := below_cell j11 q2
  replace lB := Nat.lt_of_lt_of_le lB j11.size
  replace x4 := x4.below j11
  go_wp2_with fail
  go_at_call 26
  refine (same_eq a4 O n c4 Hn.out a5 c5 _ x4 x5 ln).mono ?_
  rintro e w12 ⟨rfl, b12⟩
  have j12 : Below w11.heap.size w11 w12 := by (repeat (first | exact Below.refl _ _ | refine Below.alloc ?_ (by first | omega | (simp; done) | (simp; omega)) _ | refine Below.drew ?_ | refine Below.setCell ?_ (by first | omega | (simp; done) | (simp; omega)) _ | refine Below.trans ?_ (Below.mono (by assumption) (by first | omega | (simp; done) | (simp; omega)))))
  have t12 : Below w.heap.size w w12 := t11.trans (j12.mono t11.size)
  replace hs := hs.below j12
  replace hr := hr.below j12
  replace ht := ht.below j12
  replace q0 := below_cell j12 q0
  replace q1 := below_cell j12 q1
  replace q2 := below_cell j12 q2
  replace lB := Nat.lt_of_lt_of_le lB j12.size
  replace x4 := x4.below j12
  replace x5 := x5.below j12
  go_wp2_with fail
  go_at_call 19
  refine (awake_any _).mono ?_
  rintro e w13 ⟨rfl, b13⟩
  have j13 : Below w12.heap.size w12 w13 := by (repeat (first | exact Below.refl _ _ | refine Below.alloc ?_ (by first | omega | (simp; done) | (simp; omega)) _ | refine Below.drew ?_ | refine Below.setCell ?_ (by first | omega | (simp; done) | (simp; omega)) _ | refine Below.trans ?_ (Below.mono (by assumption) (by first | omega | (simp; done) | (simp; omega)))))
  have t13 : Below w.heap.size w w13 := t12.trans (j13.mono t12.size)
  replace hs := hs.below j13
  replace hr := hr.below j13
  replace ht := ht.below j13
  replace q0 := below_cell j13 q0
  replace q1 := below_cell j13 q1
  replace q2 := below_cell j13 q2
  replace lB := Nat.lt_of_lt_of_le lB j13.size
  replace x4 := x4.below j13
  replace x5 := x5.below j13
  go_wp2_with fail
  go_ret
  exact ⟨rfl, t13⟩

theorem plays_walk (a : Option Addr) (c : Nat) (ar : Option Addr) (cr : Nat) (p : Post) (at_ : Option Addr) (t : List (List (List Int))) (ct : Nat) (w : World) (hs : IntsAt w a p.sends) (hr : RoutesAt w ar p.routes) (na : a = none → c = 0) (big : PostBig p) (ht : TruthAt w at_ t) (_ : at_ = none → ct = 0) (bt : TruthBig t) :
    Calls Try.prog 3 #[.agg #[.slice a p.sends.length c, .slice ar p.routes.length cr, .int .i64 p.pat], .slice at_ t.length ct] w fun e w' => e = .returned (.bool true) ∧ Below w.heap.size w w' := by
  cases hT : thinB p
  · exact plays_a1 a c ar cr p at_ t ct w hs hr na big ht bt hT
  · cases hS : shortB t
    · exact plays_a2 a c ar cr p at_ t ct w hs hr na big ht bt hT hS
    · by_cases hE : postErr p = 0
      · by_cases hQ : shapeErr p t = 0
        · exact plays_b3 a c ar cr p at_ t ct w hs hr na big ht bt hT hS hE hQ
        · exact plays_b2 a c ar cr p at_ t ct w hs hr na big ht bt hT hS hE hQ
      · exact plays_b1 a c ar cr p at_ t ct w hs hr na big ht bt hT hS hE
end Go.Proofs.Ytfclemnkcpadpaa
