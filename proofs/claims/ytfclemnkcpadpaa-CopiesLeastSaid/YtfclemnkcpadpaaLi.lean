/- CopiesLeast: the walk -/
import Derived.Test.YtfclemnkcpadpaaLh
import Derived.Test.YtfclemnkcpadpaaPc
namespace Go.Proofs.Ytfclemnkcpadpaa
set_option linter.unusedVariables false
set_option linter.unusedSimpArgs false
set_option linter.unnecessarySimpa false
open Go.RowKit Go.Flow

set_option maxRecDepth 100000 in
set_option maxHeartbeats 4000000 in
theorem least_a1 (a : Option Addr) (c : Nat) (ar : Option Addr) (cr : Nat) (p : Post) (y : Int) (w : World) (hs : IntsAt w a p.sends) (hr : RoutesAt w ar p.routes) (na : a = none → c = 0) (big : PostBig p) (hy : 0 ≤ y ∧ y ≤ 255) (hT : readyB p = false) :
    Calls Try.prog 7 #[.agg #[.slice a p.sends.length c, .slice ar p.routes.length cr, .int .i64 p.pat], .int .u8 y] w fun e w' => e = .returned (.bool true) ∧ Below w.heap.size w w' := by

  have HB := Lib.hid big
  have HT := Lib.hid hT
  clear hT big
  go_enter Try.func7, Try.ntmps7
  go_wp2_with fail
  go_at_call 44
  refine (ready_eq a c ar cr p _ false HT (hs.below (by (repeat (first | exact Below.refl _ _ | refine Below.alloc ?_ (by first | omega | (simp; done) | (simp; omega)) _ | refine Below.drew ?_ | refine Below.setCell ?_ (by first | omega | (simp; done) | (simp; omega)) _ | refine Below.trans ?_ (Below.mono (by assumption) (by first | omega | (simp; done) | (simp; omega))))))) (hr.below (by (repeat (first | exact Below.refl _ _ | refine Below.alloc ?_ (by first | omega | (simp; done) | (simp; omega)) _ | refine Below.drew ?_ | refine Below.setCell ?_ (by first | omega | (simp; done) | (simp; omega)) _ | refine Below.trans ?_ (Below.mono (by assumption) (by first | omega | (simp; done) | (simp; omega))))))) HB.out).mono ?_
  rintro e w1 ⟨rfl, b1⟩
  have t1 : Below w.heap.size w w1 := by (repeat (first | exact Below.refl _ _ | refine Below.alloc ?_ (by first | omega | (simp; done) | (simp; omega)) _ | refine Below.drew ?_ | refine Below.setCell ?_ (by first | omega | (simp; done) | (simp; omega)) _ | refine Below.trans ?_ (Below.mono (by assumption) (by first | omega | (simp; done) | (simp; omega)))))
  replace hs := hs.below t1
  replace hr := hr.below t1
  have q0 := box_cells b1 0 rfl
  have q1 := box_cells b1 1 rfl
  have q2 := box_cells b1 2 rfl
  have lB := cell_ltK q0
  go_wp2_with fail
  go_at_call 19
  refine (awake_any _).mono ?_
  rintro e w2 ⟨rfl, b2⟩
  have j2 : Below w1.heap.size w1 w2 := by (repeat (first | exact Below.refl _ _ | refine Below.alloc ?_ (by first | omega | (simp; done) | (simp; omega)) _ | refine Below.drew ?_ | refine Below.setCell ?_ (by first | omega | (simp; done) | (simp; omega)) _ | refine Below.trans ?_ (Below.mono (by assumption) (by first | omega | (simp; done) | (simp; omega)))))
  have t2 : Below w.heap.size w w2 := t1.trans (j2.mono t1.size)
  replace hs := hs.below j2
  replace hr := hr.below j2
  replace q0 := below_cell j2 q0
  replace q1 := below_cell j2 q1
  replace q2 := below_cell j2 q2
  replace lB := Nat.lt_of_lt_of_le lB j2.size
  go_wp2_with fail
  go_ret
  exact ⟨rfl, t2⟩

set_option maxRecDepth 100000 in
set_option maxHeartbeats 4000000 in
theorem least_a2 (a : Option Addr) (c : Nat) (ar : Option Addr) (cr : Nat) (p : Post) (y : Int) (w : World) (hs : IntsAt w a p.sends) (hr : RoutesAt w ar p.routes) (na : a = none → c = 0) (big : PostBig p) (hy : 0 ≤ y ∧ y ≤ 255) (hT : readyB p = true) (hL : leastErr p ≠ 0) :
    Calls Try.prog 7 #[.agg #[.slice a p.sends.length c, .slice ar p.routes.length cr, .int .i64 p.pat], .int .u8 y] w fun e w' => e = .returned (.bool true) ∧ Below w.heap.size w w' := by

  have HB := Lib.hid big
  have HT := Lib.hid hT
  have SM := Lib.hid (ready_small hT).1
  obtain ⟨m, rfl, hm⟩ : ∃ m : Nat, y = (m : Int) ∧ m ≤ 255 := ⟨y.toNat, by omega, by omega⟩
  obtain ⟨x, hx⟩ : ∃ x, m % 31 = x := ⟨_, rfl⟩
  have hx30 : x ≤ 30 := by omega
  have hrem : Int.tmod (m : Int) 31 = (x : Int) := by rw [← hx]; rfl
  obtain ⟨E9, hlt⟩ := least_none (ready_small hT).2 hL hx30
  have HE := Lib.hid (ready_small hT).2
  have HX : Hid (postErr (withPat p x) = 0) := Lib.hid (postErr_pat HE.out (by omega) (by omega))
  have SX : Hid (PostSmall (withPat p x)) := Lib.hid ⟨SM.out.1, SM.out.2, SM.out.3, SM.out.4⟩
  have HLE := Lib.hid E9
  obtain ⟨O, hO⟩ : ∃ O, sureOut (withPat p x) = O := ⟨_, rfl⟩
  obtain ⟨n, hn⟩ : ∃ n, O.length = n := ⟨_, rfl⟩
  rw [hO, hn] at hlt
  have HO := Lib.hid hO
  have Hn := Lib.hid hn
  obtain ⟨LO, hLO⟩ : ∃ z, leastOut p = z := ⟨_, rfl⟩
  have HLO := Lib.hid hLO
  have lS : p.sends.length ≤ 1000 := SM.out.1
  clear hT big hL E9 hO hn hx hLO
  go_enter Try.func7, Try.ntmps7
  go_wp2_with fail
  go_at_call 44
  refine (ready_eq a c ar cr p _ true HT (hs.below (by (repeat (first | exact Below.refl _ _ | refine Below.alloc ?_ (by first | omega | (simp; done) | (simp; omega)) _ | refine Below.drew ?_ | refine Below.setCell ?_ (by first | omega | (simp; done) | (simp; omega)) _ | refine Below.trans ?_ (Below.mono (by assumption) (by first | omega | (simp; done) | (simp; omega))))))) (hr.below (by (repeat (first | exact Below.refl _ _ | refine Below.alloc ?_ (by first | omega | (simp; done) | (simp; omega)) _ | refine Below.drew ?_ | refine Below.setCell ?_ (by first | omega | (simp; done) | (simp; omega)) _ | refine Below.trans ?_ (Below.mono (by assumption) (by first | omega | (simp; done) | (simp; omega))))))) HB.out).mono ?_
  rintro e w1 ⟨rfl, b1⟩
  have t1 : Below w.heap.size w w1 := by (repeat (first | exact Below.refl _ _ | refine Below.alloc ?_ (by first | omega | (simp; done) | (simp; omega)) _ | refine Below.drew ?_ | refine Below.setCell ?_ (by first | omega | (simp; done) | (simp; omega)) _ | refine Below.trans ?_ (Below.mono (by assumption) (by first | omega | (simp; done) | (simp; omega)))))
  replace hs := hs.below t1
  replace hr := hr.below t1
  have q0 := box_cells b1 0 rfl
  have q1 := box_cells b1 1 rfl
  have q2 := box_cells b1 2 rfl
  have lB := cell_ltK q0
  go_wp2_with fail
  go_at_call 21
  refine (post_eq a c ar cr p _ hs hr SM na).mono ?_
  rintro e w2 ⟨⟨a1, c1, r1, d1, rfl, s1, o1⟩, b2⟩
  have j2 : Below w1.heap.size w1 w2 := by (repeat (first | exact Below.refl _ _ | refine Below.alloc ?_ (by first | omega | (simp; done) | (simp; omega)) _ | refine Below.drew ?_ | refine Below.setCell ?_ (by first | omega | (simp; done) | (simp; omega)) _ | refine Below.trans ?_ (Below.mono (by assumption) (by first | omega | (simp; done) | (simp; omega)))))
  have t2 : Below w.heap.size w w2 := t1.trans (j2.mono t1.size)
  replace hs := hs.below j2
  replace hr := hr.below j2
  replace q0 := below_cell j2 q0
  replace q1 := below_cell j2 q1
  replace q2 := below_cell j2 q2
  replace lB := Nat.lt_of_lt_of_le lB j2.size
  go_wp2_with fail
  go_at_call 34
  refine (least_eq a1 c1 r1 d1 p _ 9 LO HLE HLO s1 o1 SM).mono ?_
  rintro e w3 ⟨rfl, b3⟩
  have j3 : Below w2.heap.size w2 w3 := by (repeat (first | exact Below.refl _ _ | refine Below.alloc ?_ (by first | omega | (simp; done) | (simp; omega)) _ | refine Below.drew ?_ | refine Below.setCell ?_ (by first | omega | (simp; done) | (simp; omega)) _ | refine Below.trans ?_ (Below.mono (by assumption) (by first | omega | (simp; done) | (simp; omega)))))
  have t3 : Below w.heap.size w w3 := t2.trans (j3.mono t2.size)
  replace hs := hs.below j3
  replace hr := hr.below j3
  replace q0 := below_cell j3 q0
  replace q1 := below_cell j3 q1
  replace q2 := below_cell j3 q2
  replace lB := Nat.lt_of_lt_of_le lB j3.size
  replace s1 := s1.below j3
  replace o1 := o1.below j3
  clear s1 o1
  go_wp2_with fail
  go_at_call 21
  refine (postX_eq a c ar cr p _ x (hs.below (by (repeat (first | exact Below.refl _ _ | refine Below.alloc ?_ (by first | omega | (simp; done) | (simp; omega)) _ | refine Below.drew ?_ | refine Below.setCell ?_ (by first | omega | (simp; done) | (simp; omega)) _ | refine Below.trans ?_ (Below.mono (by assumption) (by first | omega | (simp; done) | (simp; omega))))))) (hr.below (by (repeat (first | exact Below.refl _ _ | refine Below.alloc ?_ (by first | omega | (simp; done) | (simp; omega)) _ | refine Below.drew ?_ | refine Below.setCell ?_ (by first | omega | (simp; done) | (simp; omega)) _ | refine Below.trans ?_ (Below.mono (by assumption) (by first | omega | (simp; done) | (simp; omega))))))) SM na).mono ?_
  rintro e w4 ⟨⟨a2, c2, r2, d2, rfl, s2, o2⟩, b4⟩
  have j4 : Below w3.heap.size w3 w4 := by (repeat (first | exact Below.refl _ _ | refine Below.alloc ?_ (by first | omega | (simp; done) | (simp; omega)) _ | refine Below.drew ?_ | refine Below.setCell ?_ (by first | omega | (simp; done) | (simp; omega)) _ | refine Below.trans ?_ (Below.mono (by assumption) (by first | omega | (simp; done) | (simp; omega)))))
  have t4 : Below w.heap.size w w4 := t3.trans (j4.mono t3.size)
  replace hs := hs.below j4
  replace hr := hr.below j4
  replace q0 := below_cell j4 q0
  replace q1 := below_cell j4 q1
  replace q2 := below_cell j4 q2
  replace lB := Nat.lt_of_lt_of_le lB j4.size
  have x0 := box_cells b4 0 rfl
  have x1 := box_cells b4 1 rfl
  have x2 := box_cells b4 2 rfl
  have lx := cell_ltK x0
  go_wp2_with fail
  go_at_call 33
  refine (sureX_eq a2 c2 r2 d2 p _ x 0 O n HX HO Hn s2 o2 SM).mono ?_
  rintro e w5 ⟨⟨e2, f2, rfl, i2⟩, b5⟩
  have j5 : Below w4.heap.size w4 w5 := by (repeat (first | exact Below.refl _ _ | refine Below.alloc ?_ (by first | omega | (simp; done) | (simp; omega)) _ | refine Below.drew ?_ | refine Below.setCell ?_ (by first | omega | (simp; done) | (simp; omega)) _ | refine Below.trans ?_ (Below.mono (by assumption) (by first | omega | (simp; done) | (simp; omega)))))
  have t5 : Below w.heap.size w w5 := t4.trans (j5.mono t4.size)
  replace hs := hs.below j5
  replace hr := hr.below j5
  replace q0 := below_cell j5 q0
  replace q1 := below_cell j5 q1
  replace q2 := below_cell j5 q2
  replace lB := Nat.lt_of_lt_of_le lB j5.size
  replace s2 := s2.below j5
  replace o2 := o2.below j5
  replace x0 := below_cell j5 x0
  replace x1 := below_cell j5 x1
  replace x2 := below_cell j5 x2
  replace lx := Nat.lt_of_lt_of_le lx j5.size
  clear s2 o2
  go_wp2_with fail
  go_at_call 19
  refine (awake_any _).mono ?_
  rintro e w6 ⟨rfl, b6⟩
  have j6 : Below w5.heap.size w5 w6 := by (repeat (first | exact Below.refl _ _ | refine Below.alloc ?_ (by first | omega | (simp; done) | (simp; omega)) _ | refine Below.drew ?_ | refine Below.setCell ?_ (by first | omega | (simp; done) | (simp; omega)) _ | refine Below.trans ?_ (Below.mono (by assumption) (by first | omega | (simp; done) | (simp; omega)))))
  have t6 : Below w.heap.size w w6 := t5.trans (j6.mono t5.size)
  replace hs := hs.below j6
  replace hr := hr.below j6
  replace q0 := below_cell j6 q0
  replace q1 := below_cell j6 q1
  replace q2 := below_cell j6 q2
  replace lB := Nat.lt_of_lt_of_le lB j6.size
  replace x0 := below_cell j6 x0
  replace x1 := below_cell j6 x1
  replace x2 := below_cell j6 x2
  replace lx := Nat.lt_of_lt_of_le lx j6.size
  go_wp2_with fail
  go_ret
  exact ⟨rfl, t6⟩

set_option maxRecDepth 100000 in
set_option maxHeartbeats 4000000 in
theorem least_a3 (a : Option Addr) (c : Nat) (ar : Option Addr) (cr : Nat) (p : Post) (y : Int) (w : World) (hs : IntsAt w a p.sends) (hr : RoutesAt w ar p.routes) (na : a = none → c = 0) (big : PostBig p) (hy : 0 ≤ y ∧ y ≤ 255) (hT : readyB p = true) (hL : leastErr p = 0) :
    Calls Try.prog 7 #[.agg #[.slice a p.sends.length c, .slice ar p.routes.length cr, .int .i64 p.pat], .int .u8 y] w fun e w' => e = .returned (.bool true) ∧ Below w.heap.size w w' := by

  have HB := Lib.hid big
  have HT := Lib.hid hT
  have SM := Lib.hid (ready_small hT).1
  obtain ⟨m, rfl, hm⟩ : ∃ m : Nat, y = (m : Int) ∧ m ≤ 255 := ⟨y.toNat, by omega, by omega⟩
  obtain ⟨x, hx⟩ : ∃ x, m % 31 = x := ⟨_, rfl⟩
  have hx30 : x ≤ 30 := by omega
  have hrem : Int.tmod (m : Int) 31 = (x : Int) := by rw [← hx]; rfl
  have HE := Lib.hid (ready_small hT).2
  obtain ⟨v, hLO, hv, hall, hiff⟩ := least_some HE.out hL hx30
  have HX : Hid (postErr (withPat p x) = 0) := Lib.hid (postErr_pat HE.out (by omega) (by omega))
  have HV : Hid (postErr (withPat p v) = 0) := Lib.hid (postErr_pat HE.out (by omega) (by omega))
  have HLE := Lib.hid hL
  have HLO := Lib.hid hLO
  obtain ⟨O, hO⟩ : ∃ O, sureOut (withPat p x) = O := ⟨_, rfl⟩
  obtain ⟨n, hn⟩ : ∃ n, O.length = n := ⟨_, rfl⟩
  obtain ⟨O2, hO2⟩ : ∃ O, sureOut (withPat p v) = O := ⟨_, rfl⟩
  have hle : n ≤ p.sends.length := by rw [← hn, ← hO, sureOut_pat HE.out (by omega) (by omega)]; exact sureF_len (withPat p x) p.sends.length
  rw [hO, hn] at hiff
  rw [hO2] at hall
  have HO := Lib.hid hO
  have Hn := Lib.hid hn
  have HO2 := Lib.hid hO2
  have Hn2 := Lib.hid hall
  have lS : p.sends.length ≤ 1000 := SM.out.1
  have hq : ((n : Int) == (p.sends.length : Int)) = decide ((v : Int) ≤ (x : Int)) := by
    rw [Bool.eq_iff_iff]
    simp only [beq_iff_eq, decide_eq_true_eq]
    omega
  have hin : inR (v : Int) (0, 30) = true := inR_iff.2 ⟨by omega, by omega⟩
  clear hT big hL hO hn hx hLO hall hiff hO2
  go_enter Try.func7, Try.ntmps7
  go_wp2_with fail
  go_at_call 44
  refine (ready_eq a c ar cr p _ true HT (hs.below (by (repeat (first | exact Below.refl _ _ | refine Below.alloc ?_ (by first | omega | (simp; done) | (simp; omega)) _ | refine Below.drew ?_ | refine Below.setCell ?_ (by first | omega | (simp; done) | (simp; omega)) _ | refine Below.trans ?_ (Below.mono (by assumption) (by first | omega | (simp; done) | (simp; omega))))))) (hr.below (by (repeat (first | exact Below.refl _ _ | refine Below.alloc ?_ (by first | omega | (simp; done) | (simp; omega)) _ | refine Below.drew ?_ | refine Below.setCell ?_ (by first | omega | (simp; done) | (simp; omega)) _ | refine Below.trans ?_ (Below.mono (by assumption) (by first | omega | (simp; done) | (simp; omega))))))) HB.out).mono ?_
  rintro e w1 ⟨rfl, b1⟩
  have t1 : Below w.heap.size w w1 := by (repeat (first | exact Below.refl _ _ | refine Below.alloc ?_ (by first | omega | (simp; done) | (simp; omega)) _ | refine Below.drew ?_ | refine Below.setCell ?_ (by first | omega | (simp; done) | (simp; omega)) _ | refine Below.trans ?_ (Below.mono (by assumption) (by first | omega | (simp; done) | (simp; omega)))))
  replace hs := hs.below t1
  replace hr := hr.below t1
  have q0 := box_cells b1 0 rfl
  have q1 := box_cells b1 1 rfl
  have q2 := box_cells b1 2 rfl
  have lB := cell_ltK q0
  go_wp2_with fail
  go_at_call 21
  refine (post_eq a c ar cr p _ hs hr SM na).mono ?_
  rintro e w2 ⟨⟨a1, c1, r1, d1, rfl, s1, o1⟩, b2⟩
  have j2 : Below w1.heap.size w1 w2 := by (repeat (first | exact Below.refl _ _ | refine Below.alloc ?_ (by first | omega | (simp; done) | (simp; omega)) _ | refine Below.drew ?_ | refine Below.setCell ?_ (by first | omega | (simp; done) | (simp; omega)) _ | refine Below.trans ?_ (Below.mono (by assumption) (by first | omega | (simp; done) | (simp; omega)))))
  have t2 : Below w.heap.size w w2 := t1.trans (j2.mono t1.size)
  replace hs := hs.below j2
  replace hr := hr.below j2
  replace q0 := below_cell j2 q0
  replace q1 := below_cell j2 q1
  replace q2 := below_cell j2 q2
  replace lB := Nat.lt_of_lt_of_le lB j2.size
  go_wp2_with fail
  go_at_call 34
  refine (least_eq a1 c1 r1 d1 p _ 0 _ HLE HLO s1 o1 SM).mono ?_
  rintro e w3 ⟨rfl, b3⟩
  have j3 : Below w2.heap.size w2 w3 := by (repeat (first | exact Below.refl _ _ | refine Below.alloc ?_ (by first | omega | (simp; done) | (simp; omega)) _ | refine Below.drew ?_ | refine Below.setCell ?_ (by first | omega | (simp; done) | (simp; omega)) _ | refine Below.trans ?_ (Below.mono (by assumption) (by first | omega | (simp; done) | (simp; omega)))))
  have t3 : Below w.heap.size w w3 := t2.trans (j3.mono t2.size)
  replace hs := hs.below j3
  replace hr := hr.below j3
  replace q0 := below_cell j3 q0
  replace q1 := below_cell j3 q1
  replace q2 := below_cell j3 q2
  replace lB := Nat.lt_of_lt_of_le lB j3.size
  replace s1 := s1.below j3
  replace o1 := o1.below j3
  clear s1 o1
  go_wp2_with fail
  go_at_call 21
  refine (postX_eq a c ar cr p _ x (hs.below (by (repeat (first | exact Below.refl _ _ | refine Below.alloc ?_ (by first | omega | (simp; done) | (simp; omega)) _ | refine Below.drew ?_ | refine Below.setCell ?_ (by first | omega | (simp; done) | (simp; omega)) _ | refine Below.trans ?_ (Below.mono (by assumption) (by first | omega | (simp; done) | (simp; omega))))))) (hr.below (by (repeat (first | exact Below.refl _ _ | refine Below.alloc ?_ (by first | omega | (simp; done) | (simp; omega)) _ | refine Below.drew ?_ | refine Below.setCell ?_ (by first | omega | (simp; done) | (simp; omega)) _ | refine Below.trans ?_ (Below.mono (by assumption) (by first | omega | (simp; done) | (simp; omega))))))) SM na).mono ?_
  rintro e w4 ⟨⟨a2, c2, r2, d2, rfl, s2, o2⟩, b4⟩
  have j4 : Below w3.heap.size w3 w4 := by (repeat (first | exact Below.refl _ _ | refine Below.alloc ?_ (by first | omega | (simp; done) | (simp; omega)) _ | refine Below.drew ?_ | refine Below.setCell ?_ (by first | omega | (simp; done) | (simp; omega)) _ | refine Below.trans ?_ (Below.mono (by assumption) (by first | omega | (simp; done) | (simp; omega)))))
  have t4 : Below w.heap.size w w4 := t3.trans (j4.mono t3.size)
  replace hs := hs.below j4
  replace hr := hr.below j4
  replace q0 := below_cell j4 q0
  replace q1 := below_cell j4 q1
  replace q2 := below_cell j4 q2
  replace lB := Nat.lt_of_lt_of_le lB j4.size
  have x0 := box_cells b4 0 rfl
  have x1 := box_cells b4 1 rfl
  have x2 := box_cells b4 2 rfl
  have lx := cell_ltK x0
  go_wp2_with fail
  go_at_call 33
  refine (sureX_eq a2 c2 r2 d2 p _ x 0 O n HX HO Hn s2 o2 SM).mono ?_
  rintro e w5 ⟨⟨e2, f2, rfl, i2⟩, b5⟩
  have j5 : Below w4.heap.size w4 w5 := by (repeat (first | exact Below.refl _ _ | refine Below.alloc ?_ (by first | omega | (simp; done) | (simp; omega)) _ | refine Below.drew ?_ | refine Below.setCell ?_ (by first | omega | (simp; done) | (simp; omega)) _ | refine Below.trans ?_ (Below.mono (by assumption) (by first | omega | (simp; done) | (simp; omega)))))
  have t5 : Below w.heap.size w w5 := t4.trans (j5.mono t4.size)
  replace hs := hs.below j5
  replace hr := hr.below j5
  replace q0 := below_cell j5 q0
  replace q1 := below_cell j5 q1
  replace q2 := below_cell j5 q2
  replace lB := Nat.lt_of_lt_of_le lB j5.size
  replace s2 := s2.below j5
  replace o2 := o2.below j5
  replace x0 := below_cell j5 x0
  replace x1 := below_cell j5 x1
  replace x2 := below_cell j5 x2
  replace lx := Nat.lt_of_lt_of_le lx j5.size
  clear s2 o2
  go_wp2_with fail
  go_at_call 29
  refine (refIn_any _ _ _ _).mono ?_
  rintro e _ ⟨rfl, rfl⟩
  go_wp2_with fail
  go_at_call 21
  refine (postX_eq a c ar cr p _ v (hs.below (by (repeat (first | exact Below.refl _ _ | refine Below.alloc ?_ (by first | omega | (simp; done) | (simp; omega)) _ | refine Below.drew ?_ | refine Below.setCell ?_ (by first | omega | (simp; done) | (simp; omega)) _ | refine Below.trans ?_ (Below.mono (by assumption) (by first | omega | (simp; done) | (simp; omega))))))) (hr.below (by (repeat (first | exact Below.refl _ _ | refine Below.alloc ?_ (by first | omega | (simp; done) | (simp; omega)) _ | refine Below.drew ?_ | refine Below.setCell ?_ (by first | omega | (simp; done) | (simp; omega)) _ | refine Below.trans ?_ (Below.mono (by assumption) (by first | omega | (simp; done) | (simp; omega))))))) SM na).mono ?_
  rintro e w6 ⟨⟨a3, c3, r3, d3, rfl, s3, o3⟩, b6⟩
  have j6 : Below w5.heap.size w5 w6 := by (repeat (first | exact Below.refl _ _ | refine Below.alloc ?_ (by first | omega | (simp; done) | (simp; omega)) _ | refine Below.drew ?_ | refine Below.setCell ?_ (by first | omega | (simp; done) | (simp; omega)) _ | refine Below.trans ?_ (Below.mono (by assumption) (by first | omega | (simp; done) | (simp; omega)))))
  have t6 : Below w.heap.size w w6 := t5.trans (j6.mono t5.size)
  replace hs := hs.below j6
  replace hr := hr.below j6
  replace q0 := below_cell j6 q0
  replace q1 := below_cell j6 q1
  replace q2 := below_cell j6 q2
  replace lB := Nat.lt_of_lt_of_le lB j6.size
  replace x0 := below_cell j6 x0
  replace x1 := below_cell j6 x1
  replace x2 := below_cell j6 x2
  replace lx := Nat.lt_of_lt_of_le lx j6.size
  have z0 := box_cells b6 0 rfl
  have z1 := box_cells b6 1 rfl
  have z2 := box_cells b6 2 rfl
  have lz := cell_ltK z0
  go_wp2_with fail
  go_at_call 33
  refine (sureX_eq a3 c3 r3 d3 p _ v 0 O2 p.sends.length HV HO2 Hn2 s3 o3 SM).mono ?_
  rintro e w7 ⟨⟨e3, f3, rfl, i3⟩, b7⟩
  have j7 : Below w6.heap.size w6 w7 := by (repeat (first | exact Below.refl _ _ | refine Below.alloc ?_ (by first | omega | (simp; done) | (simp; omega)) _ | refine Below.drew ?_ | refine Below.setCell ?_ (by first | omega | (simp; done) | (simp; omega)) _ | refine Below.trans ?_ (Below.mono (by assumption) (by first | omega | (simp; done) | (simp; omega)))))
  have t7 : Below w.heap.size w w7 := t6.trans (j7.mono t6.size)
  replace hs := hs.below j7
  replace hr := hr.below j7
  replace q0 := below_cell j7 q0
  replace q1 := below_cell j7 q1
  replace q2 := below_cell j7 q2
  replace lB := Nat.lt_of_lt_of_le lB j7.size
  replace x0 := below_cell j7 x0
  replace x1 := below_cell j7 x1
  replace x2 := below_cell j7 x2
  replace lx := Nat.lt_of_lt_of_le lx j7.size
  replace s3 := s3.below j7
  replace o3 := o3.below j7
  replace z0 := below_cell j7 z0
  replace z1 := below_cell j7 z1
  replace z2 := below_cell j7 z2
  replace lz := Nat.lt_of_lt_of_le lz j7.size
  clear s3 o3
  go_wp2_with fail
  go_at_call 19
  refine (awake_any _).mono ?_
  rintro e w8 ⟨rfl, b8⟩
  have j8 : Below w7.heap.size w7 w8 := by (repeat (first | exact Below.refl _ _ | refine Below.alloc ?_ (by first | omega | (simp; done) | (simp; omega)) _ | refine Below.drew ?_ | refine Below.setCell ?_ (by first | omega | (simp; done) | (simp; omega)) _ | refine Below.trans ?_ (Below.mono (by assumption) (by first | omega | (simp; done) | (simp; omega)))))
  have t8 : Below w.heap.size w w8 := t7.trans (j8.mono t7.size)
  replace hs := hs.below j8
  replace hr := hr.below j8
  replace q0 := below_cell j8 q0
  replace q1 := below_cell j8 q1
  replace q2 := below_cell j8 q2
  replace lB := Nat.lt_of_lt_of_le lB j8.size
  replace x0 := below_cell j8 x0
  replace x1 := below_cell j8 x1
  replace x2 := below_cell j8 x2
  replace lx := Nat.lt_of_lt_of_le lx j8.size
  replace z0 := below_cell j8 z0
  replace z1 := below_cell j8 z1
  replace z2 := below_cell j8 z2
  replace lz := Nat.lt_of_lt_of_le lz j8.size
  go_wp2_with fail
  go_ret
  exact ⟨rfl, t8⟩

theorem u8_bd {y : Int} (h : (Lit.int .u8 y).wf = true) : 0 ≤ y ∧ y ≤ 255 := by
  simp [Lit.wf, IntKind.min, IntKind.max, IntKind.bits, IntKind.signed] at h; omega
theorem least_walk (a : Option Addr) (c : Nat) (ar : Option Addr) (cr : Nat) (p : Post) (y : Int) (w : World) (hs : IntsAt w a p.sends) (hr : RoutesAt w ar p.routes) (na : a = none → c = 0) (big : PostBig p) (hy : (Lit.int .u8 y).wf = true) :
    Calls Try.prog 7 #[.agg #[.slice a p.sends.length c, .slice ar p.routes.length cr, .int .i64 p.pat], .int .u8 y] w fun e w' => e = .returned (.bool true) ∧ Below w.heap.size w w' := by
  cases hT : readyB p
  · exact least_a1 a c ar cr p y w hs hr na big (u8_bd hy) hT
  · by_cases hL : leastErr p = 0
    · exact least_a3 a c ar cr p y w hs hr na big (u8_bd hy) hT hL
    · exact least_a2 a c ar cr p y w hs hr na big (u8_bd hy) hT hL
end Go.Proofs.Ytfclemnkcpadpaa
