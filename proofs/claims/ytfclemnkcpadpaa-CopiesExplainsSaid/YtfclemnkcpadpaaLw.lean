/- CopiesExplains: the walk -/
import Derived.Test.YtfclemnkcpadpaaSa
import Derived.Test.YtfclemnkcpadpaaRt
import Derived.Test.YtfclemnkcpadpaaLf
namespace Go.Proofs.Ytfclemnkcpadpaa
set_option linter.unusedVariables false
set_option linter.unusedSimpArgs false
set_option linter.unnecessarySimpa false
open Go.RowKit Go.Flow Go.Shelf

theorem entsL_eq (al : Option Addr) (l : List Ent) (cl : Nat) (w : World) (he : EntsAt w al l) (hl : l.length ≤ 1000) :
    Calls Try.prog 41 #[.slice al l.length cl] w fun e w' => (∃ a c, e = .returned (.slice a l.length c) ∧ EntsAt w' a l) ∧ Below w.heap.size w w' := entriesConv_any al l cl w he hl
theorem tfaultL_eq (a : Option Addr) (c : Nat) (ar : Option Addr) (cr : Nat) (p : Post) (w : World) (at_ : Option Addr) (t : List (List (List Int))) (N ct : Nat) (hN : Hid (t.length = N)) (E : Int) (h : Hid (shapeErr p t = E)) (hr : RoutesAt w ar p.routes) (sm : Hid (PostSmall p)) (ht : TruthAt w at_ t) (st : Hid (TruthSmall t)) :
    Calls Try.prog 25 #[.agg #[.slice a p.sends.length c, .slice ar p.routes.length cr, .int .i64 p.pat], .slice at_ N ct] w fun e w' => e = .returned (.int .i64 E) ∧ Below w.heap.size w w' := by
  obtain ⟨rfl⟩ := hN
  exact tfault_eq a c ar cr p w at_ t ct E h hr sm ht st

set_option maxRecDepth 100000 in
set_option maxHeartbeats 4000000 in
theorem expl_a1 (a : Option Addr) (c : Nat) (ar : Option Addr) (cr : Nat) (p : Post) (al : Option Addr) (l : List Ent) (cl : Nat) (at_ : Option Addr) (t : List (List (List Int))) (ct : Nat) (w : World) (hs : IntsAt w a p.sends) (hr : RoutesAt w ar p.routes) (na : a = none → c = 0) (big : PostBig p) (he : EntsAt w al l) (ht : TruthAt w at_ t) (bt : TruthBig t) (hT : thinB p = false) :
    Calls Try.prog 14 #[.agg #[.slice a p.sends.length c, .slice ar p.routes.length cr, .int .i64 p.pat], .slice al l.length cl, .slice at_ t.length ct] w fun e w' => e = .returned (.bool true) ∧ Below w.heap.size w w' := by

  have HB := Lib.hid big
  have HBT := Lib.hid bt
  have HT := Lib.hid hT
  clear hT big bt
  go_enter Try.func14, Try.ntmps14
  go_wp2_with fail
  go_at_call 17
  refine (thin_eq a c ar cr p _ false HT (hr.below (by (repeat (first | exact Below.refl _ _ | refine Below.alloc ?_ (by first | omega | (simp; done) | (simp; omega)) _ | refine Below.drew ?_ | refine Below.setCell ?_ (by first | omega | (simp; done) | (simp; omega)) _ | refine Below.trans ?_ (Below.mono (by assumption) (by first | omega | (simp; done) | (simp; omega))))))) HB.out).mono ?_
  rintro e w1 ⟨rfl, b1⟩
  have t1 : Below w.heap.size w w1 := by (repeat (first | exact Below.refl _ _ | refine Below.alloc ?_ (by first | omega | (simp; done) | (simp; omega)) _ | refine Below.drew ?_ | refine Below.setCell ?_ (by first | omega | (simp; done) | (simp; omega)) _ | refine Below.trans ?_ (Below.mono (by assumption) (by first | omega | (simp; done) | (simp; omega)))))
  replace hs := hs.below t1
  replace hr := hr.below t1
  replace he := he.below t1
  replace ht := ht.below t1
  have q0 := box_cells b1 0 rfl
  have q1 := box_cells b1 1 rfl
  have q2 := box_cells b1 2 rfl
  have lB := cell_ltK q0
  go_wp2_with fail
  go_at_call 19
  refine (awake_any _).mono ?_
  rintro e w2 ⟨rfl, b2⟩
  have j2 : Below w1.heap.size w1 w2 := by (repeat (first | exact Below.refl _ _ | refine Below.alloc ?_ (by first | omega | (simp; done) | (simp; omega)) _ | refine Below.drew ?_ | refine Below.setCell ?_ (by first | omega | (simp; done) | (simp; omega)) _ | refine Below.trans ?_ (Below.mono (by assumption) (by first | omega | (simp; done) | (simp; omega)))))
  have t2 : Below w.heap.size w w2 := t1.trans (j2.mono t1.size)
  replace hs := hs.below j2
  replace hr := hr.below j2
  replace he := he.below j2
  replace ht := ht.below j2
  replace q0 := below_cell j2 q0
  replace q1 := below_cell j2 q1
  replace q2 := below_cell j2 q2
  replace lB := Nat.lt_of_lt_of_le lB j2.size
  go_wp2_with fail
  go_ret
  exact ⟨rfl, t2⟩

set_option maxRecDepth 100000 in
set_option maxHeartbeats 4000000 in
theorem expl_a2 (a : Option Addr) (c : Nat) (ar : Option Addr) (cr : Nat) (p : Post) (al : Option Addr) (l : List Ent) (cl : Nat) (at_ : Option Addr) (t : List (List (List Int))) (ct : Nat) (w : World) (hs : IntsAt w a p.sends) (hr : RoutesAt w ar p.routes) (na : a = none → c = 0) (big : PostBig p) (he : EntsAt w al l) (ht : TruthAt w at_ t) (bt : TruthBig t) (hT : thinB p = true) (hS : shortB t = false) :
    Calls Try.prog 14 #[.agg #[.slice a p.sends.length c, .slice ar p.routes.length cr, .int .i64 p.pat], .slice al l.length cl, .slice at_ t.length ct] w fun e w' => e = .returned (.bool true) ∧ Below w.heap.size w w' := by

  have HB := Lib.hid big
  have HBT := Lib.hid bt
  have HT := Lib.hid hT
  have HSh := Lib.hid hS
  clear hT big bt hS
  go_enter Try.func14, Try.ntmps14
  go_wp2_with fail
  go_at_call 17
  refine (thin_eq a c ar cr p _ true HT (hr.below (by (repeat (first | exact Below.refl _ _ | refine Below.alloc ?_ (by first | omega | (simp; done) | (simp; omega)) _ | refine Below.drew ?_ | refine Below.setCell ?_ (by first | omega | (simp; done) | (simp; omega)) _ | refine Below.trans ?_ (Below.mono (by assumption) (by first | omega | (simp; done) | (simp; omega))))))) HB.out).mono ?_
  rintro e w1 ⟨rfl, b1⟩
  have t1 : Below w.heap.size w w1 := by (repeat (first | exact Below.refl _ _ | refine Below.alloc ?_ (by first | omega | (simp; done) | (simp; omega)) _ | refine Below.drew ?_ | refine Below.setCell ?_ (by first | omega | (simp; done) | (simp; omega)) _ | refine Below.trans ?_ (Below.mono (by assumption) (by first | omega | (simp; done) | (simp; omega)))))
  replace hs := hs.below t1
  replace hr := hr.below t1
  replace he := he.below t1
  replace ht := ht.below t1
  have q0 := box_cells b1 0 rfl
  have q1 := box_cells b1 1 rfl
  have q2 := box_cells b1 2 rfl
  have lB := cell_ltK q0
  go_wp2_with fail
  go_at_call 18
  refine (short_eq _ at_ t ct false HSh ht HBT.out).mono ?_
  rintro e w2 ⟨rfl, b2⟩
  have j2 : Below w1.heap.size w1 w2 := by (repeat (first | exact Below.refl _ _ | refine Below.alloc ?_ (by first | omega | (simp; done) | (simp; omega)) _ | refine Below.drew ?_ | refine Below.setCell ?_ (by first | omega | (simp; done) | (simp; omega)) _ | refine Below.trans ?_ (Below.mono (by assumption) (by first | omega | (simp; done) | (simp; omega)))))
  have t2 : Below w.heap.size w w2 := t1.trans (j2.mono t1.size)
  replace hs := hs.below j2
  replace hr := hr.below j2
  replace he := he.below j2
  replace ht := ht.below j2
  replace q0 := below_cell j2 q0
  replace q1 := below_cell j2 q1
  replace q2 := below_cell j2 q2
  replace lB := Nat.lt_of_lt_of_le lB j2.size
  go_wp2_with fail
  go_at_call 19
  refine (awake_any _).mono ?_
  rintro e w3 ⟨rfl, b3⟩
  have j3 : Below w2.heap.size w2 w3 := by (repeat (first | exact Below.refl _ _ | refine Below.alloc ?_ (by first | omega | (simp; done) | (simp; omega)) _ | refine Below.drew ?_ | refine Below.setCell ?_ (by first | omega | (simp; done) | (simp; omega)) _ | refine Below.trans ?_ (Below.mono (by assumption) (by first | omega | (simp; done) | (simp; omega)))))
  have t3 : Below w.heap.size w w3 := t2.trans (j3.mono t2.size)
  replace hs := hs.below j3
  replace hr := hr.below j3
  replace he := he.below j3
  replace ht := ht.below j3
  replace q0 := below_cell j3 q0
  replace q1 := below_cell j3 q1
  replace q2 := below_cell j3 q2
  replace lB := Nat.lt_of_lt_of_le lB j3.size
  go_wp2_with fail
  go_ret
  exact ⟨rfl, t3⟩

set_option maxRecDepth 100000 in
set_option maxHeartbeats 4000000 in
theorem expl_a3 (a : Option Addr) (c : Nat) (ar : Option Addr) (cr : Nat) (p : Post) (al : Option Addr) (l : List Ent) (cl : Nat) (at_ : Option Addr) (t : List (List (List Int))) (ct : Nat) (w : World) (hs : IntsAt w a p.sends) (hr : RoutesAt w ar p.routes) (na : a = none → c = 0) (big : PostBig p) (he : EntsAt w al l) (ht : TruthAt w at_ t) (bt : TruthBig t) (hT : thinB p = true) (hS : shortB t = true) (h1 : 10 < (l.length : Int)) :
    Calls Try.prog 14 #[.agg #[.slice a p.sends.length c, .slice ar p.routes.length cr, .int .i64 p.pat], .slice al l.length cl, .slice at_ t.length ct] w fun e w' => e = .returned (.bool true) ∧ Below w.heap.size w w' := by

  have HB := Lib.hid big
  have HBT := Lib.hid bt
  have HT := Lib.hid hT
  have HSh := Lib.hid hS
  clear hT big bt hS
  go_enter Try.func14, Try.ntmps14
  go_wp2_with fail
  go_at_call 17
  refine (thin_eq a c ar cr p _ true HT (hr.below (by (repeat (first | exact Below.refl _ _ | refine Below.alloc ?_ (by first | omega | (simp; done) | (simp; omega)) _ | refine Below.drew ?_ | refine Below.setCell ?_ (by first | omega | (simp; done) | (simp; omega)) _ | refine Below.trans ?_ (Below.mono (by assumption) (by first | omega | (simp; done) | (simp; omega))))))) HB.out).mono ?_
  rintro e w1 ⟨rfl, b1⟩
  have t1 : Below w.heap.size w w1 := by (repeat (first | exact Below.refl _ _ | refine Below.alloc ?_ (by first | omega | (simp; done) | (simp; omega)) _ | refine Below.drew ?_ | refine Below.setCell ?_ (by first | omega | (simp; done) | (simp; omega)) _ | refine Below.trans ?_ (Below.mono (by assumption) (by first | omega | (simp; done) | (simp; omega)))))
  replace hs := hs.below t1
  replace hr := hr.below t1
  replace he := he.below t1
  replace ht := ht.below t1
  have q0 := box_cells b1 0 rfl
  have q1 := box_cells b1 1 rfl
  have q2 := box_cells b1 2 rfl
  have lB := cell_ltK q0
  go_wp2_with fail
  go_at_call 18
  refine (short_eq _ at_ t ct true HSh ht HBT.out).mono ?_
  rintro e w2 ⟨rfl, b2⟩
  have j2 : Below w1.heap.size w1 w2 := by (repeat (first | exact Below.refl _ _ | refine Below.alloc ?_ (by first | omega | (simp; done) | (simp; omega)) _ | refine Below.drew ?_ | refine Below.setCell ?_ (by first | omega | (simp; done) | (simp; omega)) _ | refine Below.trans ?_ (Below.mono (by assumption) (by first | omega | (simp; done) | (simp; omega)))))
  have t2 : Below w.heap.size w w2 := t1.trans (j2.mono t1.size)
  replace hs := hs.below j2
  replace hr := hr.below j2
  replace he := he.below j2
  replace ht := ht.below j2
  replace q0 := below_cell j2 q0
  replace q1 := below_cell j2 q1
  replace q2 := below_cell j2 q2
  replace lB := Nat.lt_of_lt_of_le lB j2.size
  go_wp2_with fail
  go_at_call 19
  refine (awake_any _).mono ?_
  rintro e w3 ⟨rfl, b3⟩
  have j3 : Below w2.heap.size w2 w3 := by (repeat (first | exact Below.refl _ _ | refine Below.alloc ?_ (by first | omega | (simp; done) | (simp; omega)) _ | refine Below.drew ?_ | refine Below.setCell ?_ (by first | omega | (simp; done) | (simp; omega)) _ | refine Below.trans ?_ (Below.mono (by assumption) (by first | omega | (simp; done) | (simp; omega)))))
  have t3 : Below w.heap.size w w3 := t2.trans (j3.mono t2.size)
  replace hs := hs.below j3
  replace hr := hr.below j3
  replace he := he.below j3
  replace ht := ht.below j3
  replace q0 := below_cell j3 q0
  replace q1 := below_cell j3 q1
  replace q2 := below_cell j3 q2
  replace lB := Nat.lt_of_lt_of_le lB j3.size
  go_wp2_with fail
  go_ret
  exact ⟨rfl, t3⟩

set_option maxRecDepth 100000 in
set_option maxHeartbeats 4000000 in
theorem expl_a4 (a : Option Addr) (c : Nat) (ar : Option Addr) (cr : Nat) (p : Post) (al : Option Addr) (l : List Ent) (cl : Nat) (at_ : Option Addr) (t : List (List (List Int))) (ct : Nat) (w : World) (hs : IntsAt w a p.sends) (hr : RoutesAt w ar p.routes) (na : a = none → c = 0) (big : PostBig p) (he : EntsAt w al l) (ht : TruthAt w at_ t) (bt : TruthBig t) (hT : thinB p = true) (hS : shortB t = true) (h1 : ¬ (10 < (l.length : Int))) (hE : bookErr p l ≠ 0) :
    Calls Try.prog 14 #[.agg #[.slice a p.sends.length c, .slice ar p.routes.length cr, .int .i64 p.pat], .slice al l.length cl, .slice at_ t.length ct] w fun e w' => e = .returned (.bool true) ∧ Below w.heap.size w w' := by

  have HB := Lib.hid big
  have HBT := Lib.hid bt
  have HT := Lib.hid hT
  have HSh := Lib.hid hS
  have SM := Lib.hid (thin_small hT)
  have ST := Lib.hid (short_small hS)
  have lS : p.sends.length ≤ 1000 := SM.out.1
  have lR : p.routes.length ≤ 1000 := SM.out.2
  have ll : l.length ≤ 1000 := by omega
  have HXO : Hid (explOut p l = []) := Lib.hid (by unfold explOut; rw [if_pos hE])
  have HXn : Hid (([] : List (List (List Int))).length = 0) := Lib.hid rfl
  have HV : Hid (proveB p t l = false) := Lib.hid (by unfold proveB; simp [hE])
  have hxe : explErr p l = bookErr p l := by unfold explErr; rw [if_pos hE]
  obtain ⟨E, hX⟩ : ∃ E, bookErr p l = E := ⟨_, rfl⟩
  rw [hX] at hE hxe
  have HE := Lib.hid hX
  have HXE := Lib.hid hxe
  have hne : (E != 0) = true := by simpa using hE
  have hne2 : (E == 0) = false := by simpa using hE
  have hbd : 0 ≤ E ∧ E ≤ 3 := by rw [← hX]; exact bookErr_bd p l
  clear hT big bt hS hX hE hxe
  go_enter Try.func14, Try.ntmps14
  go_wp2_with fail
  go_at_call 17
  refine (thin_eq a c ar cr p _ true HT (hr.below (by (repeat (first | exact Below.refl _ _ | refine Below.alloc ?_ (by first | omega | (simp; done) | (simp; omega)) _ | refine Below.drew ?_ | refine Below.setCell ?_ (by first | omega | (simp; done) | (simp; omega)) _ | refine Below.trans ?_ (Below.mono (by assumption) (by first | omega | (simp; done) | (simp; omega))))))) HB.out).mono ?_
  rintro e w1 ⟨rfl, b1⟩
  have t1 : Below w.heap.size w w1 := by (repeat (first | exact Below.refl _ _ | refine Below.alloc ?_ (by first | omega | (simp; done) | (simp; omega)) _ | refine Below.drew ?_ | refine Below.setCell ?_ (by first | omega | (simp; done) | (simp; omega)) _ | refine Below.trans ?_ (Below.mono (by assumption) (by first | omega | (simp; done) | (simp; omega)))))
  replace hs := hs.below t1
  replace hr := hr.below t1
  replace he := he.below t1
  replace ht := ht.below t1
  have q0 := box_cells b1 0 rfl
  have q1 := box_cells b1 1 rfl
  have q2 := box_cells b1 2 rfl
  have lB := cell_ltK q0
  go_wp2_with fail
  go_at_call 18
  refine (short_eq _ at_ t ct true HSh ht HBT.out).mono ?_
  rintro e w2 ⟨rfl, b2⟩
  have j2 : Below w1.heap.size w1 w2 := by (repeat (first | exact Below.refl _ _ | refine Below.alloc ?_ (by first | omega | (simp; done) | (simp; omega)) _ | refine Below.drew ?_ | refine Below.setCell ?_ (by first | omega | (simp; done) | (simp; omega)) _ | refine Below.trans ?_ (Below.mono (by assumption) (by first | omega | (simp; done) | (simp; omega)))))
  have t2 : Below w.heap.size w w2 := t1.trans (j2.mono t1.size)
  replace hs := hs.below j2
  replace hr := hr.below j2
  replace he := he.below j2
  replace ht := ht.below j2
  replace q0 := below_cell j2 q0
  replace q1 := below_cell j2 q1
  replace q2 := below_cell j2 q2
  replace lB := Nat.lt_of_lt_of_le lB j2.size
  go_wp2_with fail
  go_at_call 21
  refine (post_eq a c ar cr p _ hs hr SM na).mono ?_
  rintro e w3 ⟨⟨a1, c1, r1, d1, rfl, s1, o1⟩, b3⟩
  have j3 : Below w2.heap.size w2 w3 := by (repeat (first | exact Below.refl _ _ | refine Below.alloc ?_ (by first | omega | (simp; done) | (simp; omega)) _ | refine Below.drew ?_ | refine Below.setCell ?_ (by first | omega | (simp; done) | (simp; omega)) _ | refine Below.trans ?_ (Below.mono (by assumption) (by first | omega | (simp; done) | (simp; omega)))))
  have t3 : Below w.heap.size w w3 := t2.trans (j3.mono t2.size)
  replace hs := hs.below j3
  replace hr := hr.below j3
  replace he := he.below j3
  replace ht := ht.below j3
  replace q0 := below_cell j3 q0
  replace q1 := below_cell j3 q1
  replace q2 := below_cell j3 q2
  replace lB := Nat.lt_of_lt_of_le lB j3.size
  go_wp2_with fail
  go_at_call 41
  refine (entsL_eq al l cl _ he ll).mono ?_
  rintro e w4 ⟨⟨a2, c2, rfl, g2⟩, b4⟩
  have j4 : Below w3.heap.size w3 w4 := by (repeat (first | exact Below.refl _ _ | refine Below.alloc ?_ (by first | omega | (simp; done) | (simp; omega)) _ | refine Below.drew ?_ | refine Below.setCell ?_ (by first | omega | (simp; done) | (simp; omega)) _ | refine Below.trans ?_ (Below.mono (by assumption) (by first | omega | (simp; done) | (simp; omega)))))
  have t4 : Below w.heap.size w w4 := t3.trans (j4.mono t3.size)
  replace hs := hs.below j4
  replace hr := hr.below j4
  replace he := he.below j4
  replace ht := ht.below j4
  replace q0 := below_cell j4 q0
  replace q1 := below_cell j4 q1
  replace q2 := below_cell j4 q2
  replace lB := Nat.lt_of_lt_of_le lB j4.size
  replace s1 := s1.below j4
  replace o1 := o1.below j4
  go_wp2_with fail
  go_at_call 48
  refine (explain_eq a1 c1 r1 d1 p a2 l c2 _ E [] 0 HXE HXO HXn s1 o1 SM g2 ll).mono ?_
  rintro e w5 ⟨⟨e1, f1, rfl, tX, _⟩, b5⟩
  have j5 : Below w4.heap.size w4 w5 := by (repeat (first | exact Below.refl _ _ | refine Below.alloc ?_ (by first | omega | (simp; done) | (simp; omega)) _ | refine Below.drew ?_ | refine Below.setCell ?_ (by first | omega | (simp; done) | (simp; omega)) _ | refine Below.trans ?_ (Below.mono (by assumption) (by first | omega | (simp; done) | (simp; omega)))))
  have t5 : Below w.heap.size w w5 := t4.trans (j5.mono t4.size)
  replace hs := hs.below j5
  replace hr := hr.below j5
  replace he := he.below j5
  replace ht := ht.below j5
  replace q0 := below_cell j5 q0
  replace q1 := below_cell j5 q1
  replace q2 := below_cell j5 q2
  replace lB := Nat.lt_of_lt_of_le lB j5.size
  replace s1 := s1.below j5
  replace o1 := o1.below j5
  replace g2 := g2.below j5
  clear s1 o1 g2
  go_wp2_with fail
  go_at_call 21
  refine (post_eq a c ar cr p _ hs hr SM na).mono ?_
  rintro e w6 ⟨⟨a3, c3, r3, d3, rfl, s3, o3⟩, b6⟩
  have j6 : Below w5.heap.size w5 w6 := by (repeat (first | exact Below.refl _ _ | refine Below.alloc ?_ (by first | omega | (simp; done) | (simp; omega)) _ | refine Below.drew ?_ | refine Below.setCell ?_ (by first | omega | (simp; done) | (simp; omega)) _ | refine Below.trans ?_ (Below.mono (by assumption) (by first | omega | (simp; done) | (simp; omega)))))
  have t6 : Below w.heap.size w w6 := t5.trans (j6.mono t5.size)
  replace hs := hs.below j6
  replace hr := hr.below j6
  replace he := he.below j6
  replace ht := ht.below j6
  replace q0 := below_cell j6 q0
  replace q1 := below_cell j6 q1
  replace q2 := below_cell j6 q2
  replace lB := Nat.lt_of_lt_of_le lB j6.size
  replace tX := tX.below j6
  go_wp2_with fail
  go_at_call 23
  refine (truth_eq _ at_ t ct ht ST).mono ?_
  rintro e w7 ⟨⟨a4, c4, rfl, tB⟩, b7⟩
  have j7 : Below w6.heap.size w6 w7 := by (repeat (first | exact Below.refl _ _ | refine Below.alloc ?_ (by first | omega | (simp; done) | (simp; omega)) _ | refine Below.drew ?_ | refine Below.setCell ?_ (by first | omega | (simp; done) | (simp; omega)) _ | refine Below.trans ?_ (Below.mono (by assumption) (by first | omega | (simp; done) | (simp; omega)))))
  have t7 : Below w.heap.size w w7 := t6.trans (j7.mono t6.size)
  replace hs := hs.below j7
  replace hr := hr.below j7
  replace he := he.below j7
  replace ht := ht.below j7
  replace q0 := below_cell j7 q0
  replace q1 := below_cell j7 q1
  replace q2 := below_cell j7 q2
  replace lB := Nat.lt_of_lt_of_le lB j7.size
  replace tX := tX.below j7
  replace s3 := s3.below j7
  replace o3 := o3.below j7
  go_wp2_with fail
  go_at_call 41
  refine (entsL_eq al l cl _ he ll).mono ?_
  rintro e w8 ⟨⟨a5, c5, rfl, g5⟩, b8⟩
  have j8 : Below w7.heap.size w7 w8 := by (repeat (first | exact Below.refl _ _ | refine Below.alloc ?_ (by first | omega | (simp; done) | (simp; omega)) _ | refine Below.drew ?_ | refine Below.setCell ?_ (by first | omega | (simp; done) | (simp; omega)) _ | refine Below.trans ?_ (Below.mono (by assumption) (by first | omega | (simp; done) | (simp; omega)))))
  have t8 : Below w.heap.size w w8 := t7.trans (j8.mono t7.size)
  replace hs := hs.below j8
  replace hr := hr.below j8
  replace he := he.below j8
  replace ht := ht.below j8
  replace q0 := below_cell j8 q0
  replace q1 := below_cell j8 q1
  replace q2 := below_cell j8 q2
  replace lB := Nat.lt_of_lt_of_le lB j8.size
  replace tX := tX.below j8
  replace s3 := s3.below j8
  replace o3 := o3.below j8
  replace tB := tB.below j8
  go_wp2_with fail
  go_at_call 52
  refine (prove_eq a3 c3 r3 d3 p a4 t t.length c4 a5 l c5 _ false HV (Lib.hid rfl) s3 o3 SM tB ST g5 ll).mono ?_
  rintro e w9 ⟨rfl, b9⟩
  have j9 : Below w8.heap.size w8 w9 := by (repeat (first | exact Below.refl _ _ | refine Below.alloc ?_ (by first | omega | (simp; done) | (simp; omega)) _ | refine Below.drew ?_ | refine Below.setCell ?_ (by first | omega | (simp; done) | (simp; omega)) _ | refine Below.trans ?_ (Below.mono (by assumption) (by first | omega | (simp; done) | (simp; omega)))))
  have t9 : Below w.heap.size w w9 := t8.trans (j9.mono t8.size)
  replace hs := hs.below j9
  replace hr := hr.below j9
  replace he := he.below j9
  replace ht := ht.below j9
  replace q0 := below_cell j9 q0
  replace q1 := below_cell j9 q1
  replace q2 := below_cell j9 q2
  replace lB := Nat.lt_of_lt_of_le lB j9.size
  replace tX := tX.below j9
  replace s3 := s3.below j9
  replace o3 := o3.below j9
  replace tB := tB.below j9
  replace g5 := g5.below j9
  clear s3 o3 tB g5
  go_wp2_with fail
  go_at_call 42
  refine (booked_eq a c ar cr p al l cl _ E HE hs hr SM he (by omega)).mono ?_
  rintro e w10 ⟨rfl, b10⟩
  have j10 : Below w9.heap.size w9 w10 := by (repeat (first | exact Below.refl _ _ | refine Below.alloc ?_ (by first | omega | (simp; done) | (simp; omega)) _ | refine Below.drew ?_ | refine Below.setCell ?_ (by first | omega | (simp; done) | (simp; omega)) _ | refine Below.trans ?_ (Below.mono (by assumption) (by first | omega | (simp; done) | (simp; omega)))))
  have t10 : Below w.heap.size w w10 := t9.trans (j10.mono t9.size)
  replace hs := hs.below j10
  replace hr := hr.below j10
  replace he := he.below j10
  replace ht := ht.below j10
  replace q0 := below_cell j10 q0
  replace q1 := below_cell j10 q1
  replace q2 := below_cell j10 q2
  replace lB := Nat.lt_of_lt_of_le lB j10.size
  replace tX := tX.below j10
  go_wp2_with fail
  go_at_call 19
  refine (awake_any _).mono ?_
  rintro e w11 ⟨rfl, b11⟩
  have j11 : Below w10.heap.size w10 w11 := by (repeat (first | exact Below.refl _ _ | refine Below.alloc ?_ (by first | omega | (simp; done) | (simp; omega)) _ | refine Below.drew ?_ | refine Below.setCell ?_ (by first | omega | (simp; done) | (simp; omega)) _ | refine Below.trans ?_ (Below.mono (by assumption) (by first | omega | (simp; done) | (simp; omega)))))
  have t11 : Below w.heap.size w w11 := t10.trans (j11.mono t10.size)
  replace hs := hs.below j11
  replace hr := hr.below j11
  replace he := he.below j11
  replace ht := ht.below j11
  replace q0 := below_cell j11 q0
  replace q1 := below_cell j11 q1
  replace q2 := below_cell j11 q2
  replace lB := Nat.lt_of_lt_of_le lB j11.size
  replace tX := tX.below j11
  go_wp2_with fail
  go_ret
  exact ⟨rfl, t11⟩

set_option maxRecDepth 100000 in
set_option maxHeartbeats 4000000 in
theorem expl_b0 (a : Option Addr) (c : Nat) (ar : Option Addr) (cr : Nat) (p : Post) (al : Option Addr) (l : List Ent) (cl : Nat) (at_ : Option Addr) (t : List (List (List Int))) (ct : Nat) (w : World) (hs : IntsAt w a p.sends) (hr : RoutesAt w ar p.routes) (na : a = none → c = 0) (big : PostBig p) (he : EntsAt w al l) (ht : TruthAt w at_ t) (bt : TruthBig t) (hT : thinB p = true) (hS : shortB t = true) (h1 : ¬ (10 < (l.length : Int))) (hE : bookErr p l = 0) (S : Int) (hSe : shapeErr p t = S) (hS0 : S ≠ 0) (z : List Int) (hz : searchF p l = some z) :
    Calls Try.prog 14 #[.agg #[.slice a p.sends.length c, .slice ar p.routes.length cr, .int .i64 p.pat], .slice al l.length cl, .slice at_ t.length ct] w fun e w' => e = .returned (.bool true) ∧ Below w.heap.size w w' := by

  have HB := Lib.hid big
  have HBT := Lib.hid bt
  have HT := Lib.hid hT
  have HSh := Lib.hid hS
  have SM := Lib.hid (thin_small hT)
  have ST := Lib.hid (short_small hS)
  have lS : p.sends.length ≤ 1000 := SM.out.1
  have lR : p.routes.length ≤ 1000 := SM.out.2
  have ll : l.length ≤ 1000 := by omega
  have HE := Lib.hid hE
  have H0 := Lib.hid (bookErr_ok' hE).1
  have HSE := Lib.hid hSe
  have HV : Hid (proveB p t l = false) := Lib.hid (by unfold proveB; rw [hE, hSe]; simp [hS0])
  have HXB : Hid (explB p l = true) := Lib.hid (by unfold explB; rw [hz]; rfl)
  have HXE : Hid (explErr p l = 0) := Lib.hid (by unfold explErr; rw [if_neg (by simpa using hE), HXB.out]; rfl)
  obtain ⟨hq1, hq2, hq3⟩ := explain_ok hE hz
  have hxo : explOut p l = truthF p z := by unfold explOut; rw [if_neg (by simpa using hE), hz]
  obtain ⟨X, hX⟩ : ∃ X, truthF p z = X := ⟨_, rfl⟩
  rw [hX] at hxo hq1 hq2 hq3
  obtain ⟨n, hn⟩ : ∃ n, X.length = n := ⟨_, rfl⟩
  have HXO := Lib.hid hxo
  have HXn := Lib.hid hn
  have HQ1 := Lib.hid hq1
  have HQ2 := Lib.hid hq2
  have HQ3 := Lib.hid hq3
  clear hX hn hxo hq1 hq2 hq3
  have hb := shapeErr_bd p t
  rw [hSe] at hb
  have hs1 : (S == 0) = false := by simpa using hS0
  clear hS0
  clear hT big bt hS hE hSe hz
  go_enter Try.func14, Try.ntmps14
  go_wp2_with fail
  go_at_call 17
  refine (thin_eq a c ar cr p _ true HT (hr.below (by (repeat (first | exact Below.refl _ _ | refine Below.alloc ?_ (by first | omega | (simp; done) | (simp; omega)) _ | refine Below.drew ?_ | refine Below.setCell ?_ (by first | omega | (simp; done) | (simp; omega)) _ | refine Below.trans ?_ (Below.mono (by assumption) (by first | omega | (simp; done) | (simp; omega))))))) HB.out).mono ?_
  rintro e w1 ⟨rfl, b1⟩
  have t1 : Below w.heap.size w w1 := by (repeat (first | exact Below.refl _ _ | refine Below.alloc ?_ (by first | omega | (simp; done) | (simp; omega)) _ | refine Below.drew ?_ | refine Below.setCell ?_ (by first | omega | (simp; done) | (simp; omega)) _ | refine Below.trans ?_ (Below.mono (by assumption) (by first | omega | (simp; done) | (simp; omega)))))
  replace hs := hs.below t1
  replace hr := hr.below t1
  replace he := he.below t1
  replace ht := ht.below t1
  have q0 := box_cells b1 0 rfl
  have q1 := box_cells b1 1 rfl
  have q2 := box_cells b1 2 rfl
  have lB := cell_ltK q0
  go_wp2_with fail
  go_at_call 18
  refine (short_eq _ at_ t ct true HSh ht HBT.out).mono ?_
  rintro e w2 ⟨rfl, b2⟩
  have j2 : Below w1.heap.size w1 w2 := by (repeat (first | exact Below.refl _ _ | refine Below.alloc ?_ (by first | omega | (simp; done) | (simp; omega)) _ | refine Below.drew ?_ | refine Below.setCell ?_ (by first | omega | (simp; done) | (simp; omega)) _ | refine Below.trans ?_ (Below.mono (by assumption) (by first | omega | (simp; done) | (simp; omega)))))
  have t2 : Below w.heap.size w w2 := t1.trans (j2.mono t1.size)
  replace hs := hs.below j2
  replace hr := hr.below j2
  replace he := he.below j2
  replace ht := ht.below j2
  replace q0 := below_cell j2 q0
  replace q1 := below_cell j2 q1
  replace q2 := below_cell j2 q2
  replace lB := Nat.lt_of_lt_of_le lB j2.size
  go_wp2_with fail
  go_at_call 21
  refine (post_eq a c ar cr p _ hs hr SM na).mono ?_
  rintro e w3 ⟨⟨a1, c1, r1, d1, rfl, s1, o1⟩, b3⟩
  have j3 : Below w2.heap.size w2 w3 := by (repeat (first | exact Below.refl _ _ | refine Below.alloc ?_ (by first | omega | (simp; done) | (simp; omega)) _ | refine Below.drew ?_ | refine Below.setCell ?_ (by first | omega | (simp; done) | (simp; omega)) _ | refine Below.trans ?_ (Below.mono (by assumption) (by first | omega | (simp; done) | (simp; omega)))))
  have t3 : Below w.heap.size w w3 := t2.trans (j3.mono t2.size)
  replace hs := hs.below j3
  replace hr := hr.below j3
  replace he := he.below j3
  replace ht := ht.below j3
  replace q0 := below_cell j3 q0
  replace q1 := below_cell j3 q1
  replace q2 := below_cell j3 q2
  replace lB := Nat.lt_of_lt_of_le lB j3.size
  go_wp2_with fail
  go_at_call 41
  refine (entsL_eq al l cl _ he ll).mono ?_
  rintro e w4 ⟨⟨a2, c2, rfl, g2⟩, b4⟩
  have j4 : Below w3.heap.size w3 w4 := by (repeat (first | exact Below.refl _ _ | refine Below.alloc ?_ (by first | omega | (simp; done) | (simp; omega)) _ | refine Below.drew ?_ | refine Below.setCell ?_ (by first | omega | (simp; done) | (simp; omega)) _ | refine Below.trans ?_ (Below.mono (by assumption) (by first | omega | (simp; done) | (simp; omega)))))
  have t4 : Below w.heap.size w w4 := t3.trans (j4.mono t3.size)
  replace hs := hs.below j4
  replace hr := hr.below j4
  replace he := he.below j4
  replace ht := ht.below j4
  replace q0 := below_cell j4 q0
  replace q1 := below_cell j4 q1
  replace q2 := below_cell j4 q2
  replace lB := Nat.lt_of_lt_of_le lB j4.size
  replace s1 := s1.below j4
  replace o1 := o1.below j4
  go_wp2_with fail
  go_at_call 48
  refine (explain_eq a1 c1 r1 d1 p a2 l c2 _ 0 X n HXE HXO HXn s1 o1 SM g2 ll).mono ?_
  rintro e w5 ⟨⟨e1, f1, rfl, tX, _⟩, b5⟩
  have j5 : Below w4.heap.size w4 w5 := by (repeat (first | exact Below.refl _ _ | refine Below.alloc ?_ (by first | omega | (simp; done) | (simp; omega)) _ | refine Below.drew ?_ | refine Below.setCell ?_ (by first | omega | (simp; done) | (simp; omega)) _ | refine Below.trans ?_ (Below.mono (by assumption) (by first | omega | (simp; done) | (simp; omega)))))
  have t5 : Below w.heap.size w w5 := t4.trans (j5.mono t4.size)
  replace hs := hs.below j5
  replace hr := hr.below j5
  replace he := he.below j5
  replace ht := ht.below j5
  replace q0 := below_cell j5 q0
  replace q1 := below_cell j5 q1
  replace q2 := below_cell j5 q2
  replace lB := Nat.lt_of_lt_of_le lB j5.size
  replace s1 := s1.below j5
  replace o1 := o1.below j5
  replace g2 := g2.below j5
  clear s1 o1 g2
  go_wp2_with fail
  go_at_call 21
  refine (post_eq a c ar cr p _ hs hr SM na).mono ?_
  rintro e w6 ⟨⟨a3, c3, r3, d3, rfl, s3, o3⟩, b6⟩
  have j6 : Below w5.heap.size w5 w6 := by (repeat (first | exact Below.refl _ _ | refine Below.alloc ?_ (by first | omega | (simp; done) | (simp; omega)) _ | refine Below.drew ?_ | refine Below.setCell ?_ (by first | omega | (simp; done) | (simp; omega)) _ | refine Below.trans ?_ (Below.mono (by assumption) (by first | omega | (simp; done) | (simp; omega)))))
  have t6 : Below w.heap.size w w6 := t5.trans (j6.mono t5.size)
  replace hs := hs.below j6
  replace hr := hr.below j6
  replace he := he.below j6
  replace ht := ht.below j6
  replace q0 := below_cell j6 q0
  replace q1 := below_cell j6 q1
  replace q2 := below_cell j6 q2
  replace lB := Nat.lt_of_lt_of_le lB j6.size
  replace tX := tX.below j6
  go_wp2_with fail
  go_at_call 23
  refine (truth_eq _ at_ t ct ht ST).mono ?_
  rintro e w7 ⟨⟨a4, c4, rfl, tB⟩, b7⟩
  have j7 : Below w6.heap.size w6 w7 := by (repeat (first | exact Below.refl _ _ | refine Below.alloc ?_ (by first | omega | (simp; done) | (simp; omega)) _ | refine Below.drew ?_ | refine Below.setCell ?_ (by first | omega | (simp; done) | (simp; omega)) _ | refine Below.trans ?_ (Below.mono (by assumption) (by first | omega | (simp; done) | (simp; omega)))))
  have t7 : Below w.heap.size w w7 := t6.trans (j7.mono t6.size)
  replace hs := hs.below j7
  replace hr := hr.below j7
  replace he := he.below j7
  replace ht := ht.below j7
  replace q0 := below_cell j7 q0
  replace q1 := below_cell j7 q1
  replace q2 := below_cell j7 q2
  replace lB := Nat.lt_of_lt_of_le lB j7.size
  replace tX := tX.below j7
  replace s3 := s3.below j7
  replace o3 := o3.below j7
  go_wp2_with fail
  go_at_call 41
  refine (entsL_eq al l cl _ he ll).mono ?_
  rintro e w8 ⟨⟨a5, c5, rfl, g5⟩, b8⟩
  have j8 : Below w7.heap.size w7 w8 := by (repeat (first | exact Below.refl _ _ | refine Below.alloc ?_ (by first | omega | (simp; done) | (simp; omega)) _ | refine Below.drew ?_ | refine Below.setCell ?_ (by first | omega | (simp; done) | (simp; omega)) _ | refine Below.trans ?_ (Below.mono (by assumption) (by first | omega | (simp; done) | (simp; omega)))))
  have t8 : Below w.heap.size w w8 := t7.trans (j8.mono t7.size)
  replace hs := hs.below j8
  replace hr := hr.below j8
  replace he := he.below j8
  replace ht := ht.below j8
  replace q0 := below_cell j8 q0
  replace q1 := below_cell j8 q1
  replace q2 := below_cell j8 q2
  replace lB := Nat.lt_of_lt_of_le lB j8.size
  replace tX := tX.below j8
  replace s3 := s3.below j8
  replace o3 := o3.below j8
  replace tB := tB.below j8
  go_wp2_with fail
  go_at_call 52
  refine (prove_eq a3 c3 r3 d3 p a4 t t.length c4 a5 l c5 _ false HV (Lib.hid rfl) s3 o3 SM tB ST g5 ll).mono ?_
  rintro e w9 ⟨rfl, b9⟩
  have j9 : Below w8.heap.size w8 w9 := by (repeat (first | exact Below.refl _ _ | refine Below.alloc ?_ (by first | omega | (simp; done) | (simp; omega)) _ | refine Below.drew ?_ | refine Below.setCell ?_ (by first | omega | (simp; done) | (simp; omega)) _ | refine Below.trans ?_ (Below.mono (by assumption) (by first | omega | (simp; done) | (simp; omega)))))
  have t9 : Below w.heap.size w w9 := t8.trans (j9.mono t8.size)
  replace hs := hs.below j9
  replace hr := hr.below j9
  replace he := he.below j9
  replace ht := ht.below j9
  replace q0 := below_cell j9 q0
  replace q1 := below_cell j9 q1
  replace q2 := below_cell j9 q2
  replace lB := Nat.lt_of_lt_of_le lB j9.size
  replace tX := tX.below j9
  replace s3 := s3.below j9
  replace o3 := o3.below j9
  replace tB := tB.below j9
  replace g5 := g5.below j9
  clear s3 o3 tB g5
  go_wp2_with fail
  go_at_call 42
  refine (booked_eq a c ar cr p al l cl _ 0 HE hs hr SM he (by omega)).mono ?_
  rintro e w10 ⟨rfl, b10⟩
  have j10 : Below w9.heap.size w9 w10 := by (repeat (first | exact Below.refl _ _ | refine Below.alloc ?_ (by first | omega | (simp; done) | (simp; omega)) _ | refine Below.drew ?_ | refine Below.setCell ?_ (by first | omega | (simp; done) | (simp; omega)) _ | refine Below.trans ?_ (Below.mono (by assumption) (by first | omega | (simp; done) | (simp; omega)))))
  have t10 : Below w.heap.size w w10 := t9.trans (j10.mono t9.size)
  replace hs := hs.below j10
  replace hr := hr.below j10
  replace he := he.below j10
  replace ht := ht.below j10
  replace q0 := below_cell j10 q0
  replace q1 := below_cell j10 q1
  replace q2 := below_cell j10 q2
  replace lB := Nat.lt_of_lt_of_le lB j10.size
  replace tX := tX.below j10
  go_wp2_with fail
  go_at_call 25
  refine (tfault_eq a c ar cr p _ at_ t ct S HSE hr SM ht ST).mono ?_
  rintro e w11 ⟨rfl, b11⟩
  have j11 : Below w10.heap.size w10 w11 := by (repeat (first | exact Below.refl _ _ | refine Below.alloc ?_ (by first | omega | (simp; done) | (simp; omega)) _ | refine Below.drew ?_ | refine Below.setCell ?_ (by first | omega | (simp; done) | (simp; omega)) _ | refine Below.trans ?_ (Below.mono (by assumption) (by first | omega | (simp; done) | (simp; omega)))))
  have t11 : Below w.heap.size w w11 := t10.trans (j11.mono t10.size)
  replace hs := hs.below j11
  replace hr := hr.below j11
  replace he := he.below j11
  replace ht := ht.below j11
  replace q0 := below_cell j11 q0
  replace q1 := below_cell j11 q1
  replace q2 := below_cell j11 q2
  replace lB := Nat.lt_of_lt_of_le lB j11.size
  replace tX := tX.below j11
  go_wp2_with fail
  go_at_call 54
  refine (explained_eq a c ar cr p al l cl _ true HXB hs hr H0 he ll).mono ?_
  rintro e w12 ⟨rfl, b12⟩
  have j12 : Below w11.heap.size w11 w12 := by (repeat (first | exact Below.refl _ _ | refine Below.alloc ?_ (by first | omega | (simp; done) | (simp; omega)) _ | refine Below.drew ?_ | refine Below.setCell ?_ (by first | omega | (simp; done) | (simp; omega)) _ | refine Below.trans ?_ (Below.mono (by assumption) (by first | omega | (simp; done) | (simp; omega)))))
  have t12 : Below w.heap.size w w12 := t11.trans (j12.mono t11.size)
  replace hs := hs.below j12
  replace hr := hr.below j12
  replace he := he.below j12
  replace ht := ht.below j12
  replace q0 := below_cell j12 q0
  replace q1 := below_cell j12 q1
  replace q2 := below_cell j12 q2
  replace lB := Nat.lt_of_lt_of_le lB j12.size
  replace tX := tX.below j12
  go_wp2_with fail
  go_at_call 25
  refine (tfaultL_eq a c ar cr p _ e1 X n f1 HXn 0 HQ1 hr SM tX HQ2).mono ?_
  rintro e w13 ⟨rfl, b13⟩
  have j13 : Below w12.heap.size w12 w13 := by (repeat (first | exact Below.refl _ _ | refine Below.alloc ?_ (by first | omega | (simp; done) | (simp; omega)) _ | refine Below.drew ?_ | refine Below.setCell ?_ (by first | omega | (simp; done) | (simp; omega)) _ | refine Below.trans ?_ (Below.mono (by assumption) (by first | omega | (simp; done) | (simp; omega)))))
  have t13 : Below w.heap.size w w13 := t12.trans (j13.mono t12.size)
  replace hs := hs.below j13
  replace hr := hr.below j13
  replace he := he.below j13
  replace ht := ht.below j13
  replace q0 := below_cell j13 q0
  replace q1 := below_cell j13 q1
  replace q2 := below_cell j13 q2
  replace lB := Nat.lt_of_lt_of_le lB j13.size
  replace tX := tX.below j13
  go_wp2_with fail
  go_at_call 53
  refine (explains_eq a c ar cr p e1 X n f1 al l cl _ true HQ3 HXn hs hr tX HE HQ1 he).mono ?_
  rintro e w14 ⟨rfl, b14⟩
  have j14 : Below w13.heap.size w13 w14 := by (repeat (first | exact Below.refl _ _ | refine Below.alloc ?_ (by first | omega | (simp; done) | (simp; omega)) _ | refine Below.drew ?_ | refine Below.setCell ?_ (by first | omega | (simp; done) | (simp; omega)) _ | refine Below.trans ?_ (Below.mono (by assumption) (by first | omega | (simp; done) | (simp; omega)))))
  have t14 : Below w.heap.size w w14 := t13.trans (j14.mono t13.size)
  replace hs := hs.below j14
  replace hr := hr.below j14
  replace he := he.below j14
  replace ht := ht.below j14
  replace q0 := below_cell j14 q0
  replace q1 := below_cell j14 q1
  replace q2 := below_cell j14 q2
  replace lB := Nat.lt_of_lt_of_le lB j14.size
  replace tX := tX.below j14
  go_wp2_with fail
  go_at_call 19
  refine (awake_any _).mono ?_
  rintro e w15 ⟨rfl, b15⟩
  have j15 : Below w14.heap.size w14 w15 := by (repeat (first | exact Below.refl _ _ | refine Below.alloc ?_ (by first | omega | (simp; done) | (simp; omega)) _ | refine Below.drew ?_ | refine Below.setCell ?_ (by first | omega | (simp; done) | (simp; omega)) _ | refine Below.trans ?_ (Below.mono (by assumption) (by first | omega | (simp; done) | (simp; omega)))))
  have t15 : Below w.heap.size w w15 := t14.trans (j15.mono t14.size)
  replace hs := hs.below j15
  replace hr := hr.below j15
  replace he := he.below j15
  replace ht := ht.below j15
  replace q0 := below_cell j15 q0
  replace q1 := below_cell j15 q1
  replace q2 := below_cell j15 q2
  replace lB := Nat.lt_of_lt_of_le lB j15.size
  replace tX := tX.below j15
  go_wp2_with fail
  go_ret
  exact ⟨rfl, t15⟩

set_option maxRecDepth 100000 in
set_option maxHeartbeats 4000000 in
theorem expl_b1 (a : Option Addr) (c : Nat) (ar : Option Addr) (cr : Nat) (p : Post) (al : Option Addr) (l : List Ent) (cl : Nat) (at_ : Option Addr) (t : List (List (List Int))) (ct : Nat) (w : World) (hs : IntsAt w a p.sends) (hr : RoutesAt w ar p.routes) (na : a = none → c = 0) (big : PostBig p) (he : EntsAt w al l) (ht : TruthAt w at_ t) (bt : TruthBig t) (hT : thinB p = true) (hS : shortB t = true) (h1 : ¬ (10 < (l.length : Int))) (hE : bookErr p l = 0) (S : Int) (hSe : shapeErr p t = S) (hS0 : S ≠ 0) (hz : searchF p l = none) :
    Calls Try.prog 14 #[.agg #[.slice a p.sends.length c, .slice ar p.routes.length cr, .int .i64 p.pat], .slice al l.length cl, .slice at_ t.length ct] w fun e w' => e = .returned (.bool true) ∧ Below w.heap.size w w' := by

  have HB := Lib.hid big
  have HBT := Lib.hid bt
  have HT := Lib.hid hT
  have HSh := Lib.hid hS
  have SM := Lib.hid (thin_small hT)
  have ST := Lib.hid (short_small hS)
  have lS : p.sends.length ≤ 1000 := SM.out.1
  have lR : p.routes.length ≤ 1000 := SM.out.2
  have ll : l.length ≤ 1000 := by omega
  have HE := Lib.hid hE
  have H0 := Lib.hid (bookErr_ok' hE).1
  have HSE := Lib.hid hSe
  have HV : Hid (proveB p t l = false) := Lib.hid (by unfold proveB; rw [hE, hSe]; simp [hS0])
  have HXB : Hid (explB p l = false) := Lib.hid (by unfold explB; rw [hz]; rfl)
  have HXE : Hid (explErr p l = 9) := Lib.hid (by unfold explErr; rw [if_neg (by simpa using hE), HXB.out]; rfl)
  have HXO : Hid (explOut p l = []) := Lib.hid (by unfold explOut; rw [if_neg (by simpa using hE), hz])
  have HXn : Hid (([] : List (List (List Int))).length = 0) := Lib.hid rfl
  have hb := shapeErr_bd p t
  rw [hSe] at hb
  have hs1 : (S == 0) = false := by simpa using hS0
  clear hS0
  clear hT big bt hS hE hSe hz
  go_enter Try.func14, Try.ntmps14
  go_wp2_with fail
  go_at_call 17
  refine (thin_eq a c ar cr p _ true HT (hr.below (by (repeat (first | exact Below.refl _ _ | refine Below.alloc ?_ (by first | omega | (simp; done) | (simp; omega)) _ | refine Below.drew ?_ | refine Below.setCell ?_ (by first | omega | (simp; done) | (simp; omega)) _ | refine Below.trans ?_ (Below.mono (by assumption) (by first | omega | (simp; done) | (simp; omega))))))) HB.out).mono ?_
  rintro e w1 ⟨rfl, b1⟩
  have t1 : Below w.heap.size w w1 := by (repeat (first | exact Below.refl _ _ | refine Below.alloc ?_ (by first | omega | (simp; done) | (simp; omega)) _ | refine Below.drew ?_ | refine Below.setCell ?_ (by first | omega | (simp; done) | (simp; omega)) _ | refine Below.trans ?_ (Below.mono (by assumption) (by first | omega | (simp; done) | (simp; omega)))))
  replace hs := hs.below t1
  replace hr := hr.below t1
  replace he := he.below t1
  replace ht := ht.below t1
  have q0 := box_cells b1 0 rfl
  have q1 := box_cells b1 1 rfl
  have q2 := box_cells b1 2 rfl
  have lB := cell_ltK q0
  go_wp2_with fail
  go_at_call 18
  refine (short_eq _ at_ t ct true HSh ht HBT.out).mono ?_
  rintro e w2 ⟨rfl, b2⟩
  have j2 : Below w1.heap.size w1 w2 := by (repeat (first | exact Below.refl _ _ | refine Below.alloc ?_ (by first | omega | (simp; done) | (simp; omega)) _ | refine Below.drew ?_ | refine Below.setCell ?_ (by first | omega | (simp; done) | (simp; omega)) _ | refine Below.trans ?_ (Below.mono (by assumption) (by first | omega | (simp; done) | (simp; omega)))))
  have t2 : Below w.heap.size w w2 := t1.trans (j2.mono t1.size)
  replace hs := hs.below j2
  replace hr := hr.below j2
  replace he := he.below j2
  replace ht := ht.below j2
  replace q0 := below_cell j2 q0
  replace q1 := below_cell j2 q1
  replace q2 := below_cell j2 q2
  replace lB := Nat.lt_of_lt_of_le lB j2.size
  go_wp2_with fail
  go_at_call 21
  refine (post_eq a c ar cr p _ hs hr SM na).mono ?_
  rintro e w3 ⟨⟨a1, c1, r1, d1, rfl, s1, o1⟩, b3⟩
  have j3 : Below w2.heap.size w2 w3 := by (repeat (first | exact Below.refl _ _ | refine Below.alloc ?_ (by first | omega | (simp; done) | (simp; omega)) _ | refine Below.drew ?_ | refine Below.setCell ?_ (by first | omega | (simp; done) | (simp; omega)) _ | refine Below.trans ?_ (Below.mono (by assumption) (by first | omega | (simp; done) | (simp; omega)))))
  have t3 : Below w.heap.size w w3 := t2.trans (j3.mono t2.size)
  replace hs := hs.below j3
  replace hr := hr.below j3
  replace he := he.below j3
  replace ht := ht.below j3
  replace q0 := below_cell j3 q0
  replace q1 := below_cell j3 q1
  replace q2 := below_cell j3 q2
  replace lB := Nat.lt_of_lt_of_le lB j3.size
  go_wp2_with fail
  go_at_call 41
  refine (entsL_eq al l cl _ he ll).mono ?_
  rintro e w4 ⟨⟨a2, c2, rfl, g2⟩, b4⟩
  have j4 : Below w3.heap.size w3 w4 := by (repeat (first | exact Below.refl _ _ | refine Below.alloc ?_ (by first | omega | (simp; done) | (simp; omega)) _ | refine Below.drew ?_ | refine Below.setCell ?_ (by first | omega | (simp; done) | (simp; omega)) _ | refine Below.trans ?_ (Below.mono (by assumption) (by first | omega | (simp; done) | (simp; omega)))))
  have t4 : Below w.heap.size w w4 := t3.trans (j4.mono t3.size)
  replace hs := hs.below j4
  replace hr := hr.below j4
  replace he := he.below j4
  replace ht := ht.below j4
  replace q0 := below_cell j4 q0
  replace q1 := below_cell j4 q1
  replace q2 := below_cell j4 q2
  replace lB := Nat.lt_of_lt_of_le lB j4.size
  replace s1 := s1.below j4
  replace o1 := o1.below j4
  go_wp2_with fail
  go_at_call 48
  refine (explain_eq a1 c1 r1 d1 p a2 l c2 _ 9 [] 0 HXE HXO HXn s1 o1 SM g2 ll).mono ?_
  rintro e w5 ⟨⟨e1, f1, rfl, tX, _⟩, b5⟩
  have j5 : Below w4.heap.size w4 w5 := by (repeat (first | exact Below.refl _ _ | refine Below.alloc ?_ (by first | omega | (simp; done) | (simp; omega)) _ | refine Below.drew ?_ | refine Below.setCell ?_ (by first | omega | (simp; done) | (simp; omega)) _ | refine Below.trans ?_ (Below.mono (by assumption) (by first | omega | (simp; done) | (simp; omega)))))
  have t5 : Below w.heap.size w w5 := t4.trans (j5.mono t4.size)
  replace hs := hs.below j5
  replace hr := hr.below j5
  replace he := he.below j5
  replace ht := ht.below j5
  replace q0 := below_cell j5 q0
  replace q1 := below_cell j5 q1
  replace q2 := below_cell j5 q2
  replace lB := Nat.lt_of_lt_of_le lB j5.size
  replace s1 := s1.below j5
  replace o1 := o1.below j5
  replace g2 := g2.below j5
  clear s1 o1 g2
  go_wp2_with fail
  go_at_call 21
  refine (post_eq a c ar cr p _ hs hr SM na).mono ?_
  rintro e w6 ⟨⟨a3, c3, r3, d3, rfl, s3, o3⟩, b6⟩
  have j6 : Below w5.heap.size w5 w6 := by (repeat (first | exact Below.refl _ _ | refine Below.alloc ?_ (by first | omega | (simp; done) | (simp; omega)) _ | refine Below.drew ?_ | refine Below.setCell ?_ (by first | omega | (simp; done) | (simp; omega)) _ | refine Below.trans ?_ (Below.mono (by assumption) (by first | omega | (simp; done) | (simp; omega)))))
  have t6 : Below w.heap.size w w6 := t5.trans (j6.mono t5.size)
  replace hs := hs.below j6
  replace hr := hr.below j6
  replace he := he.below j6
  replace ht := ht.below j6
  replace q0 := below_cell j6 q0
  replace q1 := below_cell j6 q1
  replace q2 := below_cell j6 q2
  replace lB := Nat.lt_of_lt_of_le lB j6.size
  replace tX := tX.below j6
  go_wp2_with fail
  go_at_call 23
  refine (truth_eq _ at_ t ct ht ST).mono ?_
  rintro e w7 ⟨⟨a4, c4, rfl, tB⟩, b7⟩
  have j7 : Below w6.heap.size w6 w7 := by (repeat (first | exact Below.refl _ _ | refine Below.alloc ?_ (by first | omega | (simp; done) | (simp; omega)) _ | refine Below.drew ?_ | refine Below.setCell ?_ (by first | omega | (simp; done) | (simp; omega)) _ | refine Below.trans ?_ (Below.mono (by assumption) (by first | omega | (simp; done) | (simp; omega)))))
  have t7 : Below w.heap.size w w7 := t6.trans (j7.mono t6.size)
  replace hs := hs.below j7
  replace hr := hr.below j7
  replace he := he.below j7
  replace ht := ht.below j7
  replace q0 := below_cell j7 q0
  replace q1 := below_cell j7 q1
  replace q2 := below_cell j7 q2
  replace lB := Nat.lt_of_lt_of_le lB j7.size
  replace tX := tX.below j7
  replace s3 := s3.below j7
  replace o3 := o3.below j7
  go_wp2_with fail
  go_at_call 41
  refine (entsL_eq al l cl _ he ll).mono ?_
  rintro e w8 ⟨⟨a5, c5, rfl, g5⟩, b8⟩
  have j8 : Below w7.heap.size w7 w8 := by (repeat (first | exact Below.refl _ _ | refine Below.alloc ?_ (by first | omega | (simp; done) | (simp; omega)) _ | refine Below.drew ?_ | refine Below.setCell ?_ (by first | omega | (simp; done) | (simp; omega)) _ | refine Below.trans ?_ (Below.mono (by assumption) (by first | omega | (simp; done) | (simp; omega)))))
  have t8 : Below w.heap.size w w8 := t7.trans (j8.mono t7.size)
  replace hs := hs.below j8
  replace hr := hr.below j8
  replace he := he.below j8
  replace ht := ht.below j8
  replace q0 := below_cell j8 q0
  replace q1 := below_cell j8 q1
  replace q2 := below_cell j8 q2
  replace lB := Nat.lt_of_lt_of_le lB j8.size
  replace tX := tX.below j8
  replace s3 := s3.below j8
  replace o3 := o3.below j8
  replace tB := tB.below j8
  go_wp2_with fail
  go_at_call 52
  refine (prove_eq a3 c3 r3 d3 p a4 t t.length c4 a5 l c5 _ false HV (Lib.hid rfl) s3 o3 SM tB ST g5 ll).mono ?_
  rintro e w9 ⟨rfl, b9⟩
  have j9 : Below w8.heap.size w8 w9 := by (repeat (first | exact Below.refl _ _ | refine Below.alloc ?_ (by first | omega | (simp; done) | (simp; omega)) _ | refine Below.drew ?_ | refine Below.setCell ?_ (by first | omega | (simp; done) | (simp; omega)) _ | refine Below.trans ?_ (Below.mono (by assumption) (by first | omega | (simp; done) | (simp; omega)))))
  have t9 : Below w.heap.size w w9 := t8.trans (j9.mono t8.size)
  replace hs := hs.below j9
  replace hr := hr.below j9
  replace he := he.below j9
  replace ht := ht.below j9
  replace q0 := below_cell j9 q0
  replace q1 := below_cell j9 q1
  replace q2 := below_cell j9 q2
  replace lB := Nat.lt_of_lt_of_le lB j9.size
  replace tX := tX.below j9
  replace s3 := s3.below j9
  replace o3 := o3.below j9
  replace tB := tB.below j9
  replace g5 := g5.below j9
  clear s3 o3 tB g5
  go_wp2_with fail
  go_at_call 42
  refine (booked_eq a c ar cr p al l cl _ 0 HE hs hr SM he (by omega)).mono ?_
  rintro e w10 ⟨rfl, b10⟩
  have j10 : Below w9.heap.size w9 w10 := by (repeat (first | exact Below.refl _ _ | refine Below.alloc ?_ (by first | omega | (simp; done) | (simp; omega)) _ | refine Below.drew ?_ | refine Below.setCell ?_ (by first | omega | (simp; done) | (simp; omega)) _ | refine Below.trans ?_ (Below.mono (by assumption) (by first | omega | (simp; done) | (simp; omega)))))
  have t10 : Below w.heap.size w w10 := t9.trans (j10.mono t9.size)
  replace hs := hs.below j10
  replace hr := hr.below j10
  replace he := he.below j10
  replace ht := ht.below j10
  replace q0 := below_cell j10 q0
  replace q1 := below_cell j10 q1
  replace q2 := below_cell j10 q2
  replace lB := Nat.lt_of_lt_of_le lB j10.size
  replace tX := tX.below j10
  go_wp2_with fail
  go_at_call 25
  refine (tfault_eq a c ar cr p _ at_ t ct S HSE hr SM ht ST).mono ?_
  rintro e w11 ⟨rfl, b11⟩
  have j11 : Below w10.heap.size w10 w11 := by (repeat (first | exact Below.refl _ _ | refine Below.alloc ?_ (by first | omega | (simp; done) | (simp; omega)) _ | refine Below.drew ?_ | refine Below.setCell ?_ (by first | omega | (simp; done) | (simp; omega)) _ | refine Below.trans ?_ (Below.mono (by assumption) (by first | omega | (simp; done) | (simp; omega)))))
  have t11 : Below w.heap.size w w11 := t10.trans (j11.mono t10.size)
  replace hs := hs.below j11
  replace hr := hr.below j11
  replace he := he.below j11
  replace ht := ht.below j11
  replace q0 := below_cell j11 q0
  replace q1 := below_cell j11 q1
  replace q2 := below_cell j11 q2
  replace lB := Nat.lt_of_lt_of_le lB j11.size
  replace tX := tX.below j11
  go_wp2_with fail
  go_at_call 54
  refine (explained_eq a c ar cr p al l cl _ false HXB hs hr H0 he ll).mono ?_
  rintro e w12 ⟨rfl, b12⟩
  have j12 : Below w11.heap.size w11 w12 := by (repeat (first | exact Below.refl _ _ | refine Below.alloc ?_ (by first | omega | (simp; done) | (simp; omega)) _ | refine Below.drew ?_ | refine Below.setCell ?_ (by first | omega | (simp; done) | (simp; omega)) _ | refine Below.trans ?_ (Below.mono (by assumption) (by first | omega | (simp; done) | (simp; omega)))))
  have t12 : Below w.heap.size w w12 := t11.trans (j12.mono t11.size)
  replace hs := hs.below j12
  replace hr := hr.below j12
  replace he := he.below j12
  replace ht := ht.below j12
  replace q0 := below_cell j12 q0
  replace q1 := below_cell j12 q1
  replace q2 := below_cell j12 q2
  replace lB := Nat.lt_of_lt_of_le lB j12.size
  replace tX := tX.below j12
  go_wp2_with fail
  go_at_call 19
  refine (awake_any _).mono ?_
  rintro e w13 ⟨rfl, b13⟩
  have j13 : Below w12.heap.size w12 w13 := by (repeat (first | exact Below.refl _ _ | refine Below.alloc ?_ (by first | omega | (simp; done) | (simp; omega)) _ | refine Below.drew ?_ | refine Below.setCell ?_ (by first | omega | (simp; done) | (simp; omega)) _ | refine Below.trans ?_ (Below.mono (by assumption) (by first | omega | (simp; done) | (simp; omega)))))
  have t13 : Below w.heap.size w w13 := t12.trans (j13.mono t12.size)
  replace hs := hs.below j13
  replace hr := hr.below j13
  replace he := he.below j13
  replace ht := ht.below j13
  replace q0 := below_cell j13 q0
  replace q1 := below_cell j13 q1
  replace q2 := below_cell j13 q2
  replace lB := Nat.lt_of_lt_of_le lB j13.size
  replace tX := tX.below j13
  go_wp2_with fail
  go_ret
  exact ⟨rfl, t13⟩

set_option maxRecDepth 100000 in
set_option maxHeartbeats 4000000 in
theorem expl_b2 (a : Option Addr) (c : Nat) (ar : Option Addr) (cr : Nat) (p : Post) (al : Option Addr) (l : List Ent) (cl : Nat) (at_ : Option Addr) (t : List (List (List Int))) (ct : Nat) (w : World) (hs : IntsAt w a p.sends) (hr : RoutesAt w ar p.routes) (na : a = none → c = 0) (big : PostBig p) (he : EntsAt w al l) (ht : TruthAt w at_ t) (bt : TruthBig t) (hT : thinB p = true) (hS : shortB t = true) (h1 : ¬ (10 < (l.length : Int))) (hE : bookErr p l = 0) (hSe : shapeErr p t = 0) (hV : explsB p t l = true) (z : List Int) (hz : searchF p l = some z) :
    Calls Try.prog 14 #[.agg #[.slice a p.sends.length c, .slice ar p.routes.length cr, .int .i64 p.pat], .slice al l.length cl, .slice at_ t.length ct] w fun e w' => e = .returned (.bool true) ∧ Below w.heap.size w w' := by

  have HB := Lib.hid big
  have HBT := Lib.hid bt
  have HT := Lib.hid hT
  have HSh := Lib.hid hS
  have SM := Lib.hid (thin_small hT)
  have ST := Lib.hid (short_small hS)
  have lS : p.sends.length ≤ 1000 := SM.out.1
  have lR : p.routes.length ≤ 1000 := SM.out.2
  have ll : l.length ≤ 1000 := by omega
  have HE := Lib.hid hE
  have H0 := Lib.hid (bookErr_ok' hE).1
  have HSE := Lib.hid hSe
  have HV : Hid (proveB p t l = true) := Lib.hid (by unfold proveB; rw [hE, hSe]; simp [hV])
  have HXB : Hid (explB p l = true) := Lib.hid (by unfold explB; rw [hz]; rfl)
  have HXE : Hid (explErr p l = 0) := Lib.hid (by unfold explErr; rw [if_neg (by simpa using hE), HXB.out]; rfl)
  obtain ⟨hq1, hq2, hq3⟩ := explain_ok hE hz
  have hxo : explOut p l = truthF p z := by unfold explOut; rw [if_neg (by simpa using hE), hz]
  obtain ⟨X, hX⟩ : ∃ X, truthF p z = X := ⟨_, rfl⟩
  rw [hX] at hxo hq1 hq2 hq3
  obtain ⟨n, hn⟩ : ∃ n, X.length = n := ⟨_, rfl⟩
  have HXO := Lib.hid hxo
  have HXn := Lib.hid hn
  have HQ1 := Lib.hid hq1
  have HQ2 := Lib.hid hq2
  have HQ3 := Lib.hid hq3
  clear hX hn hxo hq1 hq2 hq3
  have HVV := Lib.hid hV
  clear hV
  clear hT big bt hS hE hSe hz
  go_enter Try.func14, Try.ntmps14
  go_wp2_with fail
  go_at_call 17
  refine (thin_eq a c ar cr p _ true HT (hr.below (by (repeat (first | exact Below.refl _ _ | refine Below.alloc ?_ (by first | omega | (simp; done) | (simp; omega)) _ | refine Below.drew ?_ | refine Below.setCell ?_ (by first | omega | (simp; done) | (simp; omega)) _ | refine Below.trans ?_ (Below.mono (by assumption) (by first | omega | (simp; done) | (simp; omega))))))) HB.out).mono ?_
  rintro e w1 ⟨rfl, b1⟩
  have t1 : Below w.heap.size w w1 := by (repeat (first | exact Below.refl _ _ | refine Below.alloc ?_ (by first | omega | (simp; done) | (simp; omega)) _ | refine Below.drew ?_ | refine Below.setCell ?_ (by first | omega | (simp; done) | (simp; omega)) _ | refine Below.trans ?_ (Below.mono (by assumption) (by first | omega | (simp; done) | (simp; omega)))))
  replace hs := hs.below t1
  replace hr := hr.below t1
  replace he := he.below t1
  replace ht := ht.below t1
  have q0 := box_cells b1 0 rfl
  have q1 := box_cells b1 1 rfl
  have q2 := box_cells b1 2 rfl
  have lB := cell_ltK q0
  go_wp2_with fail
  go_at_call 18
  refine (short_eq _ at_ t ct true HSh ht HBT.out).mono ?_
  rintro e w2 ⟨rfl, b2⟩
  have j2 : Below w1.heap.size w1 w2 := by (repeat (first | exact Below.refl _ _ | refine Below.alloc ?_ (by first | omega | (simp; done) | (simp; omega)) _ | refine Below.drew ?_ | refine Below.setCell ?_ (by first | omega | (simp; done) | (simp; omega)) _ | refine Below.trans ?_ (Below.mono (by assumption) (by first | omega | (simp; done) | (simp; omega)))))
  have t2 : Below w.heap.size w w2 := t1.trans (j2.mono t1.size)
  replace hs := hs.below j2
  replace hr := hr.below j2
  replace he := he.below j2
  replace ht := ht.below j2
  replace q0 := below_cell j2 q0
  replace q1 := below_cell j2 q1
  replace q2 := below_cell j2 q2
  replace lB := Nat.lt_of_lt_of_le lB j2.size
  go_wp2_with fail
  go_at_call 21
  refine (post_eq a c ar cr p _ hs hr SM na).mono ?_
  rintro e w3 ⟨⟨a1, c1, r1, d1, rfl, s1, o1⟩, b3⟩
  have j3 : Below w2.heap.size w2 w3 := by (repeat (first | exact Below.refl _ _ | refine Below.alloc ?_ (by first | omega | (simp; done) | (simp; omega)) _ | refine Below.drew ?_ | refine Below.setCell ?_ (by first | omega | (simp; done) | (simp; omega)) _ | refine Below.trans ?_ (Below.mono (by assumption) (by first | omega | (simp; done) | (simp; omega)))))
  have t3 : Below w.heap.size w w3 := t2.trans (j3.mono t2.size)
  replace hs := hs.below j3
  replace hr := hr.below j3
  replace he := he.below j3
  replace ht := ht.below j3
  replace q0 := below_cell j3 q0
  replace q1 := below_cell j3 q1
  replace q2 := below_cell j3 q2
  replace lB := Nat.lt_of_lt_of_le lB j3.size
  go_wp2_with fail
  go_at_call 41
  refine (entsL_eq al l cl _ he ll).mono ?_
  rintro e w4 ⟨⟨a2, c2, rfl, g2⟩, b4⟩
  have j4 : Below w3.heap.size w3 w4 := by (repeat (first | exact Below.refl _ _ | refine Below.alloc ?_ (by first | omega | (simp; done) | (simp; omega)) _ | refine Below.drew ?_ | refine Below.setCell ?_ (by first | omega | (simp; done) | (simp; omega)) _ | refine Below.trans ?_ (Below.mono (by assumption) (by first | omega | (simp; done) | (simp; omega)))))
  have t4 : Below w.heap.size w w4 := t3.trans (j4.mono t3.size)
  replace hs := hs.below j4
  replace hr := hr.below j4
  replace he := he.below j4
  replace ht := ht.below j4
  replace q0 := below_cell j4 q0
  replace q1 := below_cell j4 q1
  replace q2 := below_cell j4 q2
  replace lB := Nat.lt_of_lt_of_le lB j4.size
  replace s1 := s1.below j4
  replace o1 := o1.below j4
  go_wp2_with fail
  go_at_call 48
  refine (explain_eq a1 c1 r1 d1 p a2 l c2 _ 0 X n HXE HXO HXn s1 o1 SM g2 ll).mono ?_
  rintro e w5 ⟨⟨e1, f1, rfl, tX, _⟩, b5⟩
  have j5 : Below w4.heap.size w4 w5 := by (repeat (first | exact Below.refl _ _ | refine Below.alloc ?_ (by first | omega | (simp; done) | (simp; omega)) _ | refine Below.drew ?_ | refine Below.setCell ?_ (by first | omega | (simp; done) | (simp; omega)) _ | refine Below.trans ?_ (Below.mono (by assumption) (by first | omega | (simp; done) | (simp; omega)))))
  have t5 : Below w.heap.size w w5 := t4.trans (j5.mono t4.size)
  replace hs := hs.below j5
  replace hr := hr.below j5
  replace he := he.below j5
  replace ht := ht.below j5
  replace q0 := below_cell j5 q0
  replace q1 := below_cell j5 q1
  replace q2 := below_cell j5 q2
  replace lB := Nat.lt_of_lt_of_le lB j5.size
  replace s1 := s1.below j5
  replace o1 := o1.below j5
  replace g2 := g2.below j5
  clear s1 o1 g2
  go_wp2_with fail
  go_at_call 21
  refine (post_eq a c ar cr p _ hs hr SM na).mono ?_
  rintro e w6 ⟨⟨a3, c3, r3, d3, rfl, s3, o3⟩, b6⟩
  have j6 : Below w5.heap.size w5 w6 := by (repeat (first | exact Below.refl _ _ | refine Below.alloc ?_ (by first | omega | (simp; done) | (simp; omega)) _ | refine Below.drew ?_ | refine Below.setCell ?_ (by first | omega | (simp; done) | (simp; omega)) _ | refine Below.trans ?_ (Below.mono (by assumption) (by first | omega | (simp; done) | (simp; omega)))))
  have t6 : Below w.heap.size w w6 := t5.trans (j6.mono t5.size)
  replace hs := hs.below j6
  replace hr := hr.below j6
  replace he := he.below j6
  replace ht := ht.below j6
  replace q0 := below_cell j6 q0
  replace q1 := below_cell j6 q1
  replace q2 := below_cell j6 q2
  replace lB := Nat.lt_of_lt_of_le lB j6.size
  replace tX := tX.below j6
  go_wp2_with fail
  go_at_call 23
  refine (truth_eq _ at_ t ct ht ST).mono ?_
  rintro e w7 ⟨⟨a4, c4, rfl, tB⟩, b7⟩
  have j7 : Below w6.heap.size w6 w7 := by (repeat (first | exact Below.refl _ _ | refine Below.alloc ?_ (by first | omega | (simp; done) | (simp; omega)) _ | refine Below.drew ?_ | refine Below.setCell ?_ (by first | omega | (simp; done) | (simp; omega)) _ | refine Below.trans ?_ (Below.mono (by assumption) (by first | omega | (simp; done) | (simp; omega)))))
  have t7 : Below w.heap.size w w7 := t6.trans (j7.mono t6.size)
  replace hs := hs.below j7
  replace hr := hr.below j7
  replace he := he.below j7
  replace ht := ht.below j7
  replace q0 := below_cell j7 q0
  replace q1 := below_cell j7 q1
  replace q2 := below_cell j7 q2
  replace lB := Nat.lt_of_lt_of_le lB j7.size
  replace tX := tX.below j7
  replace s3 := s3.below j7
  replace o3 := o3.below j7
  go_wp2_with fail
  go_at_call 41
  refine (entsL_eq al l cl _ he ll).mono ?_
  rintro e w8 ⟨⟨a5, c5, rfl, g5⟩, b8⟩
  have j8 : Below w7.heap.size w7 w8 := by (repeat (first | exact Below.refl _ _ | refine Below.alloc ?_ (by first | omega | (simp; done) | (simp; omega)) _ | refine Below.drew ?_ | refine Below.setCell ?_ (by first | omega | (simp; done) | (simp; omega)) _ | refine Below.trans ?_ (Below.mono (by assumption) (by first | omega | (simp; done) | (simp; omega)))))
  have t8 : Below w.heap.size w w8 := t7.trans (j8.mono t7.size)
  replace hs := hs.below j8
  replace hr := hr.below j8
  replace he := he.below j8
  replace ht := ht.below j8
  replace q0 := below_cell j8 q0
  replace q1 := below_cell j8 q1
  replace q2 := below_cell j8 q2
  replace lB := Nat.lt_of_lt_of_le lB j8.size
  replace tX := tX.below j8
  replace s3 := s3.below j8
  replace o3 := o3.below j8
  replace tB := tB.below j8
  go_wp2_with fail
  go_at_call 52
  refine (prove_eq a3 c3 r3 d3 p a4 t t.length c4 a5 l c5 _ true HV (Lib.hid rfl) s3 o3 SM tB ST g5 ll).mono ?_
  rintro e w9 ⟨rfl, b9⟩
  have j9 : Below w8.heap.size w8 w9 := by (repeat (first | exact Below.refl _ _ | refine Below.alloc ?_ (by first | omega | (simp; done) | (simp; omega)) _ | refine Below.drew ?_ | refine Below.setCell ?_ (by first | omega | (simp; done) | (simp; omega)) _ | refine Below.trans ?_ (Below.mono (by assumption) (by first | omega | (simp; done) | (simp; omega)))))
  have t9 : Below w.heap.size w w9 := t8.trans (j9.mono t8.size)
  replace hs := hs.below j9
  replace hr := hr.below j9
  replace he := he.below j9
  replace ht := ht.below j9
  replace q0 := below_cell j9 q0
  replace q1 := below_cell j9 q1
  replace q2 := below_cell j9 q2
  replace lB := Nat.lt_of_lt_of_le lB j9.size
  replace tX := tX.below j9
  replace s3 := s3.below j9
  replace o3 := o3.below j9
  replace tB := tB.below j9
  replace g5 := g5.below j9
  clear s3 o3 tB g5
  go_wp2_with fail
  go_at_call 42
  refine (booked_eq a c ar cr p al l cl _ 0 HE hs hr SM he (by omega)).mono ?_
  rintro e w10 ⟨rfl, b10⟩
  have j10 : Below w9.heap.size w9 w10 := by (repeat (first | exact Below.refl _ _ | refine Below.alloc ?_ (by first | omega | (simp; done) | (simp; omega)) _ | refine Below.drew ?_ | refine Below.setCell ?_ (by first | omega | (simp; done) | (simp; omega)) _ | refine Below.trans ?_ (Below.mono (by assumption) (by first | omega | (simp; done) | (simp; omega)))))
  have t10 : Below w.heap.size w w10 := t9.trans (j10.mono t9.size)
  replace hs := hs.below j10
  replace hr := hr.below j10
  replace he := he.below j10
  replace ht := ht.below j10
  replace q0 := below_cell j10 q0
  replace q1 := below_cell j10 q1
  replace q2 := below_cell j10 q2
  replace lB := Nat.lt_of_lt_of_le lB j10.size
  replace tX := tX.below j10
  go_wp2_with fail
  go_at_call 25
  refine (tfault_eq a c ar cr p _ at_ t ct 0 HSE hr SM ht ST).mono ?_
  rintro e w11 ⟨rfl, b11⟩
  have j11 : Below w10.heap.size w10 w11 := by (repeat (first | exact Below.refl _ _ | refine Below.alloc ?_ (by first | omega | (simp; done) | (simp; omega)) _ | refine Below.drew ?_ | refine Below.setCell ?_ (by first | omega | (simp; done) | (simp; omega)) _ | refine Below.trans ?_ (Below.mono (by assumption) (by first | omega | (simp; done) | (simp; omega)))))
  have t11 : Below w.heap.size w w11 := t10.trans (j11.mono t10.size)
  replace hs := hs.below j11
  replace hr := hr.below j11
  replace he := he.below j11
  replace ht := ht.below j11
  replace q0 := below_cell j11 q0
  replace q1 := below_cell j11 q1
  replace q2 := below_cell j11 q2
  replace lB := Nat.lt_of_lt_of_le lB j11.size
  replace tX := tX.below j11
  go_wp2_with fail
  go_at_call 53
  refine (explains_eq a c ar cr p at_ t t.length ct al l cl _ true HVV (Lib.hid rfl) hs hr ht HE HSE he).mono ?_
  rintro e w12 ⟨rfl, b12⟩
  have j12 : Below w11.heap.size w11 w12 := by (repeat (first | exact Below.refl _ _ | refine Below.alloc ?_ (by first | omega | (simp; done) | (simp; omega)) _ | refine Below.drew ?_ | refine Below.setCell ?_ (by first | omega | (simp; done) | (simp; omega)) _ | refine Below.trans ?_ (Below.mono (by assumption) (by first | omega | (simp; done) | (simp; omega)))))
  have t12 : Below w.heap.size w w12 := t11.trans (j12.mono t11.size)
  replace hs := hs.below j12
  replace hr := hr.below j12
  replace he := he.below j12
  replace ht := ht.below j12
  replace q0 := below_cell j12 q0
  replace q1 := below_cell j12 q1
  replace q2 := below_cell j12 q2
  replace lB := Nat.lt_of_lt_of_le lB j12.size
  replace tX := tX.below j12
  go_wp2_with fail
  go_at_call 54
  refine (explained_eq a c ar cr p al l cl _ true HXB hs hr H0 he ll).mono ?_
  rintro e w13 ⟨rfl, b13⟩
  have j13 : Below w12.heap.size w12 w13 := by (repeat (first | exact Below.refl _ _ | refine Below.alloc ?_ (by first | omega | (simp; done) | (simp; omega)) _ | refine Below.drew ?_ | refine Below.setCell ?_ (by first | omega | (simp; done) | (simp; omega)) _ | refine Below.trans ?_ (Below.mono (by assumption) (by first | omega | (simp; done) | (simp; omega)))))
  have t13 : Below w.heap.size w w13 := t12.trans (j13.mono t12.size)
  replace hs := hs.below j13
  replace hr := hr.below j13
  replace he := he.below j13
  replace ht := ht.below j13
  replace q0 := below_cell j13 q0
  replace q1 := below_cell j13 q1
  replace q2 := below_cell j13 q2
  replace lB := Nat.lt_of_lt_of_le lB j13.size
  replace tX := tX.below j13
  go_wp2_with fail
  go_at_call 25
  refine (tfaultL_eq a c ar cr p _ e1 X n f1 HXn 0 HQ1 hr SM tX HQ2).mono ?_
  rintro e w14 ⟨rfl, b14⟩
  have j14 : Below w13.heap.size w13 w14 := by (repeat (first | exact Below.refl _ _ | refine Below.alloc ?_ (by first | omega | (simp; done) | (simp; omega)) _ | refine Below.drew ?_ | refine Below.setCell ?_ (by first | omega | (simp; done) | (simp; omega)) _ | refine Below.trans ?_ (Below.mono (by assumption) (by first | omega | (simp; done) | (simp; omega)))))
  have t14 : Below w.heap.size w w14 := t13.trans (j14.mono t13.size)
  replace hs := hs.below j14
  replace hr := hr.below j14
  replace he := he.below j14
  replace ht := ht.below j14
  replace q0 := below_cell j14 q0
  replace q1 := below_cell j14 q1
  replace q2 := below_cell j14 q2
  replace lB := Nat.lt_of_lt_of_le lB j14.size
  replace tX := tX.below j14
  go_wp2_with fail
  go_at_call 53
  refine (explains_eq a c ar cr p e1 X n f1 al l cl _ true HQ3 HXn hs hr tX HE HQ1 he).mono ?_
  rintro e w15 ⟨rfl, b15⟩
  have j15 : Below w14.heap.size w14 w15 := by (repeat (first | exact Below.refl _ _ | refine Below.alloc ?_ (by first | omega | (simp; done) | (simp; omega)) _ | refine Below.drew ?_ | refine Below.setCell ?_ (by first | omega | (simp; done) | (simp; omega)) _ | refine Below.trans ?_ (Below.mono (by assumption) (by first | omega | (simp; done) | (simp; omega)))))
  have t15 : Below w.heap.size w w15 := t14.trans (j15.mono t14.size)
  replace hs := hs.below j15
  replace hr := hr.below j15
  replace he := he.below j15
  replace ht := ht.below j15
  replace q0 := below_cell j15 q0
  replace q1 := below_cell j15 q1
  replace q2 := below_cell j15 q2
  replace lB := Nat.lt_of_lt_of_le lB j15.size
  replace tX := tX.below j15
  go_wp2_with fail
  go_at_call 19
  refine (awake_any _).mono ?_
  rintro e w16 ⟨rfl, b16⟩
  have j16 : Below w15.heap.size w15 w16 := by (repeat (first | exact Below.refl _ _ | refine Below.alloc ?_ (by first | omega | (simp; done) | (simp; omega)) _ | refine Below.drew ?_ | refine Below.setCell ?_ (by first | omega | (simp; done) | (simp; omega)) _ | refine Below.trans ?_ (Below.mono (by assumption) (by first | omega | (simp; done) | (simp; omega)))))
  have t16 : Below w.heap.size w w16 := t15.trans (j16.mono t15.size)
  replace hs := hs.below j16
  replace hr := hr.below j16
  replace he := he.below j16
  replace ht := ht.below j16
  replace q0 := below_cell j16 q0
  replace q1 := below_cell j16 q1
  replace q2 := below_cell j16 q2
  replace lB := Nat.lt_of_lt_of_le lB j16.size
  replace tX := tX.below j16
  go_wp2_with fail
  go_ret
  exact ⟨rfl, t16⟩

set_option maxRecDepth 100000 in
set_option maxHeartbeats 4000000 in
theorem expl_b3 (a : Option Addr) (c : Nat) (ar : Option Addr) (cr : Nat) (p : Post) (al : Option Addr) (l : List Ent) (cl : Nat) (at_ : Option Addr) (t : List (List (List Int))) (ct : Nat) (w : World) (hs : IntsAt w a p.sends) (hr : RoutesAt w ar p.routes) (na : a = none → c = 0) (big : PostBig p) (he : EntsAt w al l) (ht : TruthAt w at_ t) (bt : TruthBig t) (hT : thinB p = true) (hS : shortB t = true) (h1 : ¬ (10 < (l.length : Int))) (hE : bookErr p l = 0) (hSe : shapeErr p t = 0) (hV : explsB p t l = true) (hz : searchF p l = none) :
    Calls Try.prog 14 #[.agg #[.slice a p.sends.length c, .slice ar p.routes.length cr, .int .i64 p.pat], .slice al l.length cl, .slice at_ t.length ct] w fun e w' => e = .returned (.bool true) ∧ Below w.heap.size w w' := by

  have HB := Lib.hid big
  have HBT := Lib.hid bt
  have HT := Lib.hid hT
  have HSh := Lib.hid hS
  have SM := Lib.hid (thin_small hT)
  have ST := Lib.hid (short_small hS)
  have lS : p.sends.length ≤ 1000 := SM.out.1
  have lR : p.routes.length ≤ 1000 := SM.out.2
  have ll : l.length ≤ 1000 := by omega
  have HE := Lib.hid hE
  have H0 := Lib.hid (bookErr_ok' hE).1
  have HSE := Lib.hid hSe
  have HV : Hid (proveB p t l = true) := Lib.hid (by unfold proveB; rw [hE, hSe]; simp [hV])
  have HXB : Hid (explB p l = false) := Lib.hid (by unfold explB; rw [hz]; rfl)
  have HXE : Hid (explErr p l = 9) := Lib.hid (by unfold explErr; rw [if_neg (by simpa using hE), HXB.out]; rfl)
  have HXO : Hid (explOut p l = []) := Lib.hid (by unfold explOut; rw [if_neg (by simpa using hE), hz])
  have HXn : Hid (([] : List (List (List Int))).length = 0) := Lib.hid rfl
  have HVV := Lib.hid hV
  clear hV
  clear hT big bt hS hE hSe hz
  go_enter Try.func14, Try.ntmps14
  go_wp2_with fail
  go_at_call 17
  refine (thin_eq a c ar cr p _ true HT (hr.below (by (repeat (first | exact Below.refl _ _ | refine Below.alloc ?_ (by first | omega | (simp; done) | (simp; omega)) _ | refine Below.drew ?_ | refine Below.setCell ?_ (by first | omega | (simp; done) | (simp; omega)) _ | refine Below.trans ?_ (Below.mono (by assumption) (by first | omega | (simp; done) | (simp; omega))))))) HB.out).mono ?_
  rintro e w1 ⟨rfl, b1⟩
  have t1 : Below w.heap.size w w1 := by (repeat (first | exact Below.refl _ _ | refine Below.alloc ?_ (by first | omega | (simp; done) | (simp; omega)) _ | refine Below.drew ?_ | refine Below.setCell ?_ (by first | omega | (simp; done) | (simp; omega)) _ | refine Below.trans ?_ (Below.mono (by assumption) (by first | omega | (simp; done) | (simp; omega)))))
  replace hs := hs.below t1
  replace hr := hr.below t1
  replace he := he.below t1
  replace ht := ht.below t1
  have q0 := box_cells b1 0 rfl
  have q1 := box_cells b1 1 rfl
  have q2 := box_cells b1 2 rfl
  have lB := cell_ltK q0
  go_wp2_with fail
  go_at_call 18
  refine (short_eq _ at_ t ct true HSh ht HBT.out).mono ?_
  rintro e w2 ⟨rfl, b2⟩
  have j2 : Below w1.heap.size w1 w2 := by (repeat (first | exact Below.refl _ _ | refine Below.alloc ?_ (by first | omega | (simp; done) | (simp; omega)) _ | refine Below.drew ?_ | refine Below.setCell ?_ (by first | omega | (simp; done) | (simp; omega)) _ | refine Below.trans ?_ (Below.mono (by assumption) (by first | omega | (simp; done) | (simp; omega)))))
  have t2 : Below w.heap.size w w2 := t1.trans (j2.mono t1.size)
  replace hs := hs.below j2
  replace hr := hr.below j2
  replace he := he.below j2
  replace ht := ht.below j2
  replace q0 := below_cell j2 q0
  replace q1 := below_cell j2 q1
  replace q2 := below_cell j2 q2
  replace lB := Nat.lt_of_lt_of_le lB j2.size
  go_wp2_with fail
  go_at_call 21
  refine (post_eq a c ar cr p _ hs hr SM na).mono ?_
  rintro e w3 ⟨⟨a1, c1, r1, d1, rfl, s1, o1⟩, b3⟩
  have j3 : Below w2.heap.size w2 w3 := by (repeat (first | exact Below.refl _ _ | refine Below.alloc ?_ (by first | omega | (simp; done) | (simp; omega)) _ | refine Below.drew ?_ | refine Below.setCell ?_ (by first | omega | (simp; done) | (simp; omega)) _ | refine Below.trans ?_ (Below.mono (by assumption) (by first | omega | (simp; done) | (simp; omega)))))
  have t3 : Below w.heap.size w w3 := t2.trans (j3.mono t2.size)
  replace hs := hs.below j3
  replace hr := hr.below j3
  replace he := he.below j3
  replace ht := ht.below j3
  replace q0 := below_cell j3 q0
  replace q1 := below_cell j3 q1
  replace q2 := below_cell j3 q2
  replace lB := Nat.lt_of_lt_of_le lB j3.size
  go_wp2_with fail
  go_at_call 41
  refine (entsL_eq al l cl _ he ll).mono ?_
  rintro e w4 ⟨⟨a2, c2, rfl, g2⟩, b4⟩
  have j4 : Below w3.heap.size w3 w4 := by (repeat (first | exact Below.refl _ _ | refine Below.alloc ?_ (by first | omega | (simp; done) | (simp; omega)) _ | refine Below.drew ?_ | refine Below.setCell ?_ (by first | omega | (simp; done) | (simp; omega)) _ | refine Below.trans ?_ (Below.mono (by assumption) (by first | omega | (simp; done) | (simp; omega)))))
  have t4 : Below w.heap.size w w4 := t3.trans (j4.mono t3.size)
  replace hs := hs.below j4
  replace hr := hr.below j4
  replace he := he.below j4
  replace ht := ht.below j4
  replace q0 := below_cell j4 q0
  replace q1 := below_cell j4 q1
  replace q2 := below_cell j4 q2
  replace lB := Nat.lt_of_lt_of_le lB j4.size
  replace s1 := s1.below j4
  replace o1 := o1.below j4
  go_wp2_with fail
  go_at_call 48
  refine (explain_eq a1 c1 r1 d1 p a2 l c2 _ 9 [] 0 HXE HXO HXn s1 o1 SM g2 ll).mono ?_
  rintro e w5 ⟨⟨e1, f1, rfl, tX, _⟩, b5⟩
  have j5 : Below w4.heap.size w4 w5 := by (repeat (first | exact Below.refl _ _ | refine Below.alloc ?_ (by first | omega | (simp; done) | (simp; omega)) _ | refine Below.drew ?_ | refine Below.setCell ?_ (by first | omega | (simp; done) | (simp; omega)) _ | refine Below.trans ?_ (Below.mono (by assumption) (by first | omega | (simp; done) | (simp; omega)))))
  have t5 : Below w.heap.size w w5 := t4.trans (j5.mono t4.size)
  replace hs := hs.below j5
  replace hr := hr.below j5
  replace he := he.below j5
  replace ht := ht.below j5
  replace q0 := below_cell j5 q0
  replace q1 := below_cell j5 q1
  replace q2 := below_cell j5 q2
  replace lB := Nat.lt_of_lt_of_le lB j5.size
  replace s1 := s1.below j5
  replace o1 := o1.below j5
  replace g2 := g2.below j5
  clear s1 o1 g2
  go_wp2_with fail
  go_at_call 21
  refine (post_eq a c ar cr p _ hs hr SM na).mono ?_
  rintro e w6 ⟨⟨a3, c3, r3, d3, rfl, s3, o3⟩, b6⟩
  have j6 : Below w5.heap.size w5 w6 := by (repeat (first | exact Below.refl _ _ | refine Below.alloc ?_ (by first | omega | (simp; done) | (simp; omega)) _ | refine Below.drew ?_ | refine Below.setCell ?_ (by first | omega | (simp; done) | (simp; omega)) _ | refine Below.trans ?_ (Below.mono (by assumption) (by first | omega | (simp; done) | (simp; omega)))))
  have t6 : Below w.heap.size w w6 := t5.trans (j6.mono t5.size)
  replace hs := hs.below j6
  replace hr := hr.below j6
  replace he := he.below j6
  replace ht := ht.below j6
  replace q0 := below_cell j6 q0
  replace q1 := below_cell j6 q1
  replace q2 := below_cell j6 q2
  replace lB := Nat.lt_of_lt_of_le lB j6.size
  replace tX := tX.below j6
  go_wp2_with fail
  go_at_call 23
  refine (truth_eq _ at_ t ct ht ST).mono ?_
  rintro e w7 ⟨⟨a4, c4, rfl, tB⟩, b7⟩
  have j7 : Below w6.heap.size w6 w7 := by (repeat (first | exact Below.refl _ _ | refine Below.alloc ?_ (by first | omega | (simp; done) | (simp; omega)) _ | refine Below.drew ?_ | refine Below.setCell ?_ (by first | omega | (simp; done) | (simp; omega)) _ | refine Below.trans ?_ (Below.mono (by assumption) (by first | omega | (simp; done) | (simp; omega)))))
  have t7 : Below w.heap.size w w7 := t6.trans (j7.mono t6.size)
  replace hs := hs.below j7
  replace hr := hr.below j7
  replace he := he.below j7
  replace ht := ht.below j7
  replace q0 := below_cell j7 q0
  replace q1 := below_cell j7 q1
  replace q2 := below_cell j7 q2
  replace lB := Nat.lt_of_lt_of_le lB j7.size
  replace tX := tX.below j7
  replace s3 := s3.below j7
  replace o3 := o3.below j7
  go_wp2_with fail
  go_at_call 41
  refine (entsL_eq al l cl _ he ll).mono ?_
  rintro e w8 ⟨⟨a5, c5, rfl, g5⟩, b8⟩
  have j8 : Below w7.heap.size w7 w8 := by (repeat (first | exact Below.refl _ _ | refine Below.alloc ?_ (by first | omega | (simp; done) | (simp; omega)) _ | refine Below.drew ?_ | refine Below.setCell ?_ (by first | omega | (simp; done) | (simp; omega)) _ | refine Below.trans ?_ (Below.mono (by assumption) (by first | omega | (simp; done) | (simp; omega)))))
  have t8 : Below w.heap.size w w8 := t7.trans (j8.mono t7.size)
  replace hs := hs.below j8
  replace hr := hr.below j8
  replace he := he.below j8
  replace ht := ht.below j8
  replace q0 := below_cell j8 q0
  replace q1 := below_cell j8 q1
  replace q2 := below_cell j8 q2
  replace lB := Nat.lt_of_lt_of_le lB j8.size
  replace tX := tX.below j8
  replace s3 := s3.below j8
  replace o3 := o3.below j8
  replace tB := tB.below j8
  go_wp2_with fail
  go_at_call 52
  refine (prove_eq a3 c3 r3 d3 p a4 t t.length c4 a5 l c5 _ true HV (Lib.hid rfl) s3 o3 SM tB ST g5 ll).mono ?_
  rintro e w9 ⟨rfl, b9⟩
  have j9 : Below w8.heap.size w8 w9 := by (repeat (first | exact Below.refl _ _ | refine Below.alloc ?_ (by first | omega | (simp; done) | (simp; omega)) _ | refine Below.drew ?_ | refine Below.setCell ?_ (by first | omega | (simp; done) | (simp; omega)) _ | refine Below.trans ?_ (Below.mono (by assumption) (by first | omega | (simp; done) | (simp; omega)))))
  have t9 : Below w.heap.size w w9 := t8.trans (j9.mono t8.size)
  replace hs := hs.below j9
  replace hr := hr.below j9
  replace he := he.below j9
  replace ht := ht.below j9
  replace q0 := below_cell j9 q0
  replace q1 := below_cell j9 q1
  replace q2 := below_cell j9 q2
  replace lB := Nat.lt_of_lt_of_le lB j9.size
  replace tX := tX.below j9
  replace s3 := s3.below j9
  replace o3 := o3.below j9
  replace tB := tB.below j9
  replace g5 := g5.below j9
  clear s3 o3 tB g5
  go_wp2_with fail
  go_at_call 42
  refine (booked_eq a c ar cr p al l cl _ 0 HE hs hr SM he (by omega)).mono ?_
  rintro e w10 ⟨rfl, b10⟩
  have j10 : Below w9.heap.size w9 w10 := by (repeat (first | exact Below.refl _ _ | refine Below.alloc ?_ (by first | omega | (simp; done) | (simp; omega)) _ | refine Below.drew ?_ | refine Below.setCell ?_ (by first | omega | (simp; done) | (simp; omega)) _ | refine Below.trans ?_ (Below.mono (by assumption) (by first | omega | (simp; done) | (simp; omega)))))
  have t10 : Below w.heap.size w w10 := t9.trans (j10.mono t9.size)
  replace hs := hs.below j10
  replace hr := hr.below j10
  replace he := he.below j10
  replace ht := ht.below j10
  replace q0 := below_cell j10 q0
  replace q1 := below_cell j10 q1
  replace q2 := below_cell j10 q2
  replace lB := Nat.lt_of_lt_of_le lB j10.size
  replace tX := tX.below j10
  go_wp2_with fail
  go_at_call 25
  refine (tfault_eq a c ar cr p _ at_ t ct 0 HSE hr SM ht ST).mono ?_
  rintro e w11 ⟨rfl, b11⟩
  have j11 : Below w10.heap.size w10 w11 := by (repeat (first | exact Below.refl _ _ | refine Below.alloc ?_ (by first | omega | (simp; done) | (simp; omega)) _ | refine Below.drew ?_ | refine Below.setCell ?_ (by first | omega | (simp; done) | (simp; omega)) _ | refine Below.trans ?_ (Below.mono (by assumption) (by first | omega | (simp; done) | (simp; omega)))))
  have t11 : Below w.heap.size w w11 := t10.trans (j11.mono t10.size)
  replace hs := hs.below j11
  replace hr := hr.below j11
  replace he := he.below j11
  replace ht := ht.below j11
  replace q0 := below_cell j11 q0
  replace q1 := below_cell j11 q1
  replace q2 := below_cell j11 q2
  replace lB := Nat.lt_of_lt_of_le lB j11.size
  replace tX := tX.below j11
  go_wp2_with fail
  go_at_call 53
  refine (explains_eq a c ar cr p at_ t t.length ct al l cl _ true HVV (Lib.hid rfl) hs hr ht HE HSE he).mono ?_
  rintro e w12 ⟨rfl, b12⟩
  have j12 : Below w11.heap.size w11 w12 := by (repeat (first | exact Below.refl _ _ | refine Below.alloc ?_ (by first | omega | (simp; done) | (simp; omega)) _ | refine Below.drew ?_ | refine Below.setCell ?_ (by first | omega | (simp; done) | (simp; omega)) _ | refine Below.trans ?_ (Below.mono (by assumption) (by first | omega | (simp; done) | (simp; omega)))))
  have t12 : Below w.heap.size w w12 := t11.trans (j12.mono t11.size)
  replace hs := hs.below j12
  replace hr := hr.below j12
  replace he := he.below j12
  replace ht := ht.below j12
  replace q0 := below_cell j12 q0
  replace q1 := below_cell j12 q1
  replace q2 := below_cell j12 q2
  replace lB := Nat.lt_of_lt_of_le lB j12.size
  replace tX := tX.below j12
  go_wp2_with fail
  go_at_call 54
  refine (explained_eq a c ar cr p al l cl _ false HXB hs hr H0 he ll).mono ?_
  rintro e w13 ⟨rfl, b13⟩
  have j13 : Below w12.heap.size w12 w13 := by (repeat (first | exact Below.refl _ _ | refine Below.alloc ?_ (by first | omega | (simp; done) | (simp; omega)) _ | refine Below.drew ?_ | refine Below.setCell ?_ (by first | omega | (simp; done) | (simp; omega)) _ | refine Below.trans ?_ (Below.mono (by assumption) (by first | omega | (simp; done) | (simp; omega)))))
  have t13 : Below w.heap.size w w13 := t12.trans (j13.mono t12.size)
  replace hs := hs.below j13
  replace hr := hr.below j13
  replace he := he.below j13
  replace ht := ht.below j13
  replace q0 := below_cell j13 q0
  replace q1 := below_cell j13 q1
  replace q2 := below_cell j13 q2
  replace lB := Nat.lt_of_lt_of_le lB j13.size
  replace tX := tX.below j13
  go_wp2_with fail
  go_at_call 19
  refine (awake_any _).mono ?_
  rintro e w14 ⟨rfl, b14⟩
  have j14 : Below w13.heap.size w13 w14 := by (repeat (first | exact Below.refl _ _ | refine Below.alloc ?_ (by first | omega | (simp; done) | (simp; omega)) _ | refine Below.drew ?_ | refine Below.setCell ?_ (by first | omega | (simp; done) | (simp; omega)) _ | refine Below.trans ?_ (Below.mono (by assumption) (by first | omega | (simp; done) | (simp; omega)))))
  have t14 : Below w.heap.size w w14 := t13.trans (j14.mono t13.size)
  replace hs := hs.below j14
  replace hr := hr.below j14
  replace he := he.below j14
  replace ht := ht.below j14
  replace q0 := below_cell j14 q0
  replace q1 := below_cell j14 q1
  replace q2 := below_cell j14 q2
  replace lB := Nat.lt_of_lt_of_le lB j14.size
  replace tX := tX.below j14
  go_wp2_with fail
  go_ret
  exact ⟨rfl, t14⟩

set_option maxRecDepth 100000 in
set_option maxHeartbeats 4000000 in
theorem expl_b4 (a : Option Addr) (c : Nat) (ar : Option Addr) (cr : Nat) (p : Post) (al : Option Addr) (l : List Ent) (cl : Nat) (at_ : Option Addr) (t : List (List (List Int))) (ct : Nat) (w : World) (hs : IntsAt w a p.sends) (hr : RoutesAt w ar p.routes) (na : a = none → c = 0) (big : PostBig p) (he : EntsAt w al l) (ht : TruthAt w at_ t) (bt : TruthBig t) (hT : thinB p = true) (hS : shortB t = true) (h1 : ¬ (10 < (l.length : Int))) (hE : bookErr p l = 0) (hSe : shapeErr p t = 0) (hV : explsB p t l = false) (z : List Int) (hz : searchF p l = some z) :
    Calls Try.prog 14 #[.agg #[.slice a p.sends.length c, .slice ar p.routes.length cr, .int .i64 p.pat], .slice al l.length cl, .slice at_ t.length ct] w fun e w' => e = .returned (.bool true) ∧ Below w.heap.size w w' := by

  have HB := Lib.hid big
  have HBT := Lib.hid bt
  have HT := Lib.hid hT
  have HSh := Lib.hid hS
  have SM := Lib.hid (thin_small hT)
  have ST := Lib.hid (short_small hS)
  have lS : p.sends.length ≤ 1000 := SM.out.1
  have lR : p.routes.length ≤ 1000 := SM.out.2
  have ll : l.length ≤ 1000 := by omega
  have HE := Lib.hid hE
  have H0 := Lib.hid (bookErr_ok' hE).1
  have HSE := Lib.hid hSe
  have HV : Hid (proveB p t l = false) := Lib.hid (by unfold proveB; rw [hE, hSe]; simp [hV])
  have HXB : Hid (explB p l = true) := Lib.hid (by unfold explB; rw [hz]; rfl)
  have HXE : Hid (explErr p l = 0) := Lib.hid (by unfold explErr; rw [if_neg (by simpa using hE), HXB.out]; rfl)
  obtain ⟨hq1, hq2, hq3⟩ := explain_ok hE hz
  have hxo : explOut p l = truthF p z := by unfold explOut; rw [if_neg (by simpa using hE), hz]
  obtain ⟨X, hX⟩ : ∃ X, truthF p z = X := ⟨_, rfl⟩
  rw [hX] at hxo hq1 hq2 hq3
  obtain ⟨n, hn⟩ : ∃ n, X.length = n := ⟨_, rfl⟩
  have HXO := Lib.hid hxo
  have HXn := Lib.hid hn
  have HQ1 := Lib.hid hq1
  have HQ2 := Lib.hid hq2
  have HQ3 := Lib.hid hq3
  clear hX hn hxo hq1 hq2 hq3
  have HVV := Lib.hid hV
  clear hV
  clear hT big bt hS hE hSe hz
  go_enter Try.func14, Try.ntmps14
  go_wp2_with fail
  go_at_call 17
  refine (thin_eq a c ar cr p _ true HT (hr.below (by (repeat (first | exact Below.refl _ _ | refine Below.alloc ?_ (by first | omega | (simp; done) | (simp; omega)) _ | refine Below.drew ?_ | refine Below.setCell ?_ (by first | omega | (simp; done) | (simp; omega)) _ | refine Below.trans ?_ (Below.mono (by assumption) (by first | omega | (simp; done) | (simp; omega))))))) HB.out).mono ?_
  rintro e w1 ⟨rfl, b1⟩
  have t1 : Below w.heap.size w w1 := by (repeat (first | exact Below.refl _ _ | refine Below.alloc ?_ (by first | omega | (simp; done) | (simp; omega)) _ | refine Below.drew ?_ | refine Below.setCell ?_ (by first | omega | (simp; done) | (simp; omega)) _ | refine Below.trans ?_ (Below.mono (by assumption) (by first | omega | (simp; done) | (simp; omega)))))
  replace hs := hs.below t1
  replace hr := hr.below t1
  replace he := he.below t1
  replace ht := ht.below t1
  have q0 := box_cells b1 0 rfl
  have q1 := box_cells b1 1 rfl
  have q2 := box_cells b1 2 rfl
  have lB := cell_ltK q0
  go_wp2_with fail
  go_at_call 18
  refine (short_eq _ at_ t ct true HSh ht HBT.out).mono ?_
  rintro e w2 ⟨rfl, b2⟩
  have j2 : Below w1.heap.size w1 w2 := by (repeat (first | exact Below.refl _ _ | refine Below.alloc ?_ (by first | omega | (simp; done) | (simp; omega)) _ | refine Below.drew ?_ | refine Below.setCell ?_ (by first | omega | (simp; done) | (simp; omega)) _ | refine Below.trans ?_ (Below.mono (by assumption) (by first | omega | (simp; done) | (simp; omega)))))
  have t2 : Below w.heap.size w w2 := t1.trans (j2.mono t1.size)
  replace hs := hs.below j2
  replace hr := hr.below j2
  replace he := he.below j2
  replace ht := ht.below j2
  replace q0 := below_cell j2 q0
  replace q1 := below_cell j2 q1
  replace q2 := below_cell j2 q2
  replace lB := Nat.lt_of_lt_of_le lB j2.size
  go_wp2_with fail
  go_at_call 21
  refine (post_eq a c ar cr p _ hs hr SM na).mono ?_
  rintro e w3 ⟨⟨a1, c1, r1, d1, rfl, s1, o1⟩, b3⟩
  have j3 : Below w2.heap.size w2 w3 := by (repeat (first | exact Below.refl _ _ | refine Below.alloc ?_ (by first | omega | (simp; done) | (simp; omega)) _ | refine Below.drew ?_ | refine Below.setCell ?_ (by first | omega | (simp; done) | (simp; omega)) _ | refine Below.trans ?_ (Below.mono (by assumption) (by first | omega | (simp; done) | (simp; omega)))))
  have t3 : Below w.heap.size w w3 := t2.trans (j3.mono t2.size)
  replace hs := hs.below j3
  replace hr := hr.below j3
  replace he := he.below j3
  replace ht := ht.below j3
  replace q0 := below_cell j3 q0
  replace q1 := below_cell j3 q1
  replace q2 := below_cell j3 q2
  replace lB := Nat.lt_of_lt_of_le lB j3.size
  go_wp2_with fail
  go_at_call 41
  refine (entsL_eq al l cl _ he ll).mono ?_
  rintro e w4 ⟨⟨a2, c2, rfl, g2⟩, b4⟩
  have j4 : Below w3.heap.size w3 w4 := by (repeat (first | exact Below.refl _ _ | refine Below.alloc ?_ (by first | omega | (simp; done) | (simp; omega)) _ | refine Below.drew ?_ | refine Below.setCell ?_ (by first | omega | (simp; done) | (simp; omega)) _ | refine Below.trans ?_ (Below.mono (by assumption) (by first | omega | (simp; done) | (simp; omega)))))
  have t4 : Below w.heap.size w w4 := t3.trans (j4.mono t3.size)
  replace hs := hs.below j4
  replace hr := hr.below j4
  replace he := he.below j4
  replace ht := ht.below j4
  replace q0 := below_cell j4 q0
  replace q1 := below_cell j4 q1
  replace q2 := below_cell j4 q2
  replace lB := Nat.lt_of_lt_of_le lB j4.size
  replace s1 := s1.below j4
  replace o1 := o1.below j4
  go_wp2_with fail
  go_at_call 48
  refine (explain_eq a1 c1 r1 d1 p a2 l c2 _ 0 X n HXE HXO HXn s1 o1 SM g2 ll).mono ?_
  rintro e w5 ⟨⟨e1, f1, rfl, tX, _⟩, b5⟩
  have j5 : Below w4.heap.size w4 w5 := by (repeat (first | exact Below.refl _ _ | refine Below.alloc ?_ (by first | omega | (simp; done) | (simp; omega)) _ | refine Below.drew ?_ | refine Below.setCell ?_ (by first | omega | (simp; done) | (simp; omega)) _ | refine Below.trans ?_ (Below.mono (by assumption) (by first | omega | (simp; done) | (simp; omega)))))
  have t5 : Below w.heap.size w w5 := t4.trans (j5.mono t4.size)
  replace hs := hs.below j5
  replace hr := hr.below j5
  replace he := he.below j5
  replace ht := ht.below j5
  replace q0 := below_cell j5 q0
  replace q1 := below_cell j5 q1
  replace q2 := below_cell j5 q2
  replace lB := Nat.lt_of_lt_of_le lB j5.size
  replace s1 := s1.below j5
  replace o1 := o1.below j5
  replace g2 := g2.below j5
  clear s1 o1 g2
  go_wp2_with fail
  go_at_call 21
  refine (post_eq a c ar cr p _ hs hr SM na).mono ?_
  rintro e w6 ⟨⟨a3, c3, r3, d3, rfl, s3, o3⟩, b6⟩
  have j6 : Below w5.heap.size w5 w6 := by (repeat (first | exact Below.refl _ _ | refine Below.alloc ?_ (by first | omega | (simp; done) | (simp; omega)) _ | refine Below.drew ?_ | refine Below.setCell ?_ (by first | omega | (simp; done) | (simp; omega)) _ | refine Below.trans ?_ (Below.mono (by assumption) (by first | omega | (simp; done) | (simp; omega)))))
  have t6 : Below w.heap.size w w6 := t5.trans (j6.mono t5.size)
  replace hs := hs.below j6
  replace hr := hr.below j6
  replace he := he.below j6
  replace ht := ht.below j6
  replace q0 := below_cell j6 q0
  replace q1 := below_cell j6 q1
  replace q2 := below_cell j6 q2
  replace lB := Nat.lt_of_lt_of_le lB j6.size
  replace tX := tX.below j6
  go_wp2_with fail
  go_at_call 23
  refine (truth_eq _ at_ t ct ht ST).mono ?_
  rintro e w7 ⟨⟨a4, c4, rfl, tB⟩, b7⟩
  have j7 : Below w6.heap.size w6 w7 := by (repeat (first | exact Below.refl _ _ | refine Below.alloc ?_ (by first | omega | (simp; done) | (simp; omega)) _ | refine Below.drew ?_ | refine Below.setCell ?_ (by first | omega | (simp; done) | (simp; omega)) _ | refine Below.trans ?_ (Below.mono (by assumption) (by first | omega | (simp; done) | (simp; omega)))))
  have t7 : Below w.heap.size w w7 := t6.trans (j7.mono t6.size)
  replace hs := hs.below j7
  replace hr := hr.below j7
  replace he := he.below j7
  replace ht := ht.below j7
  replace q0 := below_cell j7 q0
  replace q1 := below_cell j7 q1
  replace q2 := below_cell j7 q2
  replace lB := Nat.lt_of_lt_of_le lB j7.size
  replace tX := tX.below j7
  replace s3 := s3.below j7
  replace o3 := o3.below j7
  go_wp2_with fail
  go_at_call 41
  refine (entsL_eq al l cl _ he ll).mono ?_
  rintro e w8 ⟨⟨a5, c5, rfl, g5⟩, b8⟩
  have j8 : Below w7.heap.size w7 w8 := by (repeat (first | exact Below.refl _ _ | refine Below.alloc ?_ (by first | omega | (simp; done) | (simp; omega)) _ | refine Below.drew ?_ | refine Below.setCell ?_ (by first | omega | (simp; done) | (simp; omega)) _ | refine Below.trans ?_ (Below.mono (by assumption) (by first | omega | (simp; done) | (simp; omega)))))
  have t8 : Below w.heap.size w w8 := t7.trans (j8.mono t7.size)
  replace hs := hs.below j8
  replace hr := hr.below j8
  replace he := he.below j8
  replace ht := ht.below j8
  replace q0 := below_cell j8 q0
  replace q1 := below_cell j8 q1
  replace q2 := below_cell j8 q2
  replace lB := Nat.lt_of_lt_of_le lB j8.size
  replace tX := tX.below j8
  replace s3 := s3.below j8
  replace o3 := o3.below j8
  replace tB := tB.below j8
  go_wp2_with fail
  go_at_call 52
  refine (prove_eq a3 c3 r3 d3 p a4 t t.length c4 a5 l c5 _ false HV (Lib.hid rfl) s3 o3 SM tB ST g5 ll).mono ?_
  rintro e w9 ⟨rfl, b9⟩
  have j9 : Below w8.heap.size w8 w9 := by (repeat (first | exact Below.refl _ _ | refine Below.alloc ?_ (by first | omega | (simp; done) | (simp; omega)) _ | refine Below.drew ?_ | refine Below.setCell ?_ (by first | omega | (simp; done) | (simp; omega)) _ | refine Below.trans ?_ (Below.mono (by assumption) (by first | omega | (simp; done) | (simp; omega)))))
  have t9 : Below w.heap.size w w9 := t8.trans (j9.mono t8.size)
  replace hs := hs.below j9
  replace hr := hr.below j9
  replace he := he.below j9
  replace ht := ht.below j9
  replace q0 := below_cell j9 q0
  replace q1 := below_cell j9 q1
  replace q2 := below_cell j9 q2
  replace lB := Nat.lt_of_lt_of_le lB j9.size
  replace tX := tX.below j9
  replace s3 := s3.below j9
  replace o3 := o3.below j9
  replace tB := tB.below j9
  replace g5 := g5.below j9
  clear s3 o3 tB g5
  go_wp2_with fail
  go_at_call 42
  refine (booked_eq a c ar cr p al l cl _ 0 HE hs hr SM he (by omega)).mono ?_
  rintro e w10 ⟨rfl, b10⟩
  have j10 : Below w9.heap.size w9 w10 := by (repeat (first | exact Below.refl _ _ | refine Below.alloc ?_ (by first | omega | (simp; done) | (simp; omega)) _ | refine Below.drew ?_ | refine Below.setCell ?_ (by first | omega | (simp; done) | (simp; omega)) _ | refine Below.trans ?_ (Below.mono (by assumption) (by first | omega | (simp; done) | (simp; omega)))))
  have t10 : Below w.heap.size w w10 := t9.trans (j10.mono t9.size)
  replace hs := hs.below j10
  replace hr := hr.below j10
  replace he := he.below j10
  replace ht := ht.below j10
  replace q0 := below_cell j10 q0
  replace q1 := below_cell j10 q1
  replace q2 := below_cell j10 q2
  replace lB := Nat.lt_of_lt_of_le lB j10.size
  replace tX := tX.below j10
  go_wp2_with fail
  go_at_call 25
  refine (tfault_eq a c ar cr p _ at_ t ct 0 HSE hr SM ht ST).mono ?_
  rintro e w11 ⟨rfl, b11⟩
  have j11 : Below w10.heap.size w10 w11 := by (repeat (first | exact Below.refl _ _ | refine Below.alloc ?_ (by first | omega | (simp; done) | (simp; omega)) _ | refine Below.drew ?_ | refine Below.setCell ?_ (by first | omega | (simp; done) | (simp; omega)) _ | refine Below.trans ?_ (Below.mono (by assumption) (by first | omega | (simp; done) | (simp; omega)))))
  have t11 : Below w.heap.size w w11 := t10.trans (j11.mono t10.size)
  replace hs := hs.below j11
  replace hr := hr.below j11
  replace he := he.below j11
  replace ht := ht.below j11
  replace q0 := below_cell j11 q0
  replace q1 := below_cell j11 q1
  replace q2 := below_cell j11 q2
  replace lB := Nat.lt_of_lt_of_le lB j11.size
  replace tX := tX.below j11
  go_wp2_with fail
  go_at_call 53
  refine (explains_eq a c ar cr p at_ t t.length ct al l cl _ false HVV (Lib.hid rfl) hs hr ht HE HSE he).mono ?_
  rintro e w12 ⟨rfl, b12⟩
  have j12 : Below w11.heap.size w11 w12 := by (repeat (first | exact Below.refl _ _ | refine Below.alloc ?_ (by first | omega | (simp; done) | (simp; omega)) _ | refine Below.drew ?_ | refine Below.setCell ?_ (by first | omega | (simp; done) | (simp; omega)) _ | refine Below.trans ?_ (Below.mono (by assumption) (by first | omega | (simp; done) | (simp; omega)))))
  have t12 : Below w.heap.size w w12 := t11.trans (j12.mono t11.size)
  replace hs := hs.below j12
  replace hr := hr.below j12
  replace he := he.below j12
  replace ht := ht.below j12
  replace q0 := below_cell j12 q0
  replace q1 := below_cell j12 q1
  replace q2 := below_cell j12 q2
  replace lB := Nat.lt_of_lt_of_le lB j12.size
  replace tX := tX.below j12
  go_wp2_with fail
  go_at_call 54
  refine (explained_eq a c ar cr p al l cl _ true HXB hs hr H0 he ll).mono ?_
  rintro e w13 ⟨rfl, b13⟩
  have j13 : Below w12.heap.size w12 w13 := by (repeat (first | exact Below.refl _ _ | refine Below.alloc ?_ (by first | omega | (simp; done) | (simp; omega)) _ | refine Below.drew ?_ | refine Below.setCell ?_ (by first | omega | (simp; done) | (simp; omega)) _ | refine Below.trans ?_ (Below.mono (by assumption) (by first | omega | (simp; done) | (simp; omega)))))
  have t13 : Below w.heap.size w w13 := t12.trans (j13.mono t12.size)
  replace hs := hs.below j13
  replace hr := hr.below j13
  replace he := he.below j13
  replace ht := ht.below j13
  replace q0 := below_cell j13 q0
  replace q1 := below_cell j13 q1
  replace q2 := below_cell j13 q2
  replace lB := Nat.lt_of_lt_of_le lB j13.size
  replace tX := tX.below j13
  go_wp2_with fail
  go_at_call 25
  refine (tfaultL_eq a c ar cr p _ e1 X n f1 HXn 0 HQ1 hr SM tX HQ2).mono ?_
  rintro e w14 ⟨rfl, b14⟩
  have j14 : Below w13.heap.size w13 w14 := by (repeat (first | exact Below.refl _ _ | refine Below.alloc ?_ (by first | omega | (simp; done) | (simp; omega)) _ | refine Below.drew ?_ | refine Below.setCell ?_ (by first | omega | (simp; done) | (simp; omega)) _ | refine Below.trans ?_ (Below.mono (by assumption) (by first | omega | (simp; done) | (simp; omega)))))
  have t14 : Below w.heap.size w w14 := t13.trans (j14.mono t13.size)
  replace hs := hs.below j14
  replace hr := hr.below j14
  replace he := he.below j14
  replace ht := ht.below j14
  replace q0 := below_cell j14 q0
  replace q1 := below_cell j14 q1
  replace q2 := below_cell j14 q2
  replace lB := Nat.lt_of_lt_of_le lB j14.size
  replace tX := tX.below j14
  go_wp2_with fail
  go_at_call 53
  refine (explains_eq a c ar cr p e1 X n f1 al l cl _ true HQ3 HXn hs hr tX HE HQ1 he).mono ?_
  rintro e w15 ⟨rfl, b15⟩
  have j15 : Below w14.heap.size w14 w15 := by (repeat (first | exact Below.refl _ _ | refine Below.alloc ?_ (by first | omega | (simp; done) | (simp; omega)) _ | refine Below.drew ?_ | refine Below.setCell ?_ (by first | omega | (simp; done) | (simp; omega)) _ | refine Below.trans ?_ (Below.mono (by assumption) (by first | omega | (simp; done) | (simp; omega)))))
  have t15 : Below w.heap.size w w15 := t14.trans (j15.mono t14.size)
  replace hs := hs.below j15
  replace hr := hr.below j15
  replace he := he.below j15
  replace ht := ht.below j15
  replace q0 := below_cell j15 q0
  replace q1 := below_cell j15 q1
  replace q2 := below_cell j15 q2
  replace lB := Nat.lt_of_lt_of_le lB j15.size
  replace tX := tX.below j15
  go_wp2_with fail
  go_at_call 19
  refine (awake_any _).mono ?_
  rintro e w16 ⟨rfl, b16⟩
  have j16 : Below w15.heap.size w15 w16 := by (repeat (first | exact Below.refl _ _ | refine Below.alloc ?_ (by first | omega | (simp; done) | (simp; omega)) _ | refine Below.drew ?_ | refine Below.setCell ?_ (by first | omega | (simp; done) | (simp; omega)) _ | refine Below.trans ?_ (Below.mono (by assumption) (by first | omega | (simp; done) | (simp; omega)))))
  have t16 : Below w.heap.size w w16 := t15.trans (j16.mono t15.size)
  replace hs := hs.below j16
  replace hr := hr.below j16
  replace he := he.below j16
  replace ht := ht.below j16
  replace q0 := below_cell j16 q0
  replace q1 := below_cell j16 q1
  replace q2 := below_cell j16 q2
  replace lB := Nat.lt_of_lt_of_le lB j16.size
  replace tX := tX.below j16
  go_wp2_with fail
  go_ret
  exact ⟨rfl, t16⟩

set_option maxRecDepth 100000 in
set_option maxHeartbeats 4000000 in
theorem expl_b5 (a : Option Addr) (c : Nat) (ar : Option Addr) (cr : Nat) (p : Post) (al : Option Addr) (l : List Ent) (cl : Nat) (at_ : Option Addr) (t : List (List (List Int))) (ct : Nat) (w : World) (hs : IntsAt w a p.sends) (hr : RoutesAt w ar p.routes) (na : a = none → c = 0) (big : PostBig p) (he : EntsAt w al l) (ht : TruthAt w at_ t) (bt : TruthBig t) (hT : thinB p = true) (hS : shortB t = true) (h1 : ¬ (10 < (l.length : Int))) (hE : bookErr p l = 0) (hSe : shapeErr p t = 0) (hV : explsB p t l = false) (hz : searchF p l = none) :
    Calls Try.prog 14 #[.agg #[.slice a p.sends.length c, .slice ar p.routes.length cr, .int .i64 p.pat], .slice al l.length cl, .slice at_ t.length ct] w fun e w' => e = .returned (.bool true) ∧ Below w.heap.size w w' := by

  have HB := Lib.hid big
  have HBT := Lib.hid bt
  have HT := Lib.hid hT
  have HSh := Lib.hid hS
  have SM := Lib.hid (thin_small hT)
  have ST := Lib.hid (short_small hS)
  have lS : p.sends.length ≤ 1000 := SM.out.1
  have lR : p.routes.length ≤ 1000 := SM.out.2
  have ll : l.length ≤ 1000 := by omega
  have HE := Lib.hid hE
  have H0 := Lib.hid (bookErr_ok' hE).1
  have HSE := Lib.hid hSe
  have HV : Hid (proveB p t l = false) := Lib.hid (by unfold proveB; rw [hE, hSe]; simp [hV])
  have HXB : Hid (explB p l = false) := Lib.hid (by unfold explB; rw [hz]; rfl)
  have HXE : Hid (explErr p l = 9) := Lib.hid (by unfold explErr; rw [if_neg (by simpa using hE), HXB.out]; rfl)
  have HXO : Hid (explOut p l = []) := Lib.hid (by unfold explOut; rw [if_neg (by simpa using hE), hz])
  have HXn : Hid (([] : List (List (List Int))).length = 0) := Lib.hid rfl
  have HVV := Lib.hid hV
  clear hV
  clear hT big bt hS hE hSe hz
  go_enter Try.func14, Try.ntmps14
  go_wp2_with fail
  go_at_call 17
  refine (thin_eq a c ar cr p _ true HT (hr.below (by (repeat (first | exact Below.refl _ _ | refine Below.alloc ?_ (by first | omega | (simp; done) | (simp; omega)) _ | refine Below.drew ?_ | refine Below.setCell ?_ (by first | omega | (simp; done) | (simp; omega)) _ | refine Below.trans ?_ (Below.mono (by assumption) (by first | omega | (simp; done) | (simp; omega))))))) HB.out).mono ?_
  rintro e w1 ⟨rfl, b1⟩
  have t1 : Below w.heap.size w w1 := by (repeat (first | exact Below.refl _ _ | refine Below.alloc ?_ (by first | omega | (simp; done) | (simp; omega)) _ | refine Below.drew ?_ | refine Below.setCell ?_ (by first | omega | (simp; done) | (simp; omega)) _ | refine Below.trans ?_ (Below.mono (by assumption) (by first | omega | (simp; done) | (simp; omega)))))
  replace hs := hs.below t1
  replace hr := hr.below t1
  replace he := he.below t1
  replace ht := ht.below t1
  have q0 := box_cells b1 0 rfl
  have q1 := box_cells b1 1 rfl
  have q2 := box_cells b1 2 rfl
  have lB := cell_ltK q0
  go_wp2_with fail
  go_at_call 18
  refine (short_eq _ at_ t ct true HSh ht HBT.out).mono ?_
  rintro e w2 ⟨rfl, b2⟩
  have j2 : Below w1.heap.size w1 w2 := by (repeat (first | exact Below.refl _ _ | refine Below.alloc ?_ (by first | omega | (simp; done) | (simp; omega)) _ | refine Below.drew ?_ | refine Below.setCell ?_ (by first | omega | (simp; done) | (simp; omega)) _ | refine Below.trans ?_ (Below.mono (by assumption) (by first | omega | (simp; done) | (simp; omega)))))
  have t2 : Below w.heap.size w w2 := t1.trans (j2.mono t1.size)
  replace hs := hs.below j2
  replace hr := hr.below j2
  replace he := he.below j2
  replace ht := ht.below j2
  replace q0 := below_cell j2 q0
  replace q1 := below_cell j2 q1
  replace q2 := below_cell j2 q2
  replace lB := Nat.lt_of_lt_of_le lB j2.size
  go_wp2_with fail
  go_at_call 21
  refine (post_eq a c ar cr p _ hs hr SM na).mono ?_
  rintro e w3 ⟨⟨a1, c1, r1, d1, rfl, s1, o1⟩, b3⟩
  have j3 : Below w2.heap.size w2 w3 := by (repeat (first | exact Below.refl _ _ | refine Below.alloc ?_ (by first | omega | (simp; done) | (simp; omega)) _ | refine Below.drew ?_ | refine Below.setCell ?_ (by first | omega | (simp; done) | (simp; omega)) _ | refine Below.trans ?_ (Below.mono (by assumption) (by first | omega | (simp; done) | (simp; omega)))))
  have t3 : Below w.heap.size w w3 := t2.trans (j3.mono t2.size)
  replace hs := hs.below j3
  replace hr := hr.below j3
  replace he := he.below j3
  replace ht := ht.below j3
  replace q0 := below_cell j3 q0
  replace q1 := below_cell j3 q1
  replace q2 := below_cell j3 q2
  replace lB := Nat.lt_of_lt_of_le lB j3.size
  go_wp2_with fail
  go_at_call 41
  refine (entsL_eq al l cl _ he ll).mono ?_
  rintro e w4 ⟨⟨a2, c2, rfl, g2⟩, b4⟩
  have j4 : Below w3.heap.size w3 w4 := by (repeat (first | exact Below.refl _ _ | refine Below.alloc ?_ (by first | omega | (simp; done) | (simp; omega)) _ | refine Below.drew ?_ | refine Below.setCell ?_ (by first | omega | (simp; done) | (simp; omega)) _ | refine Below.trans ?_ (Below.mono (by assumption) (by first | omega | (simp; done) | (simp; omega)))))
  have t4 : Below w.heap.size w w4 := t3.trans (j4.mono t3.size)
  replace hs := hs.below j4
  replace hr := hr.below j4
  replace he := he.below j4
  replace ht := ht.below j4
  replace q0 := below_cell j4 q0
  replace q1 := below_cell j4 q1
  replace q2 := below_cell j4 q2
  replace lB := Nat.lt_of_lt_of_le lB j4.size
  replace s1 := s1.below j4
  replace o1 := o1.below j4
  go_wp2_with fail
  go_at_call 48
  refine (explain_eq a1 c1 r1 d1 p a2 l c2 _ 9 [] 0 HXE HXO HXn s1 o1 SM g2 ll).mono ?_
  rintro e w5 ⟨⟨e1, f1, rfl, tX, _⟩, b5⟩
  have j5 : Below w4.heap.size w4 w5 := by (repeat (first | exact Below.refl _ _ | refine Below.alloc ?_ (by first | omega | (simp; done) | (simp; omega)) _ | refine Below.drew ?_ | refine Below.setCell ?_ (by first | omega | (simp; done) | (simp; omega)) _ | refine Below.trans ?_ (Below.mono (by assumption) (by first | omega | (simp; done) | (simp; omega)))))
  have t5 : Below w.heap.size w w5 := t4.trans (j5.mono t4.size)
  replace hs := hs.below j5
  replace hr := hr.below j5
  replace he := he.below j5
  replace ht := ht.below j5
  replace q0 := below_cell j5 q0
  replace q1 := below_cell j5 q1
  replace q2 := below_cell j5 q2
  replace lB := Nat.lt_of_lt_of_le lB j5.size
  replace s1 := s1.below j5
  replace o1 := o1.below j5
  replace g2 := g2.below j5
  clear s1 o1 g2
  go_wp2_with fail
  go_at_call 21
  refine (post_eq a c ar cr p _ hs hr SM na).mono ?_
  rintro e w6 ⟨⟨a3, c3, r3, d3, rfl, s3, o3⟩, b6⟩
  have j6 : Below w5.heap.size w5 w6 := by (repeat (first | exact Below.refl _ _ | refine Below.alloc ?_ (by first | omega | (simp; done) | (simp; omega)) _ | refine Below.drew ?_ | refine Below.setCell ?_ (by first | omega | (simp; done) | (simp; omega)) _ | refine Below.trans ?_ (Below.mono (by assumption) (by first | omega | (simp; done) | (simp; omega)))))
  have t6 : Below w.heap.size w w6 := t5.trans (j6.mono t5.size)
  replace hs := hs.below j6
  replace hr := hr.below j6
  replace he := he.below j6
  replace ht := ht.below j6
  replace q0 := below_cell j6 q0
  replace q1 := below_cell j6 q1
  replace q2 := below_cell j6 q2
  replace lB := Nat.lt_of_lt_of_le lB j6.size
  replace tX := tX.below j6
  go_wp2_with fail
  go_at_call 23
  refine (truth_eq _ at_ t ct ht ST).mono ?_
  rintro e w7 ⟨⟨a4, c4, rfl, tB⟩, b7⟩
  have j7 : Below w6.heap.size w6 w7 := by (repeat (first | exact Below.refl _ _ | refine Below.alloc ?_ (by first | omega | (simp; done) | (simp; omega)) _ | refine Below.drew ?_ | refine Below.setCell ?_ (by first | omega | (simp; done) | (simp; omega)) _ | refine Below.trans ?_ (Below.mono (by assumption) (by first | omega | (simp; done) | (simp; omega)))))
  have t7 : Below w.heap.size w w7 := t6.trans (j7.mono t6.size)
  replace hs := hs.below j7
  replace hr := hr.below j7
  replace he := he.below j7
  replace ht := ht.below j7
  replace q0 := below_cell j7 q0
  replace q1 := below_cell j7 q1
  replace q2 := below_cell j7 q2
  replace lB := Nat.lt_of_lt_of_le lB j7.size
  replace tX := tX.below j7
  replace s3 := s3.below j7
  replace o3 := o3.below j7
  go_wp2_with fail
  go_at_call 41
  refine (entsL_eq al l cl _ he ll).mono ?_
  rintro e w8 ⟨⟨a5, c5, rfl, g5⟩, b8⟩
  have j8 : Below w7.heap.size w7 w8 := by (repeat (first | exact Below.refl _ _ | refine Below.alloc ?_ (by first | omega | (simp; done) | (simp; omega)) _ | refine Below.drew ?_ | refine Below.setCell ?_ (by first | omega | (simp; done) | (simp; omega)) _ | refine Below.trans ?_ (Below.mono (by assumption) (by first | omega | (simp; done) | (simp; omega)))))
  have t8 : Below w.heap.size w w8 := t7.trans (j8.mono t7.size)
  replace hs := hs.below j8
  replace hr := hr.below j8
  replace he := he.below j8
  replace ht := ht.below j8
  replace q0 := below_cell j8 q0
  replace q1 := below_cell j8 q1
  replace q2 := below_cell j8 q2
  replace lB := Nat.lt_of_lt_of_le lB j8.size
  replace tX := tX.below j8
  replace s3 := s3.below j8
  replace o3 := o3.below j8
  replace tB := tB.below j8
  go_wp2_with fail
  go_at_call 52
  refine (prove_eq a3 c3 r3 d3 p a4 t t.length c4 a5 l c5 _ false HV (Lib.hid rfl) s3 o3 SM tB ST g5 ll).mono ?_
  rintro e w9 ⟨rfl, b9⟩
  have j9 : Below w8.heap.size w8 w9 := by (repeat (first | exact Below.refl _ _ | refine Below.alloc ?_ (by first | omega | (simp; done) | (simp; omega)) _ | refine Below.drew ?_ | refine Below.setCell ?_ (by first | omega | (simp; done) | (simp; omega)) _ | refine Below.trans ?_ (Below.mono (by assumption) (by first | omega | (simp; done) | (simp; omega)))))
  have t9 : Below w.heap.size w w9 := t8.trans (j9.mono t8.size)
  replace hs := hs.below j9
  replace hr := hr.below j9
  replace he := he.below j9
  replace ht := ht.below j9
  replace q0 := below_cell j9 q0
  replace q1 := below_cell j9 q1
  replace q2 := below_cell j9 q2
  replace lB := Nat.lt_of_lt_of_le lB j9.size
  replace tX := tX.below j9
  replace s3 := s3.below j9
  replace o3 := o3.below j9
  replace tB := tB.below j9
  replace g5 := g5.below j9
  clear s3 o3 tB g5
  go_wp2_with fail
  go_at_call 42
  refine (booked_eq a c ar cr p al l cl _ 0 HE hs hr SM he (by omega)).mono ?_
  rintro e w10 ⟨rfl, b10⟩
  have j10 : Below w9.heap.size w9 w10 := by (repeat (first | exact Below.refl _ _ | refine Below.alloc ?_ (by first | omega | (simp; done) | (simp; omega)) _ | refine Below.drew ?_ | refine Below.setCell ?_ (by first | omega | (simp; done) | (simp; omega)) _ | refine Below.trans ?_ (Below.mono (by assumption) (by first | omega | (simp; done) | (simp; omega)))))
  have t10 : Below w.heap.size w w10 := t9.trans (j10.mono t9.size)
  replace hs := hs.below j10
  replace hr := hr.below j10
  replace he := he.below j10
  replace ht := ht.below j10
  replace q0 := below_cell j10 q0
  replace q1 := below_cell j10 q1
  replace q2 := below_cell j10 q2
  replace lB := Nat.lt_of_lt_of_le lB j10.size
  replace tX := tX.below j10
  go_wp2_with fail
  go_at_call 25
  refine (tfault_eq a c ar cr p _ at_ t ct 0 HSE hr SM ht ST).mono ?_
  rintro e w11 ⟨rfl, b11⟩
  have j11 : Below w10.heap.size w10 w11 := by (repeat (first | exact Below.refl _ _ | refine Below.alloc ?_ (by first | omega | (simp; done) | (simp; omega)) _ | refine Below.drew ?_ | refine Below.setCell ?_ (by first | omega | (simp; done) | (simp; omega)) _ | refine Below.trans ?_ (Below.mono (by assumption) (by first | omega | (simp; done) | (simp; omega)))))
  have t11 : Below w.heap.size w w11 := t10.trans (j11.mono t10.size)
  replace hs := hs.below j11
  replace hr := hr.below j11
  replace he := he.below j11
  replace ht := ht.below j11
  replace q0 := below_cell j11 q0
  replace q1 := below_cell j11 q1
  replace q2 := below_cell j11 q2
  replace lB := Nat.lt_of_lt_of_le lB j11.size
  replace tX := tX.below j11
  go_wp2_with fail
  go_at_call 53
  refine (explains_eq a c ar cr p at_ t t.length ct al l cl _ false HVV (Lib.hid rfl) hs hr ht HE HSE he).mono ?_
  rintro e w12 ⟨rfl, b12⟩
  have j12 : Below w11.heap.size w11 w12 := by (repeat (first | exact Below.refl _ _ | refine Below.alloc ?_ (by first | omega | (simp; done) | (simp; omega)) _ | refine Below.drew ?_ | refine Below.setCell ?_ (by first | omega | (simp; done) | (simp; omega)) _ | refine Below.trans ?_ (Below.mono (by assumption) (by first | omega | (simp; done) | (simp; omega)))))
  have t12 : Below w.heap.size w w12 := t11.trans (j12.mono t11.size)
  replace hs := hs.below j12
  replace hr := hr.below j12
  replace he := he.below j12
  replace ht := ht.below j12
  replace q0 := below_cell j12 q0
  replace q1 := below_cell j12 q1
  replace q2 := below_cell j12 q2
  replace lB := Nat.lt_of_lt_of_le lB j12.size
  replace tX := tX.below j12
  go_wp2_with fail
  go_at_call 54
  refine (explained_eq a c ar cr p al l cl _ false HXB hs hr H0 he ll).mono ?_
  rintro e w13 ⟨rfl, b13⟩
  have j13 : Below w12.heap.size w12 w13 := by (repeat (first | exact Below.refl _ _ | refine Below.alloc ?_ (by first | omega | (simp; done) | (simp; omega)) _ | refine Below.drew ?_ | refine Below.setCell ?_ (by first | omega | (simp; done) | (simp; omega)) _ | refine Below.trans ?_ (Below.mono (by assumption) (by first | omega | (simp; done) | (simp; omega)))))
  have t13 : Below w.heap.size w w13 := t12.trans (j13.mono t12.size)
  replace hs := hs.below j13
  replace hr := hr.below j13
  replace he := he.below j13
  replace ht := ht.below j13
  replace q0 := below_cell j13 q0
  replace q1 := below_cell j13 q1
  replace q2 := below_cell j13 q2
  replace lB := Nat.lt_of_lt_of_le lB j13.size
  replace tX := tX.below j13
  go_wp2_with fail
  go_at_call 19
  refine (awake_any _).mono ?_
  rintro e w14 ⟨rfl, b14⟩
  have j14 : Below w13.heap.size w13 w14 := by (repeat (first | exact Below.refl _ _ | refine Below.alloc ?_ (by first | omega | (simp; done) | (simp; omega)) _ | refine Below.drew ?_ | refine Below.setCell ?_ (by first | omega | (simp; done) | (simp; omega)) _ | refine Below.trans ?_ (Below.mono (by assumption) (by first | omega | (simp; done) | (simp; omega)))))
  have t14 : Below w.heap.size w w14 := t13.trans (j14.mono t13.size)
  replace hs := hs.below j14
  replace hr := hr.below j14
  replace he := he.below j14
  replace ht := ht.below j14
  replace q0 := below_cell j14 q0
  replace q1 := below_cell j14 q1
  replace q2 := below_cell j14 q2
  replace lB := Nat.lt_of_lt_of_le lB j14.size
  replace tX := tX.below j14
  go_wp2_with fail
  go_ret
  exact ⟨rfl, t14⟩

theorem expl_walk (a : Option Addr) (c : Nat) (ar : Option Addr) (cr : Nat) (p : Post) (al : Option Addr) (l : List Ent) (cl : Nat) (at_ : Option Addr) (t : List (List (List Int))) (ct : Nat) (w : World) (hs : IntsAt w a p.sends) (hr : RoutesAt w ar p.routes) (na : a = none → c = 0) (big : PostBig p) (he : EntsAt w al l) (_ : al = none → cl = 0) (_ : l.length ≤ cl) (_ : cl ≤ maxLen) (ht : TruthAt w at_ t) (_ : at_ = none → ct = 0) (bt : TruthBig t) :
    Calls Try.prog 14 #[.agg #[.slice a p.sends.length c, .slice ar p.routes.length cr, .int .i64 p.pat], .slice al l.length cl, .slice at_ t.length ct] w fun e w' => e = .returned (.bool true) ∧ Below w.heap.size w w' := by
  cases hT : thinB p
  · exact expl_a1 a c ar cr p al l cl at_ t ct w hs hr na big he ht bt hT
  · cases hS : shortB t
    · exact expl_a2 a c ar cr p al l cl at_ t ct w hs hr na big he ht bt hT hS
    · by_cases h1 : 10 < (l.length : Int)
      · exact expl_a3 a c ar cr p al l cl at_ t ct w hs hr na big he ht bt hT hS h1
      · by_cases hE : bookErr p l = 0
        · by_cases hSe : shapeErr p t = 0
          · cases hV : explsB p t l
            · cases hz : searchF p l with
              | some z => exact expl_b4 a c ar cr p al l cl at_ t ct w hs hr na big he ht bt hT hS h1 hE hSe hV z hz
              | none => exact expl_b5 a c ar cr p al l cl at_ t ct w hs hr na big he ht bt hT hS h1 hE hSe hV hz
            · cases hz : searchF p l with
              | some z => exact expl_b2 a c ar cr p al l cl at_ t ct w hs hr na big he ht bt hT hS h1 hE hSe hV z hz
              | none => exact expl_b3 a c ar cr p al l cl at_ t ct w hs hr na big he ht bt hT hS h1 hE hSe hV hz
          · cases hz : searchF p l with
            | some z => exact expl_b0 a c ar cr p al l cl at_ t ct w hs hr na big he ht bt hT hS h1 hE _ rfl hSe z hz
            | none => exact expl_b1 a c ar cr p al l cl at_ t ct w hs hr na big he ht bt hT hS h1 hE _ rfl hSe hz
        · exact expl_a4 a c ar cr p al l cl at_ t ct w hs hr na big he ht bt hT hS h1 hE
end Go.Proofs.Ytfclemnkcpadpaa
