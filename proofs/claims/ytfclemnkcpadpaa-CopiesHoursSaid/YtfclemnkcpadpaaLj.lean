/- CopiesHours: the walk -/
import Derived.Test.YtfclemnkcpadpaaLh
import Derived.Test.YtfclemnkcpadpaaRm
namespace Go.Proofs.Ytfclemnkcpadpaa
set_option linter.unusedVariables false
set_option linter.unusedSimpArgs false
set_option linter.unnecessarySimpa false
open Go.RowKit Go.Flow Go.Shelf

def preI (f : Hrs) (m : Nat) : List Int := (preL f m).map (fun (n : Nat) => (n : Int))
theorem preI_yes {f : Hrs} {m : Nat} (h : f m = true) : preI f (m + 1) = preI f m ++ [(m : Int)] := by unfold preI; rw [preL_yes h, List.map_append]; rfl
theorem preI_no {f : Hrs} {m : Nat} (h : f m = false) : preI f (m + 1) = preI f m := by unfold preI; rw [preL_no h]
theorem preI_len (f : Hrs) (m : Nat) : (preI f m).length ≤ m := by
  unfold preI preL
  rw [List.length_map]
  exact Nat.le_trans (List.length_filter_le _ _) (by simp)
theorem preI_all (f : Hrs) : preI f 101 = hrList f := rfl

set_option maxRecDepth 100000 in
set_option maxHeartbeats 4000000 in
theorem hours_c0 (a : Option Addr) (c : Nat) (ar : Option Addr) (cr : Nat) (p : Post) (n r : Int) (w : World) (hs : IntsAt w a p.sends) (hr : RoutesAt w ar p.routes) (na : a = none → c = 0) (big : PostBig p) (hT : thinB p = false) :
    Calls Try.prog 4 #[.agg #[.slice a p.sends.length c, .slice ar p.routes.length cr, .int .i64 p.pat], .int .i64 n, .int .i64 r] w fun e w' => e = .returned (.bool true) ∧ Below w.heap.size w w' := by

  have HB := Lib.hid big
  have HT := Lib.hid hT
  clear hT big
  go_enter Try.func4, Try.ntmps4
  go_wp2_with fail
  go_at_call 17
  refine (thin_eq a c ar cr p _ false HT (hr.below (by (repeat (first | exact Below.refl _ _ | refine Below.alloc ?_ (by first | omega | (simp; done) | (simp; omega)) _ | refine Below.drew ?_ | refine Below.setCell ?_ (by first | omega | (simp; done) | (simp; omega)) _ | refine Below.trans ?_ (Below.mono (by assumption) (by first | omega | (simp; done) | (simp; omega))))))) HB.out).mono ?_
  rintro e w1 ⟨rfl, b1⟩
  have t1 : Below w.heap.size w w1 := by (repeat (first | exact Below.refl _ _ | refine Below.alloc ?_ (by first | omega | (simp; done) | (simp; omega)) _ | refine Below.drew ?_ | refine Below.setCell ?_ (by first | omega | (simp; done) | (simp; omega)) _ | refine Below.trans ?_ (Below.mono (by assumption) (by first | omega | (simp; done) | (simp; omega)))))
  replace hs := hs.below t1
  replace hr := hr.below t1
  have q0 := box_cells b1 0 rfl
  have q1 := box_cells b1 1 rfl
  have q2 := box_cells b1 2 rfl
  have lB := cell_ltK q0
  go_wp2_with fail
  go_at_call 19
  refine (awake_any _).mono ?_
  rintro e w2 ⟨rfl, b2⟩
  have j2 : Below w1.heap.size w1 w2 := by (repeat (first | exact Below.refl _ _ | refine Below.alloc ?_ (by first | omega | (simp; done) | (simp; omega)) _ | refine Below.drew ?_ | refine Below.setCell ?_ (by first | omega | (simp; done) | (simp; omega)) _ | refine Below.trans ?_ (Below.mono (by assumption) (by first | omega | (simp; done) | (simp; omega)))))
  have t2 : Below w.heap.size w w2 := t1.trans (j2.mono t1.size)
  replace hs := hs.below j2
  replace hr := hr.below j2
  replace q0 := below_cell j2 q0
  replace q1 := below_cell j2 q1
  replace q2 := below_cell j2 q2
  replace lB := Nat.lt_of_lt_of_le lB j2.size
  go_wp2_with fail
  go_ret
  exact ⟨rfl, t2⟩

set_option maxRecDepth 100000 in
set_option maxHeartbeats 4000000 in
theorem hours_c1 (a : Option Addr) (c : Nat) (ar : Option Addr) (cr : Nat) (p : Post) (n r : Int) (w : World) (hs : IntsAt w a p.sends) (hr : RoutesAt w ar p.routes) (na : a = none → c = 0) (big : PostBig p) (hT : thinB p = true) (hE : postErr p ≠ 0) :
    Calls Try.prog 4 #[.agg #[.slice a p.sends.length c, .slice ar p.routes.length cr, .int .i64 p.pat], .int .i64 n, .int .i64 r] w fun e w' => e = .returned (.bool true) ∧ Below w.heap.size w w' := by

  have HB := Lib.hid big
  have HT := Lib.hid hT
  have SM := Lib.hid (thin_small hT)
  have lS : p.sends.length ≤ 1000 := SM.out.1
  have lR : p.routes.length ≤ 1000 := SM.out.2
  have hws : IntKind.i64.wrap ((p.sends.length : Int) - 1) = (p.sends.length : Int) - 1 := IntWalk.i64_in _ (by omega)
  have hwr : IntKind.i64.wrap ((p.routes.length : Int) - 1) = (p.routes.length : Int) - 1 := IntWalk.i64_in _ (by omega)
  have Hn : Hid (([] : List Int).length = 0) := Lib.hid rfl
  have hPE : hoursErr p n r = postErr p := by unfold hoursErr; rw [if_pos hE]
  have HHO : Hid (hoursOut p n r = []) := Lib.hid (by unfold hoursOut; rw [hPE, if_neg hE])
  obtain ⟨E, hX⟩ : ∃ E, postErr p = E := ⟨_, rfl⟩
  rw [hX] at hPE hE
  have HE := Lib.hid hX
  have HHE := Lib.hid hPE
  have hne : (E != 0) = true := by simpa using hE
  have hne2 : (E == 0) = false := by simpa using hE
  have hbd : 0 ≤ E ∧ E ≤ 3 := by rw [← hX]; exact postErr_bd p
  clear hT big hX hPE hE
  go_enter Try.func4, Try.ntmps4
  go_wp2_with fail
  go_at_call 17
  refine (thin_eq a c ar cr p _ true HT (hr.below (by (repeat (first | exact Below.refl _ _ | refine Below.alloc ?_ (by first | omega | (simp; done) | (simp; omega)) _ | refine Below.drew ?_ | refine Below.setCell ?_ (by first | omega | (simp; done) | (simp; omega)) _ | refine Below.trans ?_ (Below.mono (by assumption) (by first | omega | (simp; done) | (simp; omega))))))) HB.out).mono ?_
  rintro e w1 ⟨rfl, b1⟩
  have t1 : Below w.heap.size w w1 := by (repeat (first | exact Below.refl _ _ | refine Below.alloc ?_ (by first | omega | (simp; done) | (simp; omega)) _ | refine Below.drew ?_ | refine Below.setCell ?_ (by first | omega | (simp; done) | (simp; omega)) _ | refine Below.trans ?_ (Below.mono (by assumption) (by first | omega | (simp; done) | (simp; omega)))))
  replace hs := hs.below t1
  replace hr := hr.below t1
  have q0 := box_cells b1 0 rfl
  have q1 := box_cells b1 1 rfl
  have q2 := box_cells b1 2 rfl
  have lB := cell_ltK q0
  go_wp2_with fail
  go_at_call 21
  refine (post_eq a c ar cr p _ hs hr SM na).mono ?_
  rintro e w2 ⟨⟨a1, c1, r1, d1, rfl, s1, o1⟩, b2⟩
  have j2 : Below w1.heap.size w1 w2 := by (repeat (first | exact Below.refl _ _ | refine Below.alloc ?_ (by first | omega | (simp; done) | (simp; omega)) _ | refine Below.drew ?_ | refine Below.setCell ?_ (by first | omega | (simp; done) | (simp; omega)) _ | refine Below.trans ?_ (Below.mono (by assumption) (by first | omega | (simp; done) | (simp; omega)))))
  have t2 : Below w.heap.size w w2 := t1.trans (j2.mono t1.size)
  replace hs := hs.below j2
  replace hr := hr.below j2
  replace q0 := below_cell j2 q0
  replace q1 := below_cell j2 q1
  replace q2 := below_cell j2 q2
  replace lB := Nat.lt_of_lt_of_le lB j2.size
  go_wp2_with fail
  go_at_call 28
  refine (hours_eq a1 c1 r1 d1 p _ n r E [] 0 HHE HHO Hn s1 o1 SM).mono ?_
  rintro e w3 ⟨⟨a2, c2, rfl, i2⟩, b3⟩
  have j3 : Below w2.heap.size w2 w3 := by (repeat (first | exact Below.refl _ _ | refine Below.alloc ?_ (by first | omega | (simp; done) | (simp; omega)) _ | refine Below.drew ?_ | refine Below.setCell ?_ (by first | omega | (simp; done) | (simp; omega)) _ | refine Below.trans ?_ (Below.mono (by assumption) (by first | omega | (simp; done) | (simp; omega)))))
  have t3 : Below w.heap.size w w3 := t2.trans (j3.mono t2.size)
  replace hs := hs.below j3
  replace hr := hr.below j3
  replace q0 := below_cell j3 q0
  replace q1 := below_cell j3 q1
  replace q2 := below_cell j3 q2
  replace lB := Nat.lt_of_lt_of_le lB j3.size
  replace s1 := s1.below j3
  replace o1 := o1.below j3
  clear s1 o1
  go_wp2_with fail
  go_at_call 24
  refine (fault_eq a c ar cr p _ E HE hs hr SM).mono ?_
  rintro e w4 ⟨rfl, b4⟩
  have j4 : Below w3.heap.size w3 w4 := by (repeat (first | exact Below.refl _ _ | refine Below.alloc ?_ (by first | omega | (simp; done) | (simp; omega)) _ | refine Below.drew ?_ | refine Below.setCell ?_ (by first | omega | (simp; done) | (simp; omega)) _ | refine Below.trans ?_ (Below.mono (by assumption) (by first | omega | (simp; done) | (simp; omega)))))
  have t4 : Below w.heap.size w w4 := t3.trans (j4.mono t3.size)
  replace hs := hs.below j4
  replace hr := hr.below j4
  replace q0 := below_cell j4 q0
  replace q1 := below_cell j4 q1
  replace q2 := below_cell j4 q2
  replace lB := Nat.lt_of_lt_of_le lB j4.size
  replace i2 := i2.below j4
  go_wp2_with fail
  go_at_call 19
  refine (awake_any _).mono ?_
  rintro e w5 ⟨rfl, b5⟩
  have j5 : Below w4.heap.size w4 w5 := by (repeat (first | exact Below.refl _ _ | refine Below.alloc ?_ (by first | omega | (simp; done) | (simp; omega)) _ | refine Below.drew ?_ | refine Below.setCell ?_ (by first | omega | (simp; done) | (simp; omega)) _ | refine Below.trans ?_ (Below.mono (by assumption) (by first | omega | (simp; done) | (simp; omega)))))
  have t5 : Below w.heap.size w w5 := t4.trans (j5.mono t4.size)
  replace hs := hs.below j5
  replace hr := hr.below j5
  replace q0 := below_cell j5 q0
  replace q1 := below_cell j5 q1
  replace q2 := below_cell j5 q2
  replace lB := Nat.lt_of_lt_of_le lB j5.size
  replace i2 := i2.below j5
  go_wp2_with fail
  go_ret
  exact ⟨rfl, t5⟩

set_option maxRecDepth 100000 in
set_option maxHeartbeats 4000000 in
theorem hours_c2 (a : Option Addr) (c : Nat) (ar : Option Addr) (cr : Nat) (p : Post) (n r : Int) (w : World) (hs : IntsAt w a p.sends) (hr : RoutesAt w ar p.routes) (na : a = none → c = 0) (big : PostBig p) (hT : thinB p = true) (hE : postErr p = 0) (hI : inR n (0, (p.sends.length : Int) - 1) = false) :
    Calls Try.prog 4 #[.agg #[.slice a p.sends.length c, .slice ar p.routes.length cr, .int .i64 p.pat], .int .i64 n, .int .i64 r] w fun e w' => e = .returned (.bool true) ∧ Below w.heap.size w w' := by

  have HB := Lib.hid big
  have HT := Lib.hid hT
  have SM := Lib.hid (thin_small hT)
  have lS : p.sends.length ≤ 1000 := SM.out.1
  have lR : p.routes.length ≤ 1000 := SM.out.2
  have hws : IntKind.i64.wrap ((p.sends.length : Int) - 1) = (p.sends.length : Int) - 1 := IntWalk.i64_in _ (by omega)
  have hwr : IntKind.i64.wrap ((p.routes.length : Int) - 1) = (p.routes.length : Int) - 1 := IntWalk.i64_in _ (by omega)
  have Hn : Hid (([] : List Int).length = 0) := Lib.hid rfl
  have hPE : hoursErr p n r = 2 := by
    have e : (inLen n p.sends.length && inLen r p.routes.length) = false := by rw [show inLen n p.sends.length = false from hI]; rfl
    unfold hoursErr
    rw [if_neg (by simpa using hE), e]; rfl
  have HHO : Hid (hoursOut p n r = []) := Lib.hid (by unfold hoursOut; rw [hPE]; rfl)
  have HE := Lib.hid hE
  have HHE := Lib.hid hPE
  clear hT big hPE hE
  go_enter Try.func4, Try.ntmps4
  go_wp2_with fail
  go_at_call 17
  refine (thin_eq a c ar cr p _ true HT (hr.below (by (repeat (first | exact Below.refl _ _ | refine Below.alloc ?_ (by first | omega | (simp; done) | (simp; omega)) _ | refine Below.drew ?_ | refine Below.setCell ?_ (by first | omega | (simp; done) | (simp; omega)) _ | refine Below.trans ?_ (Below.mono (by assumption) (by first | omega | (simp; done) | (simp; omega))))))) HB.out).mono ?_
  rintro e w1 ⟨rfl, b1⟩
  have t1 : Below w.heap.size w w1 := by (repeat (first | exact Below.refl _ _ | refine Below.alloc ?_ (by first | omega | (simp; done) | (simp; omega)) _ | refine Below.drew ?_ | refine Below.setCell ?_ (by first | omega | (simp; done) | (simp; omega)) _ | refine Below.trans ?_ (Below.mono (by assumption) (by first | omega | (simp; done) | (simp; omega)))))
  replace hs := hs.below t1
  replace hr := hr.below t1
  have q0 := box_cells b1 0 rfl
  have q1 := box_cells b1 1 rfl
  have q2 := box_cells b1 2 rfl
  have lB := cell_ltK q0
  go_wp2_with fail
  go_at_call 21
  refine (post_eq a c ar cr p _ hs hr SM na).mono ?_
  rintro e w2 ⟨⟨a1, c1, r1, d1, rfl, s1, o1⟩, b2⟩
  have j2 : Below w1.heap.size w1 w2 := by (repeat (first | exact Below.refl _ _ | refine Below.alloc ?_ (by first | omega | (simp; done) | (simp; omega)) _ | refine Below.drew ?_ | refine Below.setCell ?_ (by first | omega | (simp; done) | (simp; omega)) _ | refine Below.trans ?_ (Below.mono (by assumption) (by first | omega | (simp; done) | (simp; omega)))))
  have t2 : Below w.heap.size w w2 := t1.trans (j2.mono t1.size)
  replace hs := hs.below j2
  replace hr := hr.below j2
  replace q0 := below_cell j2 q0
  replace q1 := below_cell j2 q1
  replace q2 := below_cell j2 q2
  replace lB := Nat.lt_of_lt_of_le lB j2.size
  go_wp2_with fail
  go_at_call 28
  refine (hours_eq a1 c1 r1 d1 p _ n r 2 [] 0 HHE HHO Hn s1 o1 SM).mono ?_
  rintro e w3 ⟨⟨a2, c2, rfl, i2⟩, b3⟩
  have j3 : Below w2.heap.size w2 w3 := by (repeat (first | exact Below.refl _ _ | refine Below.alloc ?_ (by first | omega | (simp; done) | (simp; omega)) _ | refine Below.drew ?_ | refine Below.setCell ?_ (by first | omega | (simp; done) | (simp; omega)) _ | refine Below.trans ?_ (Below.mono (by assumption) (by first | omega | (simp; done) | (simp; omega)))))
  have t3 : Below w.heap.size w w3 := t2.trans (j3.mono t2.size)
  replace hs := hs.below j3
  replace hr := hr.below j3
  replace q0 := below_cell j3 q0
  replace q1 := below_cell j3 q1
  replace q2 := below_cell j3 q2
  replace lB := Nat.lt_of_lt_of_le lB j3.size
  replace s1 := s1.below j3
  replace o1 := o1.below j3
  clear s1 o1
  go_wp2_with fail
  go_at_call 24
  refine (fault_eq a c ar cr p _ 0 HE hs hr SM).mono ?_
  rintro e w4 ⟨rfl, b4⟩
  have j4 : Below w3.heap.size w3 w4 := by (repeat (first | exact Below.refl _ _ | refine Below.alloc ?_ (by first | omega | (simp; done) | (simp; omega)) _ | refine Below.drew ?_ | refine Below.setCell ?_ (by first | omega | (simp; done) | (simp; omega)) _ | refine Below.trans ?_ (Below.mono (by assumption) (by first | omega | (simp; done) | (simp; omega)))))
  have t4 : Below w.heap.size w w4 := t3.trans (j4.mono t3.size)
  replace hs := hs.below j4
  replace hr := hr.below j4
  replace q0 := below_cell j4 q0
  replace q1 := below_cell j4 q1
  replace q2 := below_cell j4 q2
  replace lB := Nat.lt_of_lt_of_le lB j4.size
  replace i2 := i2.below j4
  go_wp2_with fail
  go_at_call 29
  refine (refIn_any _ _ _ _).mono ?_
  rintro e _ ⟨rfl, rfl⟩
  go_wp2_with fail
  go_at_call 19
  refine (awake_any _).mono ?_
  rintro e w5 ⟨rfl, b5⟩
  have j5 : Below w4.heap.size w4 w5 := by (repeat (first | exact Below.refl _ _ | refine Below.alloc ?_ (by first | omega | (simp; done) | (simp; omega)) _ | refine Below.drew ?_ | refine Below.setCell ?_ (by first | omega | (simp; done) | (simp; omega)) _ | refine Below.trans ?_ (Below.mono (by assumption) (by first | omega | (simp; done) | (simp; omega)))))
  have t5 : Below w.heap.size w w5 := t4.trans (j5.mono t4.size)
  replace hs := hs.below j5
  replace hr := hr.below j5
  replace q0 := below_cell j5 q0
  replace q1 := below_cell j5 q1
  replace q2 := below_cell j5 q2
  replace lB := Nat.lt_of_lt_of_le lB j5.size
  replace i2 := i2.below j5
  go_wp2_with fail
  go_ret
  exact ⟨rfl, t5⟩

set_option maxRecDepth 100000 in
set_option maxHeartbeats 4000000 in
theorem hours_c3 (a : Option Addr) (c : Nat) (ar : Option Addr) (cr : Nat) (p : Post) (n r : Int) (w : World) (hs : IntsAt w a p.sends) (hr : RoutesAt w ar p.routes) (na : a = none → c = 0) (big : PostBig p) (hT : thinB p = true) (hE : postErr p = 0) (hI : inR n (0, (p.sends.length : Int) - 1) = true) (hJ : inR r (0, (p.routes.length : Int) - 1) = false) :
    Calls Try.prog 4 #[.agg #[.slice a p.sends.length c, .slice ar p.routes.length cr, .int .i64 p.pat], .int .i64 n, .int .i64 r] w fun e w' => e = .returned (.bool true) ∧ Below w.heap.size w w' := by

  have HB := Lib.hid big
  have HT := Lib.hid hT
  have SM := Lib.hid (thin_small hT)
  have lS : p.sends.length ≤ 1000 := SM.out.1
  have lR : p.routes.length ≤ 1000 := SM.out.2
  have hws : IntKind.i64.wrap ((p.sends.length : Int) - 1) = (p.sends.length : Int) - 1 := IntWalk.i64_in _ (by omega)
  have hwr : IntKind.i64.wrap ((p.routes.length : Int) - 1) = (p.routes.length : Int) - 1 := IntWalk.i64_in _ (by omega)
  have Hn : Hid (([] : List Int).length = 0) := Lib.hid rfl
  have hPE : hoursErr p n r = 2 := by
    have e : (inLen n p.sends.length && inLen r p.routes.length) = false := by rw [show inLen r p.routes.length = false from hJ, Bool.and_false]
    unfold hoursErr
    rw [if_neg (by simpa using hE), e]; rfl
  have HHO : Hid (hoursOut p n r = []) := Lib.hid (by unfold hoursOut; rw [hPE]; rfl)
  have HE := Lib.hid hE
  have HHE := Lib.hid hPE
  clear hT big hPE hE
  go_enter Try.func4, Try.ntmps4
  go_wp2_with fail
  go_at_call 17
  refine (thin_eq a c ar cr p _ true HT (hr.below (by (repeat (first | exact Below.refl _ _ | refine Below.alloc ?_ (by first | omega | (simp; done) | (simp; omega)) _ | refine Below.drew ?_ | refine Below.setCell ?_ (by first | omega | (simp; done) | (simp; omega)) _ | refine Below.trans ?_ (Below.mono (by assumption) (by first | omega | (simp; done) | (simp; omega))))))) HB.out).mono ?_
  rintro e w1 ⟨rfl, b1⟩
  have t1 : Below w.heap.size w w1 := by (repeat (first | exact Below.refl _ _ | refine Below.alloc ?_ (by first | omega | (simp; done) | (simp; omega)) _ | refine Below.drew ?_ | refine Below.setCell ?_ (by first | omega | (simp; done) | (simp; omega)) _ | refine Below.trans ?_ (Below.mono (by assumption) (by first | omega | (simp; done) | (simp; omega)))))
  replace hs := hs.below t1
  replace hr := hr.below t1
  have q0 := box_cells b1 0 rfl
  have q1 := box_cells b1 1 rfl
  have q2 := box_cells b1 2 rfl
  have lB := cell_ltK q0
  go_wp2_with fail
  go_at_call 21
  refine (post_eq a c ar cr p _ hs hr SM na).mono ?_
  rintro e w2 ⟨⟨a1, c1, r1, d1, rfl, s1, o1⟩, b2⟩
  have j2 : Below w1.heap.size w1 w2 := by (repeat (first | exact Below.refl _ _ | refine Below.alloc ?_ (by first | omega | (simp; done) | (simp; omega)) _ | refine Below.drew ?_ | refine Below.setCell ?_ (by first | omega | (simp; done) | (simp; omega)) _ | refine Below.trans ?_ (Below.mono (by assumption) (by first | omega | (simp; done) | (simp; omega)))))
  have t2 : Below w.heap.size w w2 := t1.trans (j2.mono t1.size)
  replace hs := hs.below j2
  replace hr := hr.below j2
  replace q0 := below_cell j2 q0
  replace q1 := below_cell j2 q1
  replace q2 := below_cell j2 q2
  replace lB := Nat.lt_of_lt_of_le lB j2.size
  go_wp2_with fail
  go_at_call 28
  refine (hours_eq a1 c1 r1 d1 p _ n r 2 [] 0 HHE HHO Hn s1 o1 SM).mono ?_
  rintro e w3 ⟨⟨a2, c2, rfl, i2⟩, b3⟩
  have j3 : Below w2.heap.size w2 w3 := by (repeat (first | exact Below.refl _ _ | refine Below.alloc ?_ (by first | omega | (simp; done) | (simp; omega)) _ | refine Below.drew ?_ | refine Below.setCell ?_ (by first | omega | (simp; done) | (simp; omega)) _ | refine Below.trans ?_ (Below.mono (by assumption) (by first | omega | (simp; done) | (simp; omega)))))
  have t3 : Below w.heap.size w w3 := t2.trans (j3.mono t2.size)
  replace hs := hs.below j3
  replace hr := hr.below j3
  replace q0 := below_cell j3 q0
  replace q1 := below_cell j3 q1
  replace q2 := below_cell j3 q2
  replace lB := Nat.lt_of_lt_of_le lB j3.size
  replace s1 := s1.below j3
  replace o1 := o1.below j3
  clear s1 o1
  go_wp2_with fail
  go_at_call 24
  refine (fault_eq a c ar cr p _ 0 HE hs hr SM).mono ?_
  rintro e w4 ⟨rfl, b4⟩
  have j4 : Below w3.heap.size w3 w4 := by (repeat (first | exact Below.refl _ _ | refine Below.alloc ?_ (by first | omega | (simp; done) | (simp; omega)) _ | refine Below.drew ?_ | refine Below.setCell ?_ (by first | omega | (simp; done) | (simp; omega)) _ | refine Below.trans ?_ (Below.mono (by assumption) (by first | omega | (simp; done) | (simp; omega)))))
  have t4 : Below w.heap.size w w4 := t3.trans (j4.mono t3.size)
  replace hs := hs.below j4
  replace hr := hr.below j4
  replace q0 := below_cell j4 q0
  replace q1 := below_cell j4 q1
  replace q2 := below_cell j4 q2
  replace lB := Nat.lt_of_lt_of_le lB j4.size
  replace i2 := i2.below j4
  go_wp2_with fail
  go_at_call 29
  refine (refIn_any _ _ _ _).mono ?_
  rintro e _ ⟨rfl, rfl⟩
  go_wp2_with fail
  go_at_call 29
  refine (refIn_any _ _ _ _).mono ?_
  rintro e _ ⟨rfl, rfl⟩
  go_wp2_with fail
  go_at_call 19
  refine (awake_any _).mono ?_
  rintro e w5 ⟨rfl, b5⟩
  have j5 : Below w4.heap.size w4 w5 := by (repeat (first | exact Below.refl _ _ | refine Below.alloc ?_ (by first | omega | (simp; done) | (simp; omega)) _ | refine Below.drew ?_ | refine Below.setCell ?_ (by first | omega | (simp; done) | (simp; omega)) _ | refine Below.trans ?_ (Below.mono (by assumption) (by first | omega | (simp; done) | (simp; omega)))))
  have t5 : Below w.heap.size w w5 := t4.trans (j5.mono t4.size)
  replace hs := hs.below j5
  replace hr := hr.below j5
  replace q0 := below_cell j5 q0
  replace q1 := below_cell j5 q1
  replace q2 := below_cell j5 q2
  replace lB := Nat.lt_of_lt_of_le lB j5.size
  replace i2 := i2.below j5
  go_wp2_with fail
  go_ret
  exact ⟨rfl, t5⟩

set_option maxRecDepth 100000 in
set_option maxHeartbeats 4000000 in
theorem hours_c4 (a : Option Addr) (c : Nat) (ar : Option Addr) (cr : Nat) (p : Post) (i k : Nat) (w : World) (hs : IntsAt w a p.sends) (hr : RoutesAt w ar p.routes) (na : a = none → c = 0) (big : PostBig p) (hT : thinB p = true) (hE : postErr p = 0) (hi : i < p.sends.length) (hk : k < p.routes.length) :
    Calls Try.prog 4 #[.agg #[.slice a p.sends.length c, .slice ar p.routes.length cr, .int .i64 p.pat], .int .i64 (i : Int), .int .i64 (k : Int)] w fun e w' => e = .returned (.bool true) ∧ Below w.heap.size w w' := by

  have HB := Lib.hid big
  have HT := Lib.hid hT
  have SM := Lib.hid (thin_small hT)
  have lS : p.sends.length ≤ 1000 := SM.out.1
  have lR : p.routes.length ≤ 1000 := SM.out.2
  have hws : IntKind.i64.wrap ((p.sends.length : Int) - 1) = (p.sends.length : Int) - 1 := IntWalk.i64_in _ (by omega)
  have hwr : IntKind.i64.wrap ((p.routes.length : Int) - 1) = (p.routes.length : Int) - 1 := IntWalk.i64_in _ (by omega)
  have hPE : hoursErr p i k = 0 := by
    have e1 : inLen (i : Int) p.sends.length = true := inR_iff.2 ⟨by omega, by omega⟩
    have e2 : inLen (k : Int) p.routes.length = true := inR_iff.2 ⟨by omega, by omega⟩
    unfold hoursErr
    rw [if_neg (by simpa using hE), e1, e2]; rfl
  have hI : inR (i : Int) (0, (p.sends.length : Int) - 1) = true := inR_iff.2 ⟨by omega, by omega⟩
  have hJ : inR (k : Int) (0, (p.routes.length : Int) - 1) = true := inR_iff.2 ⟨by omega, by omega⟩
  have hOO : hoursOut p i k = hrList (hrF p i k) := by unfold hoursOut; rw [if_pos hPE]; rfl
  obtain ⟨O, hO⟩ : ∃ O, hoursOut p i k = O := ⟨_, rfl⟩
  obtain ⟨n, hn⟩ : ∃ n, O.length = n := ⟨_, rfl⟩
  have HHO := Lib.hid hO
  have Hn := Lib.hid hn
  rw [hO] at hOO
  have HOO := Lib.hid hOO
  have HE := Lib.hid hE
  have HHE := Lib.hid hPE
  have ln : n ≤ 1000 := by rw [← hn, hOO, ← preI_all]; have := preI_len (hrF p i k) 101; omega
  have hhs := Lib.hid (post_hours hE)
  have HLG := Lib.hid (post_legs hE)
  clear hT big hPE hE hO hn hOO
  go_enter Try.func4, Try.ntmps4
  go_wp2_with fail
  go_at_call 17
  refine (thin_eq a c ar cr p _ true HT (hr.below (by (repeat (first | exact Below.refl _ _ | refine Below.alloc ?_ (by first | omega | (simp; done) | (simp; omega)) _ | refine Below.drew ?_ | refine Below.setCell ?_ (by first | omega | (simp; done) | (simp; omega)) _ | refine Below.trans ?_ (Below.mono (by assumption) (by first | omega | (simp; done) | (simp; omega))))))) HB.out).mono ?_
  rintro e w1 ⟨rfl, b1⟩
  have t1 : Below w.heap.size w w1 := by (repeat (first | exact Below.refl _ _ | refine Below.alloc ?_ (by first | omega | (simp; done) | (simp; omega)) _ | refine Below.drew ?_ | refine Below.setCell ?_ (by first | omega | (simp; done) | (simp; omega)) _ | refine Below.trans ?_ (Below.mono (by assumption) (by first | omega | (simp; done) | (simp; omega)))))
  replace hs := hs.below t1
  replace hr := hr.below t1
  have q0 := box_cells b1 0 rfl
  have q1 := box_cells b1 1 rfl
  have q2 := box_cells b1 2 rfl
  have lB := cell_ltK q0
  go_wp2_with fail
  go_at_call 21
  refine (post_eq a c ar cr p _ hs hr SM na).mono ?_
  rintro e w2 ⟨⟨a1, c1, r1, d1, rfl, s1, o1⟩, b2⟩
  have j2 : Below w1.heap.size w1 w2 := by (repeat (first | exact Below.refl _ _ | refine Below.alloc ?_ (by first | omega | (simp; done) | (simp; omega)) _ | refine Below.drew ?_ | refine Below.setCell ?_ (by first | omega | (simp; done) | (simp; omega)) _ | refine Below.trans ?_ (Below.mono (by assumption) (by first | omega | (simp; done) | (simp; omega)))))
  have t2 : Below w.heap.size w w2 := t1.trans (j2.mono t1.size)
  replace hs := hs.below j2
  replace hr := hr.below j2
  replace q0 := below_cell j2 q0
  replace q1 := below_cell j2 q1
  replace q2 := below_cell j2 q2
  replace lB := Nat.lt_of_lt_of_le lB j2.size
  go_wp2_with fail
  go_at_call 28
  refine (hours_eq a1 c1 r1 d1 p _ i k 0 O n HHE HHO Hn s1 o1 SM).mono ?_
  rintro e w3 ⟨⟨a2, c2, rfl, i2⟩, b3⟩
  have j3 : Below w2.heap.size w2 w3 := by (repeat (first | exact Below.refl _ _ | refine Below.alloc ?_ (by first | omega | (simp; done) | (simp; omega)) _ | refine Below.drew ?_ | refine Below.setCell ?_ (by first | omega | (simp; done) | (simp; omega)) _ | refine Below.trans ?_ (Below.mono (by assumption) (by first | omega | (simp; done) | (simp; omega)))))
  have t3 : Below w.heap.size w w3 := t2.trans (j3.mono t2.size)
  replace hs := hs.below j3
  replace hr := hr.below j3
  replace q0 := below_cell j3 q0
  replace q1 := below_cell j3 q1
  replace q2 := below_cell j3 q2
  replace lB := Nat.lt_of_lt_of_le lB j3.size
  replace s1 := s1.below j3
  replace o1 := o1.below j3
  clear s1 o1
  go_wp2_with fail
  go_at_call 24
  refine (fault_eq a c ar cr p _ 0 HE hs hr SM).mono ?_
  rintro e w4 ⟨rfl, b4⟩
  have j4 : Below w3.heap.size w3 w4 := by (repeat (first | exact Below.refl _ _ | refine Below.alloc ?_ (by first | omega | (simp; done) | (simp; omega)) _ | refine Below.drew ?_ | refine Below.setCell ?_ (by first | omega | (simp; done) | (simp; omega)) _ | refine Below.trans ?_ (Below.mono (by assumption) (by first | omega | (simp; done) | (simp; omega)))))
  have t4 : Below w.heap.size w w4 := t3.trans (j4.mono t3.size)
  replace hs := hs.below j4
  replace hr := hr.below j4
  replace q0 := below_cell j4 q0
  replace q1 := below_cell j4 q1
  replace q2 := below_cell j4 q2
  replace lB := Nat.lt_of_lt_of_le lB j4.size
  replace i2 := i2.below j4
  go_wp2_with fail
  go_at_call 29
  refine (refIn_any _ _ _ _).mono ?_
  rintro e _ ⟨rfl, rfl⟩
  go_wp2_with fail
  go_at_call 29
  refine (refIn_any _ _ _ _).mono ?_
  rintro e _ ⟨rfl, rfl⟩
  go_wp2_with fail
  have hiI : (i : Int) < (p.sends.length : Int) := by omega
  have hkI : (k : Int) < (p.routes.length : Int) := by omega
  obtain ⟨bR, offR, al, ca, rfl, hbR, e0, e1, eL⟩ := hr k hk
  obtain ⟨bS, offS, rfl, hbS, s0⟩ := hs i hi
  have s0' : w4.cell? ⟨bS, offS + i, none⟩ = some (.int .i64 p.sends[i]) := s0.trans (by simp [hi])
  have sb := hhs.out.s _ (List.getElem_mem hi)
  have Hsg : Hid (p.sends.getD i 0 = p.sends[i]) := Lib.hid (by simp [hi])
  clear s0
  obtain ⟨s, hse⟩ : ∃ s : Nat, p.sends[i] = (s : Int) := ⟨p.sends[i].toNat, by omega⟩
  rw [hse] at s0' sb Hsg
  clear hse
  have lo := HLG.out p.routes[k] (List.getElem_mem hk)
  have Hrk : Hid (p.routes[k]? = some p.routes[k]) := Lib.hid (List.getElem?_eq_getElem hk)
  obtain ⟨r, hrr⟩ : ∃ x, p.routes[k] = x := ⟨_, rfl⟩
  rw [hrr] at e0 e1 eL lo Hrk
  clear hrr
  obtain ⟨ll, lok, las⟩ := lo
  have Hlok := Lib.hid lok
  have Hlas := Lib.hid las
  have hFr : legsHr r.legs s r.legs.length = hrF p i k := by
    unfold legsHr hrF routeHr
    rw [Hrk.out, Hsg.out, List.take_length]; rfl
  have hrf := fun X (b : Below w4.heap.size w4 X) => refHours_any al ca r s X (eL.below b) ll Hlok.out Hlas.out (by omega)
  rw [hFr] at hrf
  obtain ⟨F, hF⟩ : ∃ F, hrF p i k = F := ⟨_, rfl⟩
  rw [hF] at hrf HOO
  have Hzs : Hid (Try.zeroCells50 = setA noHr) := Lib.hid (by kernel_rfl)
  clear hFr hF lok las
  (refine wp_region_seq 12 [] [12] 92 [true, true, true, true, true, true, true, true, true, true, true, false] [PtrV w4.heap.size Try.zeroCells50 50] (by kernel_rfl) (by kernel_rfl) rfl (mono_cons (fun v w w' h hb => h.kept hb) mono_nil) ?_; simp only [pickOps, List.filterMap_cons, List.filterMap_nil, List.getElem?_toArray, List.getElem?_cons_succ, List.getElem?_cons_zero]; (repeat (refine wpFl_step _ rfl (fun w => (by go_simp; rfl)) ?_)); refine wpFl_nil ?_; simp only [maskOps, dummy, Act.put, List.setIfInBounds_toArray, List.set_cons_zero, List.set_cons_succ, List.take_succ_cons, List.take_zero, List.drop_succ_cons, List.drop_zero]; (repeat (refine wpQB_step (fun K hK => ?_); go_simp; first | (refine hK _ ?_; clear hK K) | (apply Exists.intro; refine ⟨fun ex => ?_, hK _ ?_⟩; ((go_at_call 30; exact hrf _ ex.below)); clear hK K))); refine wpQB_nil ?_; simp only [relObl2, under, relEnd, and_true, List.nil_append, List.cons_append])
  refine ⟨?_, ?_⟩
  · intro e
    go_simp
    exact ⟨(Below.refl _ _).alloc (Nat.le_refl _) _, e.to.heap.size, rfl, by have := e.size; omega, Cells.new _ _ _⟩
  intro e
  rintro v1 ⟨Be, rfl, hBe, CE⟩
  rw [Hzs.out] at CE
  simp only [Act.put, List.setIfInBounds_toArray, List.set_cons_zero, List.set_cons_succ]
  have he5 := e.below
  obtain ⟨w5, hw5⟩ : ∃ x : World, x = e.to := ⟨_, rfl⟩
  rw [← hw5] at he5 CE ⊢
  clear hw5 e
  refine wpList_store_row rfl 50 (.tmp 10) (.tmp 70) rfl Be (setA F) rfl rfl 50 (setA noHr) CE (by rw [setA_size]; kernel_rfl) (by rw [setA_size, setA_size]) (setA_one _) ?_
  obtain ⟨w6, hw6⟩ : ∃ x : World, x = w5.setRow Be (setA F) := ⟨_, rfl⟩
  have b6 : Below w4.heap.size w4 w6 := by rw [hw6]; exact below_setRow he5 hBe _
  have C6 : Cells w6 Be (setA F) 50 := by rw [hw6]; exact setRow_heap _ _ _ _ _ _ CE
  rw [← hw6]
  clear hw6 he5 CE q0 q1 q2 e0 e1 eL s0' hrf hbR hbS
  replace i2 := i2.below b6
  have t6 := t4.trans (b6.mono t4.size)
  clear b6
  go_wp2
  go_loopw [11, 12] (fun v x wr => ∃ (m : Nat) (ao : Option Addr) (co : Nat), m ≤ 101 ∧ x = .int .i64 m ∧ v = .slice ao (preI F m).length co ∧ OwnL 3 1 w6.heap.size wr ao co (preI F m).length ((preI F m).map (Value.int .i64)) ∧ Below w6.heap.size w6 wr) (fun _ x _ => 101 - (intOf x).toNat)
  case atStart => exact ⟨0, none, 0, by omega, rfl, rfl, OwnL.nil _ _ _ _, Below.refl _ _⟩
  case round =>
    obtain ⟨m, ao, co, hm, rfl, rfl, hown, hb⟩ := hrel
    by_cases hml : m ≤ 100
    · have cm := (C6.below hb).cell m
      rw [setA_get F m (by omega)] at cm
      have lm := (C6.below hb).lt
      have hmI : (m : Int) ≤ 100 := by omega
      have lL := preI_len F m
      have lz := hb.size
      cases hf : F m
      · rw [hf] at cm
        have Hs := Lib.hid (preI_no hf)
        clear hf
        go_wp2
        go_roundw
        case rel => exact ⟨m + 1, ao, co, by omega, by go_num, by rw [Hs.out], by rw [Hs.out]; exact hown, hb⟩
        case measure => simp [intOf]; omega
      · rw [hf] at cm
        have Hs := Lib.hid (preI_yes hf)
        clear hf
        obtain ⟨L, hL⟩ : ∃ L, preI F m = L := ⟨_, rfl⟩
        rw [hL] at hown lL Hs ⊢
        clear hL
        go_wp2_with (at_builtin; refine wpList_app_lit elInt rfl _ _ rfl w6.heap.size ao L.length co _ rfl hown 1 1 rfl rfl (fun u hu => by simp at hu; subst hu; rfl) (by unfold maxLen; omega) (by omega) (by omega) ?_; intro a7 c7 w7 hown7 hb7)
        go_roundw
        case rel => exact ⟨m + 1, a7, c7, by omega, by go_num, by rw [Hs.out]; simp, by rw [Hs.out]; simpa using hown7, hb.trans hb7⟩
        case measure => simp [intOf]; omega
    · obtain rfl : m = 101 := by omega
      have iD := hown.ints.1
      have eO : preI F 101 = O := by rw [preI_all]; exact HOO.out.symm
      rw [eO] at iD ⊢
      rw [Hn.out]
      have i3 := i2.below hb
      have t7 := t6.trans (hb.mono t6.size)
      clear hown eO
      go_wp2_with fail
      go_at_call 31
      refine (ints_eq a2 O n c2 Hn.out ao co _ i3 iD ln).mono ?_
      rintro e w8 ⟨rfl, b8⟩
      go_wp2_with fail
      go_at_call 19
      refine (awake_any _).mono ?_
      rintro e w9 ⟨rfl, b9⟩
      go_wp2_with fail
      go_ret
      exact ⟨rfl, (t7.trans (b8.mono t7.size)).trans (b9.mono (t7.trans (b8.mono t7.size)).size)⟩

theorem hours_walk (a : Option Addr) (c : Nat) (ar : Option Addr) (cr : Nat) (p : Post) (n r : Int) (w : World) (hs : IntsAt w a p.sends) (hr : RoutesAt w ar p.routes) (na : a = none → c = 0) (big : PostBig p) :
    Calls Try.prog 4 #[.agg #[.slice a p.sends.length c, .slice ar p.routes.length cr, .int .i64 p.pat], .int .i64 n, .int .i64 r] w fun e w' => e = .returned (.bool true) ∧ Below w.heap.size w w' := by
  cases hT : thinB p
  · exact hours_c0 a c ar cr p n r w hs hr na big hT
  · by_cases hE : postErr p = 0
    · cases hI : inR n (0, (p.sends.length : Int) - 1)
      · exact hours_c2 a c ar cr p n r w hs hr na big hT hE hI
      · cases hJ : inR r (0, (p.routes.length : Int) - 1)
        · exact hours_c3 a c ar cr p n r w hs hr na big hT hE hI hJ
        · obtain ⟨i, rfl⟩ : ∃ i : Nat, n = i := ⟨n.toNat, by have := inR_iff.1 hI; omega⟩
          obtain ⟨k, rfl⟩ : ∃ i : Nat, r = i := ⟨r.toNat, by have := inR_iff.1 hJ; omega⟩
          exact hours_c4 a c ar cr p i k w hs hr na big hT hE (by have := inR_iff.1 hI; omega) (by have := inR_iff.1 hJ; omega)
    · exact hours_c1 a c ar cr p n r w hs hr na big hT hE
end Go.Proofs.Ytfclemnkcpadpaa
