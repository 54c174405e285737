/- CopiesSpans: the walk -/
import Derived.Test.YtfclemnkcpadpaaLf
import Derived.Test.YtfclemnkcpadpaaRq
namespace Go.Proofs.Ytfclemnkcpadpaa
set_option linter.unusedVariables false
set_option linter.unusedSimpArgs false
set_option linter.unnecessarySimpa false
open Go.RowKit Go.Flow Go.Shelf

theorem spansF_at (p : Post) {n k : Nat} (h : k < (spansF p n).length) : (spansF p n)[k] = spanAt p k := by
  simp [spansF]

set_option maxRecDepth 100000 in
set_option maxHeartbeats 4000000 in
theorem spans_a1 (a : Option Addr) (c : Nat) (ar : Option Addr) (cr : Nat) (p : Post) (w : World) (hs : IntsAt w a p.sends) (hr : RoutesAt w ar p.routes) (na : a = none → c = 0) (big : PostBig p) (hT : thinB p = false) :
    Calls Try.prog 5 #[.agg #[.slice a p.sends.length c, .slice ar p.routes.length cr, .int .i64 p.pat]] w fun e w' => e = .returned (.bool true) ∧ Below w.heap.size w w' := by

  have HB := Lib.hid big
  have HT := Lib.hid hT
  clear hT big
  go_enter Try.func5, Try.ntmps5
  go_wp2_with fail
  go_at_call 17
  refine (thin_eq a c ar cr p _ false HT (hr.below (by (repeat (first | exact Below.refl _ _ | refine Below.alloc ?_ (by first | omega | (simp; done) | (simp; omega)) _ | refine Below.drew ?_ | refine Below.setCell ?_ (by first | omega | (simp; done) | (simp; omega)) _ | refine Below.trans ?_ (Below.mono (by assumption) (by first | omega | (simp; done) | (simp; omega))))))) HB.out).mono ?_
  rintro e w1 ⟨rfl, b1⟩
  have t1 : Below w.heap.size w w1 := by (repeat (first | exact Below.refl _ _ | refine Below.alloc ?_ (by first | omega | (simp; done) | (simp; omega)) _ | refine Below.drew ?_ | refine Below.setCell ?_ (by first | omega | (simp; done) | (simp; omega)) _ | refine Below.trans ?_ (Below.mono (by assumption) (by first | omega | (simp; done) | (simp; omega)))))
  replace hs := hs.below t1
  replace hr := hr.below t1
  have q0 := box_cells b1 0 rfl
  have q1 := box_cells b1 1 rfl
  have q2 := box_cells b1 2 rfl
  have lB := cell_ltK q0
  go_wp2_with fail
  go_at_call 19
  refine (awake_any _).mono ?_
  rintro e w2 ⟨rfl, b2⟩
  have j2 : Below w1.heap.size w1 w2 := by (repeat (first | exact Below.refl _ _ | refine Below.alloc ?_ (by first | omega | (simp; done) | (simp; omega)) _ | refine Below.drew ?_ | refine Below.setCell ?_ (by first | omega | (simp; done) | (simp; omega)) _ | refine Below.trans ?_ (Below.mono (by assumption) (by first | omega | (simp; done) | (simp; omega)))))
  have t2 : Below w.heap.size w w2 := t1.trans (j2.mono t1.size)
  replace hs := hs.below j2
  replace hr := hr.below j2
  replace q0 := below_cell j2 q0
  replace q1 := below_cell j2 q1
  replace q2 := below_cell j2 q2
  replace lB := Nat.lt_of_lt_of_le lB j2.size
  go_wp2_with fail
  go_ret
  exact ⟨rfl, t2⟩

set_option maxRecDepth 100000 in
set_option maxHeartbeats 4000000 in
theorem spans_a2 (a : Option Addr) (c : Nat) (ar : Option Addr) (cr : Nat) (p : Post) (w : World) (hs : IntsAt w a p.sends) (hr : RoutesAt w ar p.routes) (na : a = none → c = 0) (big : PostBig p) (hT : thinB p = true) (hE : postErr p ≠ 0) :
    Calls Try.prog 5 #[.agg #[.slice a p.sends.length c, .slice ar p.routes.length cr, .int .i64 p.pat]] w fun e w' => e = .returned (.bool true) ∧ Below w.heap.size w w' := by

  have HB := Lib.hid big
  have HT := Lib.hid hT
  have SM := Lib.hid (thin_small hT)
  have lS : p.sends.length ≤ 1000 := SM.out.1
  have lR : p.routes.length ≤ 1000 := SM.out.2
  have HO : Hid (spansOut p = []) := Lib.hid (by unfold spansOut; rw [if_neg hE])
  have HS : Hid (sureOut p = []) := Lib.hid (by unfold sureOut; rw [if_neg hE])
  have Hn : Hid (([] : List (Int × Int)).length = 0) := Lib.hid rfl
  have Hns : Hid (([] : List Int).length = 0) := Lib.hid rfl
  have hle : leastErr p = postErr p := by unfold leastErr; rw [if_pos hE]
  have HLO : Hid (leastOut p = 0) := Lib.hid (by unfold leastOut; rw [if_pos hE])
  obtain ⟨E, hX⟩ : ∃ E, postErr p = E := ⟨_, rfl⟩
  rw [hX] at hle hE
  have HE := Lib.hid hX
  have HLE := Lib.hid hle
  have hne : (E != 0) = true := by simpa using hE
  have hne2 : (E == 0) = false := by simpa using hE
  have hbd : 0 ≤ E ∧ E ≤ 3 := by rw [← hX]; exact postErr_bd p
  clear hT big hX hle hE
  go_enter Try.func5, Try.ntmps5
  go_wp2_with fail
  go_at_call 17
  refine (thin_eq a c ar cr p _ true HT (hr.below (by (repeat (first | exact Below.refl _ _ | refine Below.alloc ?_ (by first | omega | (simp; done) | (simp; omega)) _ | refine Below.drew ?_ | refine Below.setCell ?_ (by first | omega | (simp; done) | (simp; omega)) _ | refine Below.trans ?_ (Below.mono (by assumption) (by first | omega | (simp; done) | (simp; omega))))))) HB.out).mono ?_
  rintro e w1 ⟨rfl, b1⟩
  have t1 : Below w.heap.size w w1 := by (repeat (first | exact Below.refl _ _ | refine Below.alloc ?_ (by first | omega | (simp; done) | (simp; omega)) _ | refine Below.drew ?_ | refine Below.setCell ?_ (by first | omega | (simp; done) | (simp; omega)) _ | refine Below.trans ?_ (Below.mono (by assumption) (by first | omega | (simp; done) | (simp; omega)))))
  replace hs := hs.below t1
  replace hr := hr.below t1
  have q0 := box_cells b1 0 rfl
  have q1 := box_cells b1 1 rfl
  have q2 := box_cells b1 2 rfl
  have lB := cell_ltK q0
  go_wp2_with fail
  go_at_call 21
  refine (post_eq a c ar cr p _ hs hr SM na).mono ?_
  rintro e w2 ⟨⟨a1, c1, r1, d1, rfl, s1, o1⟩, b2⟩
  have j2 : Below w1.heap.size w1 w2 := by (repeat (first | exact Below.refl _ _ | refine Below.alloc ?_ (by first | omega | (simp; done) | (simp; omega)) _ | refine Below.drew ?_ | refine Below.setCell ?_ (by first | omega | (simp; done) | (simp; omega)) _ | refine Below.trans ?_ (Below.mono (by assumption) (by first | omega | (simp; done) | (simp; omega)))))
  have t2 : Below w.heap.size w w2 := t1.trans (j2.mono t1.size)
  replace hs := hs.below j2
  replace hr := hr.below j2
  replace q0 := below_cell j2 q0
  replace q1 := below_cell j2 q1
  replace q2 := below_cell j2 q2
  replace lB := Nat.lt_of_lt_of_le lB j2.size
  go_wp2_with fail
  go_at_call 32
  refine (spans_eq a1 c1 r1 d1 p _ E [] 0 HE HO Hn s1 o1 SM).mono ?_
  rintro e w3 ⟨⟨e1, f1, rfl, i1⟩, b3⟩
  have j3 : Below w2.heap.size w2 w3 := by (repeat (first | exact Below.refl _ _ | refine Below.alloc ?_ (by first | omega | (simp; done) | (simp; omega)) _ | refine Below.drew ?_ | refine Below.setCell ?_ (by first | omega | (simp; done) | (simp; omega)) _ | refine Below.trans ?_ (Below.mono (by assumption) (by first | omega | (simp; done) | (simp; omega)))))
  have t3 : Below w.heap.size w w3 := t2.trans (j3.mono t2.size)
  replace hs := hs.below j3
  replace hr := hr.below j3
  replace q0 := below_cell j3 q0
  replace q1 := below_cell j3 q1
  replace q2 := below_cell j3 q2
  replace lB := Nat.lt_of_lt_of_le lB j3.size
  replace s1 := s1.below j3
  replace o1 := o1.below j3
  clear s1 o1
  go_wp2_with fail
  go_at_call 21
  refine (post_eq a c ar cr p _ hs hr SM na).mono ?_
  rintro e w4 ⟨⟨a2, c2, r2, d2, rfl, s2, o2⟩, b4⟩
  have j4 : Below w3.heap.size w3 w4 := by (repeat (first | exact Below.refl _ _ | refine Below.alloc ?_ (by first | omega | (simp; done) | (simp; omega)) _ | refine Below.drew ?_ | refine Below.setCell ?_ (by first | omega | (simp; done) | (simp; omega)) _ | refine Below.trans ?_ (Below.mono (by assumption) (by first | omega | (simp; done) | (simp; omega)))))
  have t4 : Below w.heap.size w w4 := t3.trans (j4.mono t3.size)
  replace hs := hs.below j4
  replace hr := hr.below j4
  replace q0 := below_cell j4 q0
  replace q1 := below_cell j4 q1
  replace q2 := below_cell j4 q2
  replace lB := Nat.lt_of_lt_of_le lB j4.size
  replace i1 := i1.below j4
  go_wp2_with fail
  go_at_call 33
  refine (sure_eq a2 c2 r2 d2 p _ E [] 0 HE HS Hns s2 o2 SM).mono ?_
  rintro e w5 ⟨⟨e2, f2, rfl, i2⟩, b5⟩
  have j5 : Below w4.heap.size w4 w5 := by (repeat (first | exact Below.refl _ _ | refine Below.alloc ?_ (by first | omega | (simp; done) | (simp; omega)) _ | refine Below.drew ?_ | refine Below.setCell ?_ (by first | omega | (simp; done) | (simp; omega)) _ | refine Below.trans ?_ (Below.mono (by assumption) (by first | omega | (simp; done) | (simp; omega)))))
  have t5 : Below w.heap.size w w5 := t4.trans (j5.mono t4.size)
  replace hs := hs.below j5
  replace hr := hr.below j5
  replace q0 := below_cell j5 q0
  replace q1 := below_cell j5 q1
  replace q2 := below_cell j5 q2
  replace lB := Nat.lt_of_lt_of_le lB j5.size
  replace i1 := i1.below j5
  replace s2 := s2.below j5
  replace o2 := o2.below j5
  clear s2 o2
  go_wp2_with fail
  go_at_call 21
  refine (post_eq a c ar cr p _ hs hr SM na).mono ?_
  rintro e w6 ⟨⟨a3, c3, r3, d3, rfl, s3, o3⟩, b6⟩
  have j6 : Below w5.heap.size w5 w6 := by (repeat (first | exact Below.refl _ _ | refine Below.alloc ?_ (by first | omega | (simp; done) | (simp; omega)) _ | refine Below.drew ?_ | refine Below.setCell ?_ (by first | omega | (simp; done) | (simp; omega)) _ | refine Below.trans ?_ (Below.mono (by assumption) (by first | omega | (simp; done) | (simp; omega)))))
  have t6 : Below w.heap.size w w6 := t5.trans (j6.mono t5.size)
  replace hs := hs.below j6
  replace hr := hr.below j6
  replace q0 := below_cell j6 q0
  replace q1 := below_cell j6 q1
  replace q2 := below_cell j6 q2
  replace lB := Nat.lt_of_lt_of_le lB j6.size
  replace i1 := i1.below j6
  replace i2 := i2.below j6
  go_wp2_with fail
  go_at_call 34
  refine (least_eq a3 c3 r3 d3 p _ E 0 HLE HLO s3 o3 SM).mono ?_
  rintro e w7 ⟨rfl, b7⟩
  have j7 : Below w6.heap.size w6 w7 := by (repeat (first | exact Below.refl _ _ | refine Below.alloc ?_ (by first | omega | (simp; done) | (simp; omega)) _ | refine Below.drew ?_ | refine Below.setCell ?_ (by first | omega | (simp; done) | (simp; omega)) _ | refine Below.trans ?_ (Below.mono (by assumption) (by first | omega | (simp; done) | (simp; omega)))))
  have t7 : Below w.heap.size w w7 := t6.trans (j7.mono t6.size)
  replace hs := hs.below j7
  replace hr := hr.below j7
  replace q0 := below_cell j7 q0
  replace q1 := below_cell j7 q1
  replace q2 := below_cell j7 q2
  replace lB := Nat.lt_of_lt_of_le lB j7.size
  replace i1 := i1.below j7
  replace i2 := i2.below j7
  replace s3 := s3.below j7
  replace o3 := o3.below j7
  clear s3 o3
  go_wp2_with fail
  go_at_call 24
  refine (fault_eq a c ar cr p _ E HE hs hr SM).mono ?_
  rintro e w8 ⟨rfl, b8⟩
  have j8 : Below w7.heap.size w7 w8 := by (repeat (first | exact Below.refl _ _ | refine Below.alloc ?_ (by first | omega | (simp; done) | (simp; omega)) _ | refine Below.drew ?_ | refine Below.setCell ?_ (by first | omega | (simp; done) | (simp; omega)) _ | refine Below.trans ?_ (Below.mono (by assumption) (by first | omega | (simp; done) | (simp; omega)))))
  have t8 : Below w.heap.size w w8 := t7.trans (j8.mono t7.size)
  replace hs := hs.below j8
  replace hr := hr.below j8
  replace q0 := below_cell j8 q0
  replace q1 := below_cell j8 q1
  replace q2 := below_cell j8 q2
  replace lB := Nat.lt_of_lt_of_le lB j8.size
  replace i1 := i1.below j8
  replace i2 := i2.below j8
  go_wp2_with fail
  go_at_call 19
  refine (awake_any _).mono ?_
  rintro e w9 ⟨rfl, b9⟩
  have j9 : Below w8.heap.size w8 w9 := by (repeat (first | exact Below.refl _ _ | refine Below.alloc ?_ (by first | omega | (simp; done) | (simp; omega)) _ | refine Below.drew ?_ | refine Below.setCell ?_ (by first | omega | (simp; done) | (simp; omega)) _ | refine Below.trans ?_ (Below.mono (by assumption) (by first | omega | (simp; done) | (simp; omega)))))
  have t9 : Below w.heap.size w w9 := t8.trans (j9.mono t8.size)
  replace hs := hs.below j9
  replace hr := hr.below j9
  replace q0 := below_cell j9 q0
  replace q1 := below_cell j9 q1
  replace q2 := below_cell j9 q2
  replace lB := Nat.lt_of_lt_of_le lB j9.size
  replace i1 := i1.below j9
  replace i2 := i2.below j9
  go_wp2_with fail
  go_ret
  exact ⟨rfl, t9⟩

set_option maxRecDepth 100000 in
set_option maxHeartbeats 4000000 in
theorem spans_a3 (a : Option Addr) (c : Nat) (ar : Option Addr) (cr : Nat) (p : Post) (w : World) (hs : IntsAt w a p.sends) (hr : RoutesAt w ar p.routes) (na : a = none → c = 0) (big : PostBig p) (hT : thinB p = true) (hE : postErr p = 0) (hl : leastF p = none) :
    Calls Try.prog 5 #[.agg #[.slice a p.sends.length c, .slice ar p.routes.length cr, .int .i64 p.pat]] w fun e w' => e = .returned (.bool true) ∧ Below w.heap.size w w' := by

  have HB := Lib.hid big
  have HT := Lib.hid hT
  have SM := Lib.hid (thin_small hT)
  have lS : p.sends.length ≤ 1000 := SM.out.1
  have lR : p.routes.length ≤ 1000 := SM.out.2
  have HE := Lib.hid hE
  have hlo : leastErr p = 9 ∧ leastOut p = 0 ∧ lrF p = (-1) := by
    refine ⟨?_, ?_, ?_⟩
    · unfold leastErr; rw [if_neg (by simpa using hE), hl]; rfl
    · unfold leastOut; rw [if_neg (by simpa using hE), hl]; rfl
    · unfold lrF; rw [hl]
  have HLE := Lib.hid hlo.1
  have HLO := Lib.hid hlo.2.1
  have HLR := Lib.hid hlo.2.2
  have hle := fun X (h1 : IntsAt X a p.sends) (h2 : RoutesAt X ar p.routes) => refLeast_any a c ar cr p X h1 h2 HE.out
  rw [hlo.2.2] at hle
  have hSe : sureOut p = sureF p p.sends.length := by unfold sureOut; rw [if_pos hE]
  have HOe : Hid (spansOut p = spansF p p.sends.length) := Lib.hid (by unfold spansOut; rw [if_pos hE])
  have Hn : Hid ((spansF p p.sends.length).length = p.sends.length) := Lib.hid (spansF_len p _)
  obtain ⟨S, hS⟩ : ∃ S, sureOut p = S := ⟨_, rfl⟩
  obtain ⟨ns, hns⟩ : ∃ n, S.length = n := ⟨_, rfl⟩
  have lns : ns ≤ 1000 := by rw [← hns, ← hS, hSe]; have := sureF_len p p.sends.length; omega
  have HS := Lib.hid hS
  have Hns := Lib.hid hns
  have HSe : Hid (sureF p p.sends.length = S) := Lib.hid (by rw [← hSe, hS])
  have HO := HOe
  clear hT big hE hlo hSe hS hns hl
  go_enter Try.func5, Try.ntmps5
  go_wp2_with fail
  go_at_call 17
  refine (thin_eq a c ar cr p _ true HT (hr.below (by (repeat (first | exact Below.refl _ _ | refine Below.alloc ?_ (by first | omega | (simp; done) | (simp; omega)) _ | refine Below.drew ?_ | refine Below.setCell ?_ (by first | omega | (simp; done) | (simp; omega)) _ | refine Below.trans ?_ (Below.mono (by assumption) (by first | omega | (simp; done) | (simp; omega))))))) HB.out).mono ?_
  rintro e w1 ⟨rfl, b1⟩
  have t1 : Below w.heap.size w w1 := by (repeat (first | exact Below.refl _ _ | refine Below.alloc ?_ (by first | omega | (simp; done) | (simp; omega)) _ | refine Below.drew ?_ | refine Below.setCell ?_ (by first | omega | (simp; done) | (simp; omega)) _ | refine Below.trans ?_ (Below.mono (by assumption) (by first | omega | (simp; done) | (simp; omega)))))
  replace hs := hs.below t1
  replace hr := hr.below t1
  have q0 := box_cells b1 0 rfl
  have q1 := box_cells b1 1 rfl
  have q2 := box_cells b1 2 rfl
  have lB := cell_ltK q0
  go_wp2_with fail
  go_at_call 21
  refine (post_eq a c ar cr p _ hs hr SM na).mono ?_
  rintro e w2 ⟨⟨a1, c1, r1, d1, rfl, s1, o1⟩, b2⟩
  have j2 : Below w1.heap.size w1 w2 := by (repeat (first | exact Below.refl _ _ | refine Below.alloc ?_ (by first | omega | (simp; done) | (simp; omega)) _ | refine Below.drew ?_ | refine Below.setCell ?_ (by first | omega | (simp; done) | (simp; omega)) _ | refine Below.trans ?_ (Below.mono (by assumption) (by first | omega | (simp; done) | (simp; omega)))))
  have t2 : Below w.heap.size w w2 := t1.trans (j2.mono t1.size)
  replace hs := hs.below j2
  replace hr := hr.below j2
  replace q0 := below_cell j2 q0
  replace q1 := below_cell j2 q1
  replace q2 := below_cell j2 q2
  replace lB := Nat.lt_of_lt_of_le lB j2.size
  go_wp2_with fail
  go_at_call 32
  refine (spans_eq a1 c1 r1 d1 p _ 0 (spansF p p.sends.length) p.sends.length HE HO Hn s1 o1 SM).mono ?_
  rintro e w3 ⟨⟨e1, f1, rfl, i1⟩, b3⟩
  have j3 : Below w2.heap.size w2 w3 := by (repeat (first | exact Below.refl _ _ | refine Below.alloc ?_ (by first | omega | (simp; done) | (simp; omega)) _ | refine Below.drew ?_ | refine Below.setCell ?_ (by first | omega | (simp; done) | (simp; omega)) _ | refine Below.trans ?_ (Below.mono (by assumption) (by first | omega | (simp; done) | (simp; omega)))))
  have t3 : Below w.heap.size w w3 := t2.trans (j3.mono t2.size)
  replace hs := hs.below j3
  replace hr := hr.below j3
  replace q0 := below_cell j3 q0
  replace q1 := below_cell j3 q1
  replace q2 := below_cell j3 q2
  replace lB := Nat.lt_of_lt_of_le lB j3.size
  replace s1 := s1.below j3
  replace o1 := o1.below j3
  clear s1 o1
  go_wp2_with fail
  go_at_call 21
  refine (post_eq a c ar cr p _ hs hr SM na).mono ?_
  rintro e w4 ⟨⟨a2, c2, r2, d2, rfl, s2, o2⟩, b4⟩
  have j4 : Below w3.heap.size w3 w4 := by (repeat (first | exact Below.refl _ _ | refine Below.alloc ?_ (by first | omega | (simp; done) | (simp; omega)) _ | refine Below.drew ?_ | refine Below.setCell ?_ (by first | omega | (simp; done) | (simp; omega)) _ | refine Below.trans ?_ (Below.mono (by assumption) (by first | omega | (simp; done) | (simp; omega)))))
  have t4 : Below w.heap.size w w4 := t3.trans (j4.mono t3.size)
  replace hs := hs.below j4
  replace hr := hr.below j4
  replace q0 := below_cell j4 q0
  replace q1 := below_cell j4 q1
  replace q2 := below_cell j4 q2
  replace lB := Nat.lt_of_lt_of_le lB j4.size
  replace i1 := i1.below j4
  go_wp2_with fail
  go_at_call 33
  refine (sure_eq a2 c2 r2 d2 p _ 0 S ns HE HS Hns s2 o2 SM).mono ?_
  rintro e w5 ⟨⟨e2, f2, rfl, i2⟩, b5⟩
  have j5 : Below w4.heap.size w4 w5 := by (repeat (first | exact Below.refl _ _ | refine Below.alloc ?_ (by first | omega | (simp; done) | (simp; omega)) _ | refine Below.drew ?_ | refine Below.setCell ?_ (by first | omega | (simp; done) | (simp; omega)) _ | refine Below.trans ?_ (Below.mono (by assumption) (by first | omega | (simp; done) | (simp; omega)))))
  have t5 : Below w.heap.size w w5 := t4.trans (j5.mono t4.size)
  replace hs := hs.below j5
  replace hr := hr.below j5
  replace q0 := below_cell j5 q0
  replace q1 := below_cell j5 q1
  replace q2 := below_cell j5 q2
  replace lB := Nat.lt_of_lt_of_le lB j5.size
  replace i1 := i1.below j5
  replace s2 := s2.below j5
  replace o2 := o2.below j5
  clear s2 o2
  go_wp2_with fail
  go_at_call 21
  refine (post_eq a c ar cr p _ hs hr SM na).mono ?_
  rintro e w6 ⟨⟨a3, c3, r3, d3, rfl, s3, o3⟩, b6⟩
  have j6 : Below w5.heap.size w5 w6 := by (repeat (first | exact Below.refl _ _ | refine Below.alloc ?_ (by first | omega | (simp; done) | (simp; omega)) _ | refine Below.drew ?_ | refine Below.setCell ?_ (by first | omega | (simp; done) | (simp; omega)) _ | refine Below.trans ?_ (Below.mono (by assumption) (by first | omega | (simp; done) | (simp; omega)))))
  have t6 : Below w.heap.size w w6 := t5.trans (j6.mono t5.size)
  replace hs := hs.below j6
  replace hr := hr.below j6
  replace q0 := below_cell j6 q0
  replace q1 := below_cell j6 q1
  replace q2 := below_cell j6 q2
  replace lB := Nat.lt_of_lt_of_le lB j6.size
  replace i1 := i1.below j6
  replace i2 := i2.below j6
  go_wp2_with fail
  go_at_call 34
  refine (least_eq a3 c3 r3 d3 p _ 9 0 HLE HLO s3 o3 SM).mono ?_
  rintro e w7 ⟨rfl, b7⟩
  have j7 : Below w6.heap.size w6 w7 := by (repeat (first | exact Below.refl _ _ | refine Below.alloc ?_ (by first | omega | (simp; done) | (simp; omega)) _ | refine Below.drew ?_ | refine Below.setCell ?_ (by first | omega | (simp; done) | (simp; omega)) _ | refine Below.trans ?_ (Below.mono (by assumption) (by first | omega | (simp; done) | (simp; omega)))))
  have t7 : Below w.heap.size w w7 := t6.trans (j7.mono t6.size)
  replace hs := hs.below j7
  replace hr := hr.below j7
  replace q0 := below_cell j7 q0
  replace q1 := below_cell j7 q1
  replace q2 := below_cell j7 q2
  replace lB := Nat.lt_of_lt_of_le lB j7.size
  replace i1 := i1.below j7
  replace i2 := i2.below j7
  replace s3 := s3.below j7
  replace o3 := o3.below j7
  clear s3 o3
  go_wp2_with fail
  go_at_call 24
  refine (fault_eq a c ar cr p _ 0 HE hs hr SM).mono ?_
  rintro e w8 ⟨rfl, b8⟩
  have j8 : Below w7.heap.size w7 w8 := by (repeat (first | exact Below.refl _ _ | refine Below.alloc ?_ (by first | omega | (simp; done) | (simp; omega)) _ | refine Below.drew ?_ | refine Below.setCell ?_ (by first | omega | (simp; done) | (simp; omega)) _ | refine Below.trans ?_ (Below.mono (by assumption) (by first | omega | (simp; done) | (simp; omega)))))
  have t8 : Below w.heap.size w w8 := t7.trans (j8.mono t7.size)
  replace hs := hs.below j8
  replace hr := hr.below j8
  replace q0 := below_cell j8 q0
  replace q1 := below_cell j8 q1
  replace q2 := below_cell j8 q2
  replace lB := Nat.lt_of_lt_of_le lB j8.size
  replace i1 := i1.below j8
  replace i2 := i2.below j8
  go_wp2_with fail
  go_loopw [10, 11] (fun v i wr => ∃ (k : Nat) (a' : Option Addr) (c' : Nat), k ≤ p.sends.length ∧ i = .int .i64 k ∧ v = .slice a' (sureF p k).length c' ∧ OwnL 3 1 w8.heap.size wr a' c' (sureF p k).length ((sureF p k).map (Value.int .i64)) ∧ Below w8.heap.size w8 wr) (fun _ i _ => p.sends.length - (intOf i).toNat)
  case atStart => exact ⟨0, none, 0, Nat.zero_le _, rfl, rfl, OwnL.nil _ _ _ _, Below.refl _ _⟩
  case round =>
    obtain ⟨k, a', c', hk, rfl, rfl, hown, hwr⟩ := hrel
    have hz := hwr.size
    replace q0 := below_cell hwr q0
    replace q1 := below_cell hwr q1
    replace q2 := below_cell hwr q2
    replace hs := hs.below hwr
    replace hr := hr.below hwr
    replace i1 := i1.below hwr
    replace i2 := i2.below hwr
    have lB := cell_ltK q0
    have lL := sureF_len p k
    have tw := t8.trans (hwr.mono t8.size)
    by_cases hlt : k < p.sends.length
    · have hltI : (k : Int) < (p.sends.length : Int) := by omega
      have hfin := fun X (h1 : IntsAt X a p.sends) (h2 : RoutesAt X ar p.routes) => refFinishes_any a c ar cr p k none [] 0 X h1 h2 (EntsAt.nil _ _) (by simp) HE.out hlt
      have hen := ends_fin HE.out hlt
      obtain ⟨F, hF⟩ : ∃ F, finS p [] (k + 1) = F := ⟨_, rfl⟩
      rw [hF] at hfin hen
      clear hF
      have hkO : k < (spansF p p.sends.length).length := by rw [Hn.out]; exact hlt
      obtain ⟨bO, offO, rfl, hbO, z0, z1⟩ := i1 k hkO
      rw [spansF_at] at z0 z1
      obtain ⟨⟨lo, hi⟩, hlh⟩ : ∃ x, spanAt p k = x := ⟨_, rfl⟩
      rw [hlh] at z0 z1 hen
      clear hlh hkO
      simp only at z0 z1
      have HEn := Lib.hid hen
      have hsu := fun X (h1 : IntsAt X a p.sends) (h2 : RoutesAt X ar p.routes) => refSure_any a c ar cr p k X h1 h2 HE.out hlt
      have Hsu := Lib.hid (sureF_succ p k)
      obtain ⟨B, hB⟩ : ∃ B, sureB p k = B := ⟨_, rfl⟩
      obtain ⟨L, hL⟩ : ∃ L, sureF p k = L := ⟨_, rfl⟩
      rw [hB] at hsu Hsu
      rw [hL] at hown lL Hsu ⊢
      clear hB hL hen
      go_wp2_with fail
      go_at_call 36
      refine (hfin _ (hs.below (by (repeat (first | exact Below.refl _ _ | refine Below.alloc ?_ (by first | omega | (simp; done) | (simp; omega)) _ | refine Below.drew ?_ | refine Below.setCell ?_ (by first | omega | (simp; done) | (simp; omega)) _ | refine Below.trans ?_ (Below.mono (by assumption) (by first | omega | (simp; done) | (simp; omega))))))) (hr.below (by (repeat (first | exact Below.refl _ _ | refine Below.alloc ?_ (by first | omega | (simp; done) | (simp; omega)) _ | refine Below.drew ?_ | refine Below.setCell ?_ (by first | omega | (simp; done) | (simp; omega)) _ | refine Below.trans ?_ (Below.mono (by assumption) (by first | omega | (simp; done) | (simp; omega)))))))).mono ?_
      rintro e x1 ⟨rfl, b1⟩
      have j1 : Below wr.heap.size wr x1 := by (repeat (first | exact Below.refl _ _ | refine Below.alloc ?_ (by first | omega | (simp; done) | (simp; omega)) _ | refine Below.drew ?_ | refine Below.setCell ?_ (by first | omega | (simp; done) | (simp; omega)) _ | refine Below.trans ?_ (Below.mono (by assumption) (by first | omega | (simp; done) | (simp; omega)))))
      go_wp2_with fail
      go_at_call 35
      refine (refEnds_eq F lo hi HEn _).mono ?_
      rintro e x2 ⟨rfl, b2⟩
      have j2 : Below x1.heap.size x1 x2 := by (repeat (first | exact Below.refl _ _ | refine Below.alloc ?_ (by first | omega | (simp; done) | (simp; omega)) _ | refine Below.drew ?_ | refine Below.setCell ?_ (by first | omega | (simp; done) | (simp; omega)) _ | refine Below.trans ?_ (Below.mono (by assumption) (by first | omega | (simp; done) | (simp; omega)))))
      replace j2 := j1.trans (j2.mono j1.size)
      clear j1 b1 b2 hfin HEn
      go_wp2_with fail
      obtain ⟨X3, hX3⟩ : ∃ z : World, z = x2.alloc (.cells #[.int .i64 lo, .int .i64 hi] 64) := ⟨_, rfl⟩
      have j3 : Below wr.heap.size wr X3 := by rw [hX3]; exact j2.alloc j2.size _
      have y0 : X3.cell? ⟨x2.heap.size, 0, none⟩ = some (.int .i64 lo) := by rw [hX3]; exact (Cells.new _ _ _).cell 0
      have y1 : X3.cell? ⟨x2.heap.size, 1, none⟩ = some (.int .i64 hi) := by rw [hX3]; exact (Cells.new _ _ _).cell 1
      rw [← hX3]
      clear hX3
      replace z0 := below_cell j3 z0
      replace z1 := below_cell j3 z1
      have hbO3 : bO < X3.heap.size := cell_ltK z0
      have hbY3 := cell_ltK y0
      replace q0 := below_cell j3 q0
      replace q1 := below_cell j3 q1
      replace q2 := below_cell j3 q2
      have lB3 := cell_ltK q0
      have hown3 := hown.kept j3
      have z3 := j3.size
      replace hs := hs.below j3
      replace hr := hr.below j3
      (refine wp_region_ext 7 (by kernel_rfl) (by kernel_rfl) ?_; simp only [List.take_succ_cons, List.take_zero, List.drop_succ_cons, List.drop_zero]; (repeat (go_big_quiet_step (((go_at_call 37; refine Calls_ext (to_any lo hi _)))))); refine wpQuiet_nil ?_; rintro _ ⟨ex, rfl⟩; have hex := ex.below; have hexz := ex.size; (try simp at hexz); (try (have hy0 : w.heap.size < ex.to.heap.size := by omega)); (try (have hy1 : w.heap.size + 1 < ex.to.heap.size := by omega)); (try (have hy2 : w.heap.size + 2 < ex.to.heap.size := by omega)))
      replace q0 := below_cell ex.below q0
      replace q1 := below_cell ex.below q1
      replace q2 := below_cell ex.below q2
      replace lB3 := cell_ltK q0
      replace hown3 := hown3.kept ex.below
      replace hs := hs.below ex.below
      replace hr := hr.below ex.below
      have j4 := j3.trans (ex.below.mono j3.size)
      have z4 := j4.size
      cases B
      · go_wp2_with fail
        go_at_call 38
        refine (hsu _ (hs.below (by (repeat (first | exact Below.refl _ _ | refine Below.alloc ?_ (by first | omega | (simp; done) | (simp; omega)) _ | refine Below.drew ?_ | refine Below.setCell ?_ (by first | omega | (simp; done) | (simp; omega)) _ | refine Below.trans ?_ (Below.mono (by assumption) (by first | omega | (simp; done) | (simp; omega))))))) (hr.below (by (repeat (first | exact Below.refl _ _ | refine Below.alloc ?_ (by first | omega | (simp; done) | (simp; omega)) _ | refine Below.drew ?_ | refine Below.setCell ?_ (by first | omega | (simp; done) | (simp; omega)) _ | refine Below.trans ?_ (Below.mono (by assumption) (by first | omega | (simp; done) | (simp; omega)))))))).mono ?_
        rintro e x5 ⟨rfl, b5⟩
        go_wp2_with fail
        go_roundw
        case rel => exact ⟨k + 1, a', c', by omega, by go_num, by rw [Hsu.out]; simp, by rw [Hsu.out]; simpa using hown3.kept b5, hwr.trans ((j4.trans (b5.mono z4)).mono hz)⟩
        case measure => simp [intOf]; omega
      · go_wp2_with fail
        go_at_call 38
        refine (hsu _ (hs.below (by (repeat (first | exact Below.refl _ _ | refine Below.alloc ?_ (by first | omega | (simp; done) | (simp; omega)) _ | refine Below.drew ?_ | refine Below.setCell ?_ (by first | omega | (simp; done) | (simp; omega)) _ | refine Below.trans ?_ (Below.mono (by assumption) (by first | omega | (simp; done) | (simp; omega))))))) (hr.below (by (repeat (first | exact Below.refl _ _ | refine Below.alloc ?_ (by first | omega | (simp; done) | (simp; omega)) _ | refine Below.drew ?_ | refine Below.setCell ?_ (by first | omega | (simp; done) | (simp; omega)) _ | refine Below.trans ?_ (Below.mono (by assumption) (by first | omega | (simp; done) | (simp; omega)))))))).mono ?_
        rintro e x5 ⟨rfl, b5⟩
        have hown5 := hown3.kept b5
        have z5 := b5.size
        go_wp2_with (at_builtin; refine wpList_app_lit elInt rfl _ _ rfl w8.heap.size a' L.length c' _ rfl hown5 1 1 rfl rfl (fun u hu => by simp at hu; subst hu; rfl) (by unfold maxLen; omega) (by omega) (by omega) ?_; intro a7 c7 w7 hown7 hb7)
        go_roundw
        case rel => exact ⟨k + 1, a7, c7, by omega, by go_num, by rw [Hsu.out]; simp, by rw [Hsu.out]; simpa using hown7, (hwr.trans ((j4.trans (b5.mono z4)).mono hz)).trans hb7⟩
        case measure => simp [intOf]; omega
    · obtain rfl : k = p.sends.length := by omega
      have iD := hown.ints.1
      rw [HSe.out] at iD ⊢
      rw [Hns.out]
      clear hown
      go_wp2_with fail
      go_at_call 39
      refine (hle _ (hs.below (by (repeat (first | exact Below.refl _ _ | refine Below.alloc ?_ (by first | omega | (simp; done) | (simp; omega)) _ | refine Below.drew ?_ | refine Below.setCell ?_ (by first | omega | (simp; done) | (simp; omega)) _ | refine Below.trans ?_ (Below.mono (by assumption) (by first | omega | (simp; done) | (simp; omega))))))) (hr.below (by (repeat (first | exact Below.refl _ _ | refine Below.alloc ?_ (by first | omega | (simp; done) | (simp; omega)) _ | refine Below.drew ?_ | refine Below.setCell ?_ (by first | omega | (simp; done) | (simp; omega)) _ | refine Below.trans ?_ (Below.mono (by assumption) (by first | omega | (simp; done) | (simp; omega)))))))).mono ?_
      rintro e x1 ⟨rfl, b1⟩
      have i2' := i2.below b1
      have iD' := iD.below b1
      go_wp2_with fail
      go_at_call 31
      refine (ints_eq e2 S ns f2 Hns.out a' c' _ i2' iD' lns).mono ?_
      rintro e x2 ⟨rfl, b2⟩
      go_wp2_with fail
      go_at_call 19
      refine (awake_any _).mono ?_
      rintro e x3 ⟨rfl, b3⟩
      go_wp2_with fail
      go_ret
      have y1 := tw.trans (b1.mono tw.size)
      have y2 := y1.trans (b2.mono y1.size)
      exact ⟨rfl, y2.trans (b3.mono y2.size)⟩

set_option maxRecDepth 100000 in
set_option maxHeartbeats 4000000 in
theorem spans_a4 (a : Option Addr) (c : Nat) (ar : Option Addr) (cr : Nat) (p : Post) (w : World) (hs : IntsAt w a p.sends) (hr : RoutesAt w ar p.routes) (na : a = none → c = 0) (big : PostBig p) (hT : thinB p = true) (hE : postErr p = 0) (m : Nat) (hm : m ≤ 30) (hl : leastF p = some m) :
    Calls Try.prog 5 #[.agg #[.slice a p.sends.length c, .slice ar p.routes.length cr, .int .i64 p.pat]] w fun e w' => e = .returned (.bool true) ∧ Below w.heap.size w w' := by

  have HB := Lib.hid big
  have HT := Lib.hid hT
  have SM := Lib.hid (thin_small hT)
  have lS : p.sends.length ≤ 1000 := SM.out.1
  have lR : p.routes.length ≤ 1000 := SM.out.2
  have HE := Lib.hid hE
  have hlo : leastErr p = 0 ∧ leastOut p = (m : Int) ∧ lrF p = (m : Int) := by
    refine ⟨?_, ?_, ?_⟩
    · unfold leastErr; rw [if_neg (by simpa using hE), hl]; rfl
    · unfold leastOut; rw [if_neg (by simpa using hE), hl]; rfl
    · unfold lrF; rw [hl]
  have HLE := Lib.hid hlo.1
  have HLO := Lib.hid hlo.2.1
  have HLR := Lib.hid hlo.2.2
  have hle := fun X (h1 : IntsAt X a p.sends) (h2 : RoutesAt X ar p.routes) => refLeast_any a c ar cr p X h1 h2 HE.out
  rw [hlo.2.2] at hle
  have hSe : sureOut p = sureF p p.sends.length := by unfold sureOut; rw [if_pos hE]
  have HOe : Hid (spansOut p = spansF p p.sends.length) := Lib.hid (by unfold spansOut; rw [if_pos hE])
  have Hn : Hid ((spansF p p.sends.length).length = p.sends.length) := Lib.hid (spansF_len p _)
  obtain ⟨S, hS⟩ : ∃ S, sureOut p = S := ⟨_, rfl⟩
  obtain ⟨ns, hns⟩ : ∃ n, S.length = n := ⟨_, rfl⟩
  have lns : ns ≤ 1000 := by rw [← hns, ← hS, hSe]; have := sureF_len p p.sends.length; omega
  have HS := Lib.hid hS
  have Hns := Lib.hid hns
  have HSe : Hid (sureF p p.sends.length = S) := Lib.hid (by rw [← hSe, hS])
  have HO := HOe
  clear hT big hE hlo hSe hS hns hl
  go_enter Try.func5, Try.ntmps5
  go_wp2_with fail
  go_at_call 17
  refine (thin_eq a c ar cr p _ true HT (hr.below (by (repeat (first | exact Below.refl _ _ | refine Below.alloc ?_ (by first | omega | (simp; done) | (simp; omega)) _ | refine Below.drew ?_ | refine Below.setCell ?_ (by first | omega | (simp; done) | (simp; omega)) _ | refine Below.trans ?_ (Below.mono (by assumption) (by first | omega | (simp; done) | (simp; omega))))))) HB.out).mono ?_
  rintro e w1 ⟨rfl, b1⟩
  have t1 : Below w.heap.size w w1 := by (repeat (first | exact Below.refl _ _ | refine Below.alloc ?_ (by first | omega | (simp; done) | (simp; omega)) _ | refine Below.drew ?_ | refine Below.setCell ?_ (by first | omega | (simp; done) | (simp; omega)) _ | refine Below.trans ?_ (Below.mono (by assumption) (by first | omega | (simp; done) | (simp; omega)))))
  replace hs := hs.below t1
  replace hr := hr.below t1
  have q0 := box_cells b1 0 rfl
  have q1 := box_cells b1 1 rfl
  have q2 := box_cells b1 2 rfl
  have lB := cell_ltK q0
  go_wp2_with fail
  go_at_call 21
  refine (post_eq a c ar cr p _ hs hr SM na).mono ?_
  rintro e w2 ⟨⟨a1, c1, r1, d1, rfl, s1, o1⟩, b2⟩
  have j2 : Below w1.heap.size w1 w2 := by (repeat (first | exact Below.refl _ _ | refine Below.alloc ?_ (by first | omega | (simp; done) | (simp; omega)) _ | refine Below.drew ?_ | refine Below.setCell ?_ (by first | omega | (simp; done) | (simp; omega)) _ | refine Below.trans ?_ (Below.mono (by assumption) (by first | omega | (simp; done) | (simp; omega)))))
  have t2 : Below w.heap.size w w2 := t1.trans (j2.mono t1.size)
  replace hs := hs.below j2
  replace hr := hr.below j2
  replace q0 := below_cell j2 q0
  replace q1 := below_cell j2 q1
  replace q2 := below_cell j2 q2
  replace lB := Nat.lt_of_lt_of_le lB j2.size
  go_wp2_with fail
  go_at_call 32
  refine (spans_eq a1 c1 r1 d1 p _ 0 (spansF p p.sends.length) p.sends.length HE HO Hn s1 o1 SM).mono ?_
  rintro e w3 ⟨⟨e1, f1, rfl, i1⟩, b3⟩
  have j3 : Below w2.heap.size w2 w3 := by (repeat (first | exact Below.refl _ _ | refine Below.alloc ?_ (by first | omega | (simp; done) | (simp; omega)) _ | refine Below.drew ?_ | refine Below.setCell ?_ (by first | omega | (simp; done) | (simp; omega)) _ | refine Below.trans ?_ (Below.mono (by assumption) (by first | omega | (simp; done) | (simp; omega)))))
  have t3 : Below w.heap.size w w3 := t2.trans (j3.mono t2.size)
  replace hs := hs.below j3
  replace hr := hr.below j3
  replace q0 := below_cell j3 q0
  replace q1 := below_cell j3 q1
  replace q2 := below_cell j3 q2
  replace lB := Nat.lt_of_lt_of_le lB j3.size
  replace s1 := s1.below j3
  replace o1 := o1.below j3
  clear s1 o1
  go_wp2_with fail
  go_at_call 21
  refine (post_eq a c ar cr p _ hs hr SM na).mono ?_
  rintro e w4 ⟨⟨a2, c2, r2, d2, rfl, s2, o2⟩, b4⟩
  have j4 : Below w3.heap.size w3 w4 := by (repeat (first | exact Below.refl _ _ | refine Below.alloc ?_ (by first | omega | (simp; done) | (simp; omega)) _ | refine Below.drew ?_ | refine Below.setCell ?_ (by first | omega | (simp; done) | (simp; omega)) _ | refine Below.trans ?_ (Below.mono (by assumption) (by first | omega | (simp; done) | (simp; omega)))))
  have t4 : Below w.heap.size w w4 := t3.trans (j4.mono t3.size)
  replace hs := hs.below j4
  replace hr := hr.below j4
  replace q0 := below_cell j4 q0
  replace q1 := below_cell j4 q1
  replace q2 := below_cell j4 q2
  replace lB := Nat.lt_of_lt_of_le lB j4.size
  replace i1 := i1.below j4
  go_wp2_with fail
  go_at_call 33
  refine (sure_eq a2 c2 r2 d2 p _ 0 S ns HE HS Hns s2 o2 SM).mono ?_
  rintro e w5 ⟨⟨e2, f2, rfl, i2⟩, b5⟩
  have j5 : Below w4.heap.size w4 w5 := by (repeat (first | exact Below.refl _ _ | refine Below.alloc ?_ (by first | omega | (simp; done) | (simp; omega)) _ | refine Below.drew ?_ | refine Below.setCell ?_ (by first | omega | (simp; done) | (simp; omega)) _ | refine Below.trans ?_ (Below.mono (by assumption) (by first | omega | (simp; done) | (simp; omega)))))
  have t5 : Below w.heap.size w w5 := t4.trans (j5.mono t4.size)
  replace hs := hs.below j5
  replace hr := hr.below j5
  replace q0 := below_cell j5 q0
  replace q1 := below_cell j5 q1
  replace q2 := below_cell j5 q2
  replace lB := Nat.lt_of_lt_of_le lB j5.size
  replace i1 := i1.below j5
  replace s2 := s2.below j5
  replace o2 := o2.below j5
  clear s2 o2
  go_wp2_with fail
  go_at_call 21
  refine (post_eq a c ar cr p _ hs hr SM na).mono ?_
  rintro e w6 ⟨⟨a3, c3, r3, d3, rfl, s3, o3⟩, b6⟩
  have j6 : Below w5.heap.size w5 w6 := by (repeat (first | exact Below.refl _ _ | refine Below.alloc ?_ (by first | omega | (simp; done) | (simp; omega)) _ | refine Below.drew ?_ | refine Below.setCell ?_ (by first | omega | (simp; done) | (simp; omega)) _ | refine Below.trans ?_ (Below.mono (by assumption) (by first | omega | (simp; done) | (simp; omega)))))
  have t6 : Below w.heap.size w w6 := t5.trans (j6.mono t5.size)
  replace hs := hs.below j6
  replace hr := hr.below j6
  replace q0 := below_cell j6 q0
  replace q1 := below_cell j6 q1
  replace q2 := below_cell j6 q2
  replace lB := Nat.lt_of_lt_of_le lB j6.size
  replace i1 := i1.below j6
  replace i2 := i2.below j6
  go_wp2_with fail
  go_at_call 34
  refine (least_eq a3 c3 r3 d3 p _ 0 (m : Int) HLE HLO s3 o3 SM).mono ?_
  rintro e w7 ⟨rfl, b7⟩
  have j7 : Below w6.heap.size w6 w7 := by (repeat (first | exact Below.refl _ _ | refine Below.alloc ?_ (by first | omega | (simp; done) | (simp; omega)) _ | refine Below.drew ?_ | refine Below.setCell ?_ (by first | omega | (simp; done) | (simp; omega)) _ | refine Below.trans ?_ (Below.mono (by assumption) (by first | omega | (simp; done) | (simp; omega)))))
  have t7 : Below w.heap.size w w7 := t6.trans (j7.mono t6.size)
  replace hs := hs.below j7
  replace hr := hr.below j7
  replace q0 := below_cell j7 q0
  replace q1 := below_cell j7 q1
  replace q2 := below_cell j7 q2
  replace lB := Nat.lt_of_lt_of_le lB j7.size
  replace i1 := i1.below j7
  replace i2 := i2.below j7
  replace s3 := s3.below j7
  replace o3 := o3.below j7
  clear s3 o3
  go_wp2_with fail
  go_at_call 24
  refine (fault_eq a c ar cr p _ 0 HE hs hr SM).mono ?_
  rintro e w8 ⟨rfl, b8⟩
  have j8 : Below w7.heap.size w7 w8 := by (repeat (first | exact Below.refl _ _ | refine Below.alloc ?_ (by first | omega | (simp; done) | (simp; omega)) _ | refine Below.drew ?_ | refine Below.setCell ?_ (by first | omega | (simp; done) | (simp; omega)) _ | refine Below.trans ?_ (Below.mono (by assumption) (by first | omega | (simp; done) | (simp; omega)))))
  have t8 : Below w.heap.size w w8 := t7.trans (j8.mono t7.size)
  replace hs := hs.below j8
  replace hr := hr.below j8
  replace q0 := below_cell j8 q0
  replace q1 := below_cell j8 q1
  replace q2 := below_cell j8 q2
  replace lB := Nat.lt_of_lt_of_le lB j8.size
  replace i1 := i1.below j8
  replace i2 := i2.below j8
  go_wp2_with fail
  go_loopw [10, 11] (fun v i wr => ∃ (k : Nat) (a' : Option Addr) (c' : Nat), k ≤ p.sends.length ∧ i = .int .i64 k ∧ v = .slice a' (sureF p k).length c' ∧ OwnL 3 1 w8.heap.size wr a' c' (sureF p k).length ((sureF p k).map (Value.int .i64)) ∧ Below w8.heap.size w8 wr) (fun _ i _ => p.sends.length - (intOf i).toNat)
  case atStart => exact ⟨0, none, 0, Nat.zero_le _, rfl, rfl, OwnL.nil _ _ _ _, Below.refl _ _⟩
  case round =>
    obtain ⟨k, a', c', hk, rfl, rfl, hown, hwr⟩ := hrel
    have hz := hwr.size
    replace q0 := below_cell hwr q0
    replace q1 := below_cell hwr q1
    replace q2 := below_cell hwr q2
    replace hs := hs.below hwr
    replace hr := hr.below hwr
    replace i1 := i1.below hwr
    replace i2 := i2.below hwr
    have lB := cell_ltK q0
    have lL := sureF_len p k
    have tw := t8.trans (hwr.mono t8.size)
    by_cases hlt : k < p.sends.length
    · have hltI : (k : Int) < (p.sends.length : Int) := by omega
      have hfin := fun X (h1 : IntsAt X a p.sends) (h2 : RoutesAt X ar p.routes) => refFinishes_any a c ar cr p k none [] 0 X h1 h2 (EntsAt.nil _ _) (by simp) HE.out hlt
      have hen := ends_fin HE.out hlt
      obtain ⟨F, hF⟩ : ∃ F, finS p [] (k + 1) = F := ⟨_, rfl⟩
      rw [hF] at hfin hen
      clear hF
      have hkO : k < (spansF p p.sends.length).length := by rw [Hn.out]; exact hlt
      obtain ⟨bO, offO, rfl, hbO, z0, z1⟩ := i1 k hkO
      rw [spansF_at] at z0 z1
      obtain ⟨⟨lo, hi⟩, hlh⟩ : ∃ x, spanAt p k = x := ⟨_, rfl⟩
      rw [hlh] at z0 z1 hen
      clear hlh hkO
      simp only at z0 z1
      have HEn := Lib.hid hen
      have hsu := fun X (h1 : IntsAt X a p.sends) (h2 : RoutesAt X ar p.routes) => refSure_any a c ar cr p k X h1 h2 HE.out hlt
      have Hsu := Lib.hid (sureF_succ p k)
      obtain ⟨B, hB⟩ : ∃ B, sureB p k = B := ⟨_, rfl⟩
      obtain ⟨L, hL⟩ : ∃ L, sureF p k = L := ⟨_, rfl⟩
      rw [hB] at hsu Hsu
      rw [hL] at hown lL Hsu ⊢
      clear hB hL hen
      go_wp2_with fail
      go_at_call 36
      refine (hfin _ (hs.below (by (repeat (first | exact Below.refl _ _ | refine Below.alloc ?_ (by first | omega | (simp; done) | (simp; omega)) _ | refine Below.drew ?_ | refine Below.setCell ?_ (by first | omega | (simp; done) | (simp; omega)) _ | refine Below.trans ?_ (Below.mono (by assumption) (by first | omega | (simp; done) | (simp; omega))))))) (hr.below (by (repeat (first | exact Below.refl _ _ | refine Below.alloc ?_ (by first | omega | (simp; done) | (simp; omega)) _ | refine Below.drew ?_ | refine Below.setCell ?_ (by first | omega | (simp; done) | (simp; omega)) _ | refine Below.trans ?_ (Below.mono (by assumption) (by first | omega | (simp; done) | (simp; omega)))))))).mono ?_
      rintro e x1 ⟨rfl, b1⟩
      have j1 : Below wr.heap.size wr x1 := by (repeat (first | exact Below.refl _ _ | refine Below.alloc ?_ (by first | omega | (simp; done) | (simp; omega)) _ | refine Below.drew ?_ | refine Below.setCell ?_ (by first | omega | (simp; done) | (simp; omega)) _ | refine Below.trans ?_ (Below.mono (by assumption) (by first | omega | (simp; done) | (simp; omega)))))
      go_wp2_with fail
      go_at_call 35
      refine (refEnds_eq F lo hi HEn _).mono ?_
      rintro e x2 ⟨rfl, b2⟩
      have j2 : Below x1.heap.size x1 x2 := by (repeat (first | exact Below.refl _ _ | refine Below.alloc ?_ (by first | omega | (simp; done) | (simp; omega)) _ | refine Below.drew ?_ | refine Below.setCell ?_ (by first | omega | (simp; done) | (simp; omega)) _ | refine Below.trans ?_ (Below.mono (by assumption) (by first | omega | (simp; done) | (simp; omega)))))
      replace j2 := j1.trans (j2.mono j1.size)
      clear j1 b1 b2 hfin HEn
      go_wp2_with fail
      obtain ⟨X3, hX3⟩ : ∃ z : World, z = x2.alloc (.cells #[.int .i64 lo, .int .i64 hi] 64) := ⟨_, rfl⟩
      have j3 : Below wr.heap.size wr X3 := by rw [hX3]; exact j2.alloc j2.size _
      have y0 : X3.cell? ⟨x2.heap.size, 0, none⟩ = some (.int .i64 lo) := by rw [hX3]; exact (Cells.new _ _ _).cell 0
      have y1 : X3.cell? ⟨x2.heap.size, 1, none⟩ = some (.int .i64 hi) := by rw [hX3]; exact (Cells.new _ _ _).cell 1
      rw [← hX3]
      clear hX3
      replace z0 := below_cell j3 z0
      replace z1 := below_cell j3 z1
      have hbO3 : bO < X3.heap.size := cell_ltK z0
      have hbY3 := cell_ltK y0
      replace q0 := below_cell j3 q0
      replace q1 := below_cell j3 q1
      replace q2 := below_cell j3 q2
      have lB3 := cell_ltK q0
      have hown3 := hown.kept j3
      have z3 := j3.size
      replace hs := hs.below j3
      replace hr := hr.below j3
      (refine wp_region_ext 7 (by kernel_rfl) (by kernel_rfl) ?_; simp only [List.take_succ_cons, List.take_zero, List.drop_succ_cons, List.drop_zero]; (repeat (go_big_quiet_step (((go_at_call 37; refine Calls_ext (to_any lo hi _)))))); refine wpQuiet_nil ?_; rintro _ ⟨ex, rfl⟩; have hex := ex.below; have hexz := ex.size; (try simp at hexz); (try (have hy0 : w.heap.size < ex.to.heap.size := by omega)); (try (have hy1 : w.heap.size + 1 < ex.to.heap.size := by omega)); (try (have hy2 : w.heap.size + 2 < ex.to.heap.size := by omega)))
      replace q0 := below_cell ex.below q0
      replace q1 := below_cell ex.below q1
      replace q2 := below_cell ex.below q2
      replace lB3 := cell_ltK q0
      replace hown3 := hown3.kept ex.below
      replace hs := hs.below ex.below
      replace hr := hr.below ex.below
      have j4 := j3.trans (ex.below.mono j3.size)
      have z4 := j4.size
      cases B
      · go_wp2_with fail
        go_at_call 38
        refine (hsu _ (hs.below (by (repeat (first | exact Below.refl _ _ | refine Below.alloc ?_ (by first | omega | (simp; done) | (simp; omega)) _ | refine Below.drew ?_ | refine Below.setCell ?_ (by first | omega | (simp; done) | (simp; omega)) _ | refine Below.trans ?_ (Below.mono (by assumption) (by first | omega | (simp; done) | (simp; omega))))))) (hr.below (by (repeat (first | exact Below.refl _ _ | refine Below.alloc ?_ (by first | omega | (simp; done) | (simp; omega)) _ | refine Below.drew ?_ | refine Below.setCell ?_ (by first | omega | (simp; done) | (simp; omega)) _ | refine Below.trans ?_ (Below.mono (by assumption) (by first | omega | (simp; done) | (simp; omega)))))))).mono ?_
        rintro e x5 ⟨rfl, b5⟩
        go_wp2_with fail
        go_roundw
        case rel => exact ⟨k + 1, a', c', by omega, by go_num, by rw [Hsu.out]; simp, by rw [Hsu.out]; simpa using hown3.kept b5, hwr.trans ((j4.trans (b5.mono z4)).mono hz)⟩
        case measure => simp [intOf]; omega
      · go_wp2_with fail
        go_at_call 38
        refine (hsu _ (hs.below (by (repeat (first | exact Below.refl _ _ | refine Below.alloc ?_ (by first | omega | (simp; done) | (simp; omega)) _ | refine Below.drew ?_ | refine Below.setCell ?_ (by first | omega | (simp; done) | (simp; omega)) _ | refine Below.trans ?_ (Below.mono (by assumption) (by first | omega | (simp; done) | (simp; omega))))))) (hr.below (by (repeat (first | exact Below.refl _ _ | refine Below.alloc ?_ (by first | omega | (simp; done) | (simp; omega)) _ | refine Below.drew ?_ | refine Below.setCell ?_ (by first | omega | (simp; done) | (simp; omega)) _ | refine Below.trans ?_ (Below.mono (by assumption) (by first | omega | (simp; done) | (simp; omega)))))))).mono ?_
        rintro e x5 ⟨rfl, b5⟩
        have hown5 := hown3.kept b5
        have z5 := b5.size
        go_wp2_with (at_builtin; refine wpList_app_lit elInt rfl _ _ rfl w8.heap.size a' L.length c' _ rfl hown5 1 1 rfl rfl (fun u hu => by simp at hu; subst hu; rfl) (by unfold maxLen; omega) (by omega) (by omega) ?_; intro a7 c7 w7 hown7 hb7)
        go_roundw
        case rel => exact ⟨k + 1, a7, c7, by omega, by go_num, by rw [Hsu.out]; simp, by rw [Hsu.out]; simpa using hown7, (hwr.trans ((j4.trans (b5.mono z4)).mono hz)).trans hb7⟩
        case measure => simp [intOf]; omega
    · obtain rfl : k = p.sends.length := by omega
      have iD := hown.ints.1
      rw [HSe.out] at iD ⊢
      rw [Hns.out]
      clear hown
      go_wp2_with fail
      go_at_call 39
      refine (hle _ (hs.below (by (repeat (first | exact Below.refl _ _ | refine Below.alloc ?_ (by first | omega | (simp; done) | (simp; omega)) _ | refine Below.drew ?_ | refine Below.setCell ?_ (by first | omega | (simp; done) | (simp; omega)) _ | refine Below.trans ?_ (Below.mono (by assumption) (by first | omega | (simp; done) | (simp; omega))))))) (hr.below (by (repeat (first | exact Below.refl _ _ | refine Below.alloc ?_ (by first | omega | (simp; done) | (simp; omega)) _ | refine Below.drew ?_ | refine Below.setCell ?_ (by first | omega | (simp; done) | (simp; omega)) _ | refine Below.trans ?_ (Below.mono (by assumption) (by first | omega | (simp; done) | (simp; omega)))))))).mono ?_
      rintro e x1 ⟨rfl, b1⟩
      have i2' := i2.below b1
      have iD' := iD.below b1
      go_wp2_with fail
      go_at_call 31
      refine (ints_eq e2 S ns f2 Hns.out a' c' _ i2' iD' lns).mono ?_
      rintro e x2 ⟨rfl, b2⟩
      go_wp2_with fail
      go_at_call 19
      refine (awake_any _).mono ?_
      rintro e x3 ⟨rfl, b3⟩
      go_wp2_with fail
      go_ret
      have y1 := tw.trans (b1.mono tw.size)
      have y2 := y1.trans (b2.mono y1.size)
      exact ⟨rfl, y2.trans (b3.mono y2.size)⟩

theorem spans_walk (a : Option Addr) (c : Nat) (ar : Option Addr) (cr : Nat) (p : Post) (w : World) (hs : IntsAt w a p.sends) (hr : RoutesAt w ar p.routes) (na : a = none → c = 0) (big : PostBig p) :
    Calls Try.prog 5 #[.agg #[.slice a p.sends.length c, .slice ar p.routes.length cr, .int .i64 p.pat]] w fun e w' => e = .returned (.bool true) ∧ Below w.heap.size w w' := by
  cases hT : thinB p
  · exact spans_a1 a c ar cr p w hs hr na big hT
  · by_cases hE : postErr p = 0
    · cases hl : leastF p with
      | none => exact spans_a3 a c ar cr p w hs hr na big hT hE hl
      | some m => exact spans_a4 a c ar cr p w hs hr na big hT hE m (by have := List.mem_range.1 (List.mem_of_find?_eq_some hl); omega) hl
    · exact spans_a2 a c ar cr p w hs hr na big hT hE
end Go.Proofs.Ytfclemnkcpadpaa
