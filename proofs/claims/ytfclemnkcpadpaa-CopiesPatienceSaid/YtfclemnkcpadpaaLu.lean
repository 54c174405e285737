/- CopiesPatience: the walk -/
import Derived.Test.YtfclemnkcpadpaaSj
import Derived.Test.YtfclemnkcpadpaaSd
namespace Go.Proofs.Ytfclemnkcpadpaa
set_option linter.unusedVariables false
set_option linter.unusedSimpArgs false
set_option linter.unnecessarySimpa false
open Go.RowKit Go.Flow Go.Shelf

set_option maxRecDepth 100000 in
set_option maxHeartbeats 8000000 in
theorem pat_a1 (a : Option Addr) (c : Nat) (ar : Option Addr) (cr : Nat) (p : Post) (aw : Option Addr) (ws : List Int) (cw : Nat) (y : Int) (w : World) (hs : IntsAt w a p.sends) (hr : RoutesAt w ar p.routes) (na : a = none → c = 0) (big : PostBig p) (hw : U16At w aw ws) (_ : aw = none → cw = 0) (lw0 : ws.length ≤ cw) (lw1 : cw ≤ maxLen) (hu : U16s ws) (hy : (Lit.int .u8 y).wf = true) (hT : readyB p = false) :
    Calls Try.prog 9 #[.agg #[.slice a p.sends.length c, .slice ar p.routes.length cr, .int .i64 p.pat], .slice aw ws.length cw, .int .u8 y] w fun e w' => e = .returned (.bool true) ∧ Below w.heap.size w w' := by

  have HB := Lib.hid big
  have HT := Lib.hid hT
  clear hT big
  go_enter Try.func9, Try.ntmps9
  go_wp2_with fail
  go_at_call 44
  refine (ready_eq a c ar cr p _ false HT (hs.below (by (repeat (first | exact Below.refl _ _ | refine Below.alloc ?_ (by first | omega | (simp; done) | (simp; omega)) _ | refine Below.drew ?_ | refine Below.setCell ?_ (by first | omega | (simp; done) | (simp; omega)) _ | refine Below.trans ?_ (Below.mono (by assumption) (by first | omega | (simp; done) | (simp; omega))))))) (hr.below (by (repeat (first | exact Below.refl _ _ | refine Below.alloc ?_ (by first | omega | (simp; done) | (simp; omega)) _ | refine Below.drew ?_ | refine Below.setCell ?_ (by first | omega | (simp; done) | (simp; omega)) _ | refine Below.trans ?_ (Below.mono (by assumption) (by first | omega | (simp; done) | (simp; omega))))))) HB.out).mono ?_
  rintro e w1 ⟨rfl, b1⟩
  have t1 : Below w.heap.size w w1 := by (repeat (first | exact Below.refl _ _ | refine Below.alloc ?_ (by first | omega | (simp; done) | (simp; omega)) _ | refine Below.drew ?_ | refine Below.setCell ?_ (by first | omega | (simp; done) | (simp; omega)) _ | refine Below.trans ?_ (Below.mono (by assumption) (by first | omega | (simp; done) | (simp; omega)))))
  replace hs := hs.below t1
  replace hr := hr.below t1
  replace hw := hw.below t1
  have q0 := box_cells b1 0 rfl
  have q1 := box_cells b1 1 rfl
  have q2 := box_cells b1 2 rfl
  have lB := cell_ltK q0
  go_wp2_with fail
  go_at_call 19
  refine (awake_any _).mono ?_
  rintro e w2 ⟨rfl, b2⟩
  have j2 : Below w1.heap.size w1 w2 := by (repeat (first | exact Below.refl _ _ | refine Below.alloc ?_ (by first | omega | (simp; done) | (simp; omega)) _ | refine Below.drew ?_ | refine Below.setCell ?_ (by first | omega | (simp; done) | (simp; omega)) _ | refine Below.trans ?_ (Below.mono (by assumption) (by first | omega | (simp; done) | (simp; omega)))))
  have t2 : Below w.heap.size w w2 := t1.trans (j2.mono t1.size)
  replace hs := hs.below j2
  replace hr := hr.below j2
  replace hw := hw.below j2
  replace q0 := below_cell j2 q0
  replace q1 := below_cell j2 q1
  replace q2 := below_cell j2 q2
  replace lB := Nat.lt_of_lt_of_le lB j2.size
  go_wp2_with fail
  go_ret
  exact ⟨rfl, t2⟩

set_option maxRecDepth 100000 in
set_option maxHeartbeats 8000000 in
theorem pat_a2 (a : Option Addr) (c : Nat) (ar : Option Addr) (cr : Nat) (p : Post) (aw : Option Addr) (ws : List Int) (cw : Nat) (y : Int) (w : World) (hs : IntsAt w a p.sends) (hr : RoutesAt w ar p.routes) (na : a = none → c = 0) (big : PostBig p) (hw : U16At w aw ws) (_ : aw = none → cw = 0) (lw0 : ws.length ≤ cw) (lw1 : cw ≤ maxLen) (hu : U16s ws) (hy : (Lit.int .u8 y).wf = true) (hT : readyB p = true) (d : Nat) (hd : y.toNat % 16 = d) (h30 : ¬ (30 ≤ p.pat + (d : Int))) :
    Calls Try.prog 9 #[.agg #[.slice a p.sends.length c, .slice ar p.routes.length cr, .int .i64 p.pat], .slice aw ws.length cw, .int .u8 y] w fun e w' => e = .returned (.bool true) ∧ Below w.heap.size w w' := by

  have HB := Lib.hid big
  have HT := Lib.hid hT
  have SM := Lib.hid (ready_small hT).1
  have HE := Lib.hid (ready_small hT).2
  have HU := Lib.hid hu
  have lS : p.sends.length ≤ 1000 := SM.out.1
  have lR : p.routes.length ≤ 1000 := SM.out.2
  have lw : ws.length ≤ 9223372036854775807 := by unfold maxLen at lw1; omega
  obtain ⟨m, rfl, hm⟩ := u8_bd hy
  have hrem : Int.tmod (m : Int) 16 = (d : Int) := by rw [← hd]; rfl
  have hd16 : d < 16 := by rw [← hd]; simp; omega
  have hpp := (post_hours HE.out).p
  have hwd : IntKind.i64.wrap (p.pat + (d : Int)) = p.pat + (d : Int) := IntWalk.i64_in _ (by omega)
  have hxb : 0 ≤ (p.pat + (d : Int)) ∧ (p.pat + (d : Int)) ≤ 30 ∧ p.pat ≤ (p.pat + (d : Int)) := by omega
  have HX : Hid (postErr (withPat p (p.pat + (d : Int))) = 0) := Lib.hid (postErr_pat HE.out (by omega) (by omega))
  have hsh := pkT_shape HE.out ws
  have hst := pkT_small HE.out ws
  have hlen := pkT_len p ws
  obtain ⟨t, ht⟩ : ∃ t, pkT p ws = t := ⟨_, rfl⟩
  rw [ht] at hsh hst hlen
  have HTt := Lib.hid ht
  have HtN := Lib.hid hlen
  have ST := Lib.hid hst
  have hE1 : playErr p t = 0 := by unfold playErr; rw [if_pos HE.out]; exact hsh
  have hE2 : playErr (withPat p (p.pat + (d : Int))) t = 0 := by unfold playErr; rw [if_pos HX.out]; exact hsh
  have hO1 : playOut p t = playF p t := by unfold playOut; rw [if_pos hE1]
  have hO2 : playOut (withPat p (p.pat + (d : Int))) t = playF (withPat p (p.pat + (d : Int))) t := by unfold playOut; rw [if_pos hE2]
  have hn1 : (playF p t).length = p.sends.length := by unfold playF; rw [playGo_len, hlen]
  have hn2 : (playF (withPat p (p.pat + (d : Int))) t).length = p.sends.length := by unfold playF; rw [playGo_len, hlen]
  have hmono := pat_playGo hxb.2.2 t 0 0 0 (Int.le_refl _)
  obtain ⟨O1, h1⟩ : ∃ O, playF p t = O := ⟨_, rfl⟩
  obtain ⟨O2, h2⟩ : ∃ O, playF (withPat p (p.pat + (d : Int))) t = O := ⟨_, rfl⟩
  rw [show playGo p 0 0 t = O1 from h1, show playGo (withPat p (p.pat + (d : Int))) 0 0 t = O2 from h2] at hmono
  rw [h1] at hO1 hn1
  rw [h2] at hO2 hn2
  have HE1 := Lib.hid hE1
  have HE2 := Lib.hid hE2
  have HO1 := Lib.hid hO1
  have HO2 := Lib.hid hO2
  have Hn1 := Lib.hid hn1
  have Hn2 := Lib.hid hn2
  have Hmono := Lib.hid hmono
  have HS : Hid (spansOut p = spansF p p.sends.length) := Lib.hid (by unfold spansOut; rw [if_pos HE.out])
  have HSX : Hid (spansOut (withPat p (p.pat + (d : Int))) = spansF (withPat p (p.pat + (d : Int))) p.sends.length) := Lib.hid (by unfold spansOut; rw [if_pos HX.out]; rfl)
  have HnS : Hid ((spansF p p.sends.length).length = p.sends.length) := Lib.hid (spansF_len p _)
  have HnX : Hid ((spansF (withPat p (p.pat + (d : Int))) p.sends.length).length = p.sends.length) := Lib.hid (spansF_len _ _)
  have Hsp := Lib.hid (pat_span hxb.2.2)
  clear hT big hd hy hu lw0 lw1 hsh hst hlen ht hE1 hE2 hO1 hO2 hn1 hn2 hmono h1 h2
  go_enter Try.func9, Try.ntmps9
  go_wp2_with fail
  go_at_call 44
  refine (ready_eq a c ar cr p _ true HT (hs.below (by (repeat (first | exact Below.refl _ _ | refine Below.alloc ?_ (by first | omega | (simp; done) | (simp; omega)) _ | refine Below.drew ?_ | refine Below.setCell ?_ (by first | omega | (simp; done) | (simp; omega)) _ | refine Below.trans ?_ (Below.mono (by assumption) (by first | omega | (simp; done) | (simp; omega))))))) (hr.below (by (repeat (first | exact Below.refl _ _ | refine Below.alloc ?_ (by first | omega | (simp; done) | (simp; omega)) _ | refine Below.drew ?_ | refine Below.setCell ?_ (by first | omega | (simp; done) | (simp; omega)) _ | refine Below.trans ?_ (Below.mono (by assumption) (by first | omega | (simp; done) | (simp; omega))))))) HB.out).mono ?_
  rintro e w1 ⟨rfl, b1⟩
  have t1 : Below w.heap.size w w1 := by (repeat (first | exact Below.refl _ _ | refine Below.alloc ?_ (by first | omega | (simp; done) | (simp; omega)) _ | refine Below.drew ?_ | refine Below.setCell ?_ (by first | omega | (simp; done) | (simp; omega)) _ | refine Below.trans ?_ (Below.mono (by assumption) (by first | omega | (simp; done) | (simp; omega)))))
  replace hs := hs.below t1
  replace hr := hr.below t1
  replace hw := hw.below t1
  have q0 := box_cells b1 0 rfl
  have q1 := box_cells b1 1 rfl
  have q2 := box_cells b1 2 rfl
  have lB := cell_ltK q0
  go_wp2_with fail
  go_at_call 46
  refine (pickedT_eq a c ar cr p aw ws cw _ t HTt (hs.below (by (repeat (first | exact Below.refl _ _ | refine Below.alloc ?_ (by first | omega | (simp; done) | (simp; omega)) _ | refine Below.drew ?_ | refine Below.setCell ?_ (by first | omega | (simp; done) | (simp; omega)) _ | refine Below.trans ?_ (Below.mono (by assumption) (by first | omega | (simp; done) | (simp; omega))))))) (hr.below (by (repeat (first | exact Below.refl _ _ | refine Below.alloc ?_ (by first | omega | (simp; done) | (simp; omega)) _ | refine Below.drew ?_ | refine Below.setCell ?_ (by first | omega | (simp; done) | (simp; omega)) _ | refine Below.trans ?_ (Below.mono (by assumption) (by first | omega | (simp; done) | (simp; omega))))))) (hw.below (by (repeat (first | exact Below.refl _ _ | refine Below.alloc ?_ (by first | omega | (simp; done) | (simp; omega)) _ | refine Below.drew ?_ | refine Below.setCell ?_ (by first | omega | (simp; done) | (simp; omega)) _ | refine Below.trans ?_ (Below.mono (by assumption) (by first | omega | (simp; done) | (simp; omega))))))) HU lw HE).mono ?_
  rintro e w2 ⟨⟨a2, c2, rfl, tA, nT⟩, b2⟩
  have j2 : Below w1.heap.size w1 w2 := by (repeat (first | exact Below.refl _ _ | refine Below.alloc ?_ (by first | omega | (simp; done) | (simp; omega)) _ | refine Below.drew ?_ | refine Below.setCell ?_ (by first | omega | (simp; done) | (simp; omega)) _ | refine Below.trans ?_ (Below.mono (by assumption) (by first | omega | (simp; done) | (simp; omega)))))
  have t2 : Below w.heap.size w w2 := t1.trans (j2.mono t1.size)
  replace hs := hs.below j2
  replace hr := hr.below j2
  replace hw := hw.below j2
  replace q0 := below_cell j2 q0
  replace q1 := below_cell j2 q1
  replace q2 := below_cell j2 q2
  replace lB := Nat.lt_of_lt_of_le lB j2.size
  have x0 := box_cells b2 0 rfl
  have x1 := box_cells b2 1 rfl
  have x2 := box_cells b2 2 rfl
  have lx := cell_ltK x0
  go_wp2_with fail
  go_at_call 21
  refine (post_eq a c ar cr p _ hs hr SM na).mono ?_
  rintro e w3 ⟨⟨a5, c5, r5, d5, rfl, s5, o5⟩, b3⟩
  have j3 : Below w2.heap.size w2 w3 := by (repeat (first | exact Below.refl _ _ | refine Below.alloc ?_ (by first | omega | (simp; done) | (simp; omega)) _ | refine Below.drew ?_ | refine Below.setCell ?_ (by first | omega | (simp; done) | (simp; omega)) _ | refine Below.trans ?_ (Below.mono (by assumption) (by first | omega | (simp; done) | (simp; omega)))))
  have t3 : Below w.heap.size w w3 := t2.trans (j3.mono t2.size)
  replace hs := hs.below j3
  replace hr := hr.below j3
  replace hw := hw.below j3
  replace q0 := below_cell j3 q0
  replace q1 := below_cell j3 q1
  replace q2 := below_cell j3 q2
  replace lB := Nat.lt_of_lt_of_le lB j3.size
  replace tA := tA.below j3
  replace x0 := below_cell j3 x0
  replace x1 := below_cell j3 x1
  replace x2 := below_cell j3 x2
  replace lx := Nat.lt_of_lt_of_le lx j3.size
  go_wp2_with fail
  go_at_call 23
  refine (truthN_eq a2 t p.sends.length c2 HtN _ tA ST).mono ?_
  rintro e w4 ⟨⟨g5, k5, rfl, tB5⟩, b4⟩
  have j4 : Below w3.heap.size w3 w4 := by (repeat (first | exact Below.refl _ _ | refine Below.alloc ?_ (by first | omega | (simp; done) | (simp; omega)) _ | refine Below.drew ?_ | refine Below.setCell ?_ (by first | omega | (simp; done) | (simp; omega)) _ | refine Below.trans ?_ (Below.mono (by assumption) (by first | omega | (simp; done) | (simp; omega)))))
  have t4 : Below w.heap.size w w4 := t3.trans (j4.mono t3.size)
  replace hs := hs.below j4
  replace hr := hr.below j4
  replace hw := hw.below j4
  replace q0 := below_cell j4 q0
  replace q1 := below_cell j4 q1
  replace q2 := below_cell j4 q2
  replace lB := Nat.lt_of_lt_of_le lB j4.size
  replace tA := tA.below j4
  replace x0 := below_cell j4 x0
  replace x1 := below_cell j4 x1
  replace x2 := below_cell j4 x2
  replace lx := Nat.lt_of_lt_of_le lx j4.size
  replace s5 := s5.below j4
  replace o5 := o5.below j4
  go_wp2_with fail
  go_at_call 22
  refine (playN_eq a5 c5 r5 d5 p _ g5 t p.sends.length k5 HtN 0 O1 p.sends.length HE1 HO1 Hn1 s5 o5 SM tB5 ST).mono ?_
  rintro e w5 ⟨⟨e5, f5, rfl, i5⟩, b5⟩
  have j5 : Below w4.heap.size w4 w5 := by (repeat (first | exact Below.refl _ _ | refine Below.alloc ?_ (by first | omega | (simp; done) | (simp; omega)) _ | refine Below.drew ?_ | refine Below.setCell ?_ (by first | omega | (simp; done) | (simp; omega)) _ | refine Below.trans ?_ (Below.mono (by assumption) (by first | omega | (simp; done) | (simp; omega)))))
  have t5 : Below w.heap.size w w5 := t4.trans (j5.mono t4.size)
  replace hs := hs.below j5
  replace hr := hr.below j5
  replace hw := hw.below j5
  replace q0 := below_cell j5 q0
  replace q1 := below_cell j5 q1
  replace q2 := below_cell j5 q2
  replace lB := Nat.lt_of_lt_of_le lB j5.size
  replace tA := tA.below j5
  replace x0 := below_cell j5 x0
  replace x1 := below_cell j5 x1
  replace x2 := below_cell j5 x2
  replace lx := Nat.lt_of_lt_of_le lx j5.size
  replace s5 := s5.below j5
  replace o5 := o5.below j5
  replace tB5 := tB5.below j5
  clear s5 o5 tB5
  go_wp2_with fail
  go_at_call 21
  refine (postX_eq a c ar cr p _ (p.pat + (d : Int)) hs hr SM na).mono ?_
  rintro e w6 ⟨⟨a6, c6, r6, d6, rfl, s6, o6⟩, b6⟩
  have j6 : Below w5.heap.size w5 w6 := by (repeat (first | exact Below.refl _ _ | refine Below.alloc ?_ (by first | omega | (simp; done) | (simp; omega)) _ | refine Below.drew ?_ | refine Below.setCell ?_ (by first | omega | (simp; done) | (simp; omega)) _ | refine Below.trans ?_ (Below.mono (by assumption) (by first | omega | (simp; done) | (simp; omega)))))
  have t6 : Below w.heap.size w w6 := t5.trans (j6.mono t5.size)
  replace hs := hs.below j6
  replace hr := hr.below j6
  replace hw := hw.below j6
  replace q0 := below_cell j6 q0
  replace q1 := below_cell j6 q1
  replace q2 := below_cell j6 q2
  replace lB := Nat.lt_of_lt_of_le lB j6.size
  replace tA := tA.below j6
  replace x0 := below_cell j6 x0
  replace x1 := below_cell j6 x1
  replace x2 := below_cell j6 x2
  replace lx := Nat.lt_of_lt_of_le lx j6.size
  replace i5 := i5.below j6
  go_wp2_with fail
  go_at_call 23
  refine (truthN_eq a2 t p.sends.length c2 HtN _ tA ST).mono ?_
  rintro e w7 ⟨⟨g6, k6, rfl, tB6⟩, b7⟩
  have j7 : Below w6.heap.size w6 w7 := by (repeat (first | exact Below.refl _ _ | refine Below.alloc ?_ (by first | omega | (simp; done) | (simp; omega)) _ | refine Below.drew ?_ | refine Below.setCell ?_ (by first | omega | (simp; done) | (simp; omega)) _ | refine Below.trans ?_ (Below.mono (by assumption) (by first | omega | (simp; done) | (simp; omega)))))
  have t7 : Below w.heap.size w w7 := t6.trans (j7.mono t6.size)
  replace hs := hs.below j7
  replace hr := hr.below j7
  replace hw := hw.below j7
  replace q0 := below_cell j7 q0
  replace q1 := below_cell j7 q1
  replace q2 := below_cell j7 q2
  replace lB := Nat.lt_of_lt_of_le lB j7.size
  replace tA := tA.below j7
  replace x0 := below_cell j7 x0
  replace x1 := below_cell j7 x1
  replace x2 := below_cell j7 x2
  replace lx := Nat.lt_of_lt_of_le lx j7.size
  replace i5 := i5.below j7
  replace s6 := s6.below j7
  replace o6 := o6.below j7
  go_wp2_with fail
  go_at_call 22
  refine (playXN_eq a6 c6 r6 d6 p (p.pat + (d : Int)) _ g6 t p.sends.length k6 HtN 0 O2 p.sends.length HE2 HO2 Hn2 s6 o6 SM tB6 ST).mono ?_
  rintro e w8 ⟨⟨e6, f6, rfl, i6⟩, b8⟩
  have j8 : Below w7.heap.size w7 w8 := by (repeat (first | exact Below.refl _ _ | refine Below.alloc ?_ (by first | omega | (simp; done) | (simp; omega)) _ | refine Below.drew ?_ | refine Below.setCell ?_ (by first | omega | (simp; done) | (simp; omega)) _ | refine Below.trans ?_ (Below.mono (by assumption) (by first | omega | (simp; done) | (simp; omega)))))
  have t8 : Below w.heap.size w w8 := t7.trans (j8.mono t7.size)
  replace hs := hs.below j8
  replace hr := hr.below j8
  replace hw := hw.below j8
  replace q0 := below_cell j8 q0
  replace q1 := below_cell j8 q1
  replace q2 := below_cell j8 q2
  replace lB := Nat.lt_of_lt_of_le lB j8.size
  replace tA := tA.below j8
  replace x0 := below_cell j8 x0
  replace x1 := below_cell j8 x1
  replace x2 := below_cell j8 x2
  replace lx := Nat.lt_of_lt_of_le lx j8.size
  replace i5 := i5.below j8
  replace s6 := s6.below j8
  replace o6 := o6.below j8
  replace tB6 := tB6.below j8
  clear s6 o6 tB6
  go_wp2_with fail
  go_at_call 21
  refine (post_eq a c ar cr p _ hs hr SM na).mono ?_
  rintro e w9 ⟨⟨a7, c7, r7, d7, rfl, s7, o7⟩, b9⟩
  have j9 : Below w8.heap.size w8 w9 := by (repeat (first | exact Below.refl _ _ | refine Below.alloc ?_ (by first | omega | (simp; done) | (simp; omega)) _ | refine Below.drew ?_ | refine Below.setCell ?_ (by first | omega | (simp; done) | (simp; omega)) _ | refine Below.trans ?_ (Below.mono (by assumption) (by first | omega | (simp; done) | (simp; omega)))))
  have t9 : Below w.heap.size w w9 := t8.trans (j9.mono t8.size)
  replace hs := hs.below j9
  replace hr := hr.below j9
  replace hw := hw.below j9
  replace q0 := below_cell j9 q0
  replace q1 := below_cell j9 q1
  replace q2 := below_cell j9 q2
  replace lB := Nat.lt_of_lt_of_le lB j9.size
  replace tA := tA.below j9
  replace x0 := below_cell j9 x0
  replace x1 := below_cell j9 x1
  replace x2 := below_cell j9 x2
  replace lx := Nat.lt_of_lt_of_le lx j9.size
  replace i5 := i5.below j9
  replace i6 := i6.below j9
  go_wp2_with fail
  go_at_call 32
  refine (spans_eq a7 c7 r7 d7 p _ 0 (spansF p p.sends.length) p.sends.length HE HS HnS s7 o7 SM).mono ?_
  rintro e w10 ⟨⟨e7, f7, rfl, i7⟩, b10⟩
  have j10 : Below w9.heap.size w9 w10 := by (repeat (first | exact Below.refl _ _ | refine Below.alloc ?_ (by first | omega | (simp; done) | (simp; omega)) _ | refine Below.drew ?_ | refine Below.setCell ?_ (by first | omega | (simp; done) | (simp; omega)) _ | refine Below.trans ?_ (Below.mono (by assumption) (by first | omega | (simp; done) | (simp; omega)))))
  have t10 : Below w.heap.size w w10 := t9.trans (j10.mono t9.size)
  replace hs := hs.below j10
  replace hr := hr.below j10
  replace hw := hw.below j10
  replace q0 := below_cell j10 q0
  replace q1 := below_cell j10 q1
  replace q2 := below_cell j10 q2
  replace lB := Nat.lt_of_lt_of_le lB j10.size
  replace tA := tA.below j10
  replace x0 := below_cell j10 x0
  replace x1 := below_cell j10 x1
  replace x2 := below_cell j10 x2
  replace lx := Nat.lt_of_lt_of_le lx j10.size
  replace i5 := i5.below j10
  replace i6 := i6.below j10
  replace s7 := s7.below j10
  replace o7 := o7.below j10
  clear s7 o7
  go_wp2_with fail
  go_at_call 21
  refine (postX_eq a c ar cr p _ (p.pat + (d : Int)) hs hr SM na).mono ?_
  rintro e w11 ⟨⟨a8, c8, r8, d8, rfl, s8, o8⟩, b11⟩
  have j11 : Below w10.heap.size w10 w11 := by (repeat (first | exact Below.refl _ _ | refine Below.alloc ?_ (by first | omega | (simp; done) | (simp; omega)) _ | refine Below.drew ?_ | refine Below.setCell ?_ (by first | omega | (simp; done) | (simp; omega)) _ | refine Below.trans ?_ (Below.mono (by assumption) (by first | omega | (simp; done) | (simp; omega)))))
  have t11 : Below w.heap.size w w11 := t10.trans (j11.mono t10.size)
  replace hs := hs.below j11
  replace hr := hr.below j11
  replace hw := hw.below j11
  replace q0 := below_cell j11 q0
  replace q1 := below_cell j11 q1
  replace q2 := below_cell j11 q2
  replace lB := Nat.lt_of_lt_of_le lB j11.size
  replace tA := tA.below j11
  replace x0 := below_cell j11 x0
  replace x1 := below_cell j11 x1
  replace x2 := below_cell j11 x2
  replace lx := Nat.lt_of_lt_of_le lx j11.size
  replace i5 := i5.below j11
  replace i6 := i6.below j11
  replace i7 := i7.below j11
  go_wp2_with fail
  go_at_call 32
  refine (spansX_eq a8 c8 r8 d8 p _ (p.pat + (d : Int)) 0 (spansF (withPat p (p.pat + (d : Int))) p.sends.length) p.sends.length HX HSX HnX s8 o8 SM).mono ?_
  rintro e w12 ⟨⟨e8, f8, rfl, i8⟩, b12⟩
  have j12 : Below w11.heap.size w11 w12 := by (repeat (first | exact Below.refl _ _ | refine Below.alloc ?_ (by first | omega | (simp; done) | (simp; omega)) _ | refine Below.drew ?_ | refine Below.setCell ?_ (by first | omega | (simp; done) | (simp; omega)) _ | refine Below.trans ?_ (Below.mono (by assumption) (by first | omega | (simp; done) | (simp; omega)))))
  have t12 : Below w.heap.size w w12 := t11.trans (j12.mono t11.size)
  replace hs := hs.below j12
  replace hr := hr.below j12
  replace hw := hw.below j12
  replace q0 := below_cell j12 q0
  replace q1 := below_cell j12 q1
  replace q2 := below_cell j12 q2
  replace lB := Nat.lt_of_lt_of_le lB j12.size
  replace tA := tA.below j12
  replace x0 := below_cell j12 x0
  replace x1 := below_cell j12 x1
  replace x2 := below_cell j12 x2
  replace lx := Nat.lt_of_lt_of_le lx j12.size
  replace i5 := i5.below j12
  replace i6 := i6.below j12
  replace i7 := i7.below j12
  replace s8 := s8.below j12
  replace o8 := o8.below j12
  clear s8 o8
  go_wp2_with fail
  go_loopw [17] (fun u wr => ∃ k : Nat, k ≤ p.sends.length ∧ u = .int .i64 k ∧ Below w12.heap.size w12 wr) (fun u _ => p.sends.length - (intOf u).toNat)
  case atStart => exact ⟨0, Nat.zero_le _, rfl, Below.refl _ _⟩
  case round =>
    obtain ⟨k, hk, rfl, hb6⟩ := hrel
    have z6 := hb6.size
    by_cases hkl : k < p.sends.length
    · have hkI : (k : Int) < (p.sends.length : Int) := by omega
      have hk1 : k < O1.length := by rw [Hn1.out]; exact hkl
      have hk2 : k < O2.length := by rw [Hn2.out]; exact hkl
      obtain ⟨g1, off1, rfl, hg1, y0, y1, y2⟩ := (i5.below hb6) k hk1
      obtain ⟨g2, off2, rfl, hg2, z0, z1, z2⟩ := (i6.below hb6) k hk2
      have hle := Hmono.out k hk1 hk2
      obtain ⟨⟨s0, s1, s2⟩, hs1⟩ : ∃ x, O1[k] = x := ⟨_, rfl⟩
      obtain ⟨⟨r0, r1, r2⟩, hr1⟩ : ∃ x, O2[k] = x := ⟨_, rfl⟩
      rw [hs1] at y0 y1 y2 hle
      rw [hr1] at z0 z1 z2 hle
      simp only at y0 y1 y2 z0 z1 z2 hle
      have n1 : ¬ (r1 < s1) := by omega
      have d1 : decide (r1 < s1) = false := decide_eq_false n1
      have Hl := Lib.hid hle.1
      clear hs1 hr1 hk1 hk2 hle
      cases r2
      · go_wp2
        (refine wp_region_ext 26 (by kernel_rfl) (by kernel_rfl) ?_; simp only [List.take_succ_cons, List.take_zero, List.drop_succ_cons, List.drop_zero]; (repeat (go_big_quiet_step ((fail)))); refine wpQuiet_nil ?_; rintro _ ⟨ex, rfl⟩; have hex := ex.below; have hexz := ex.size; (try simp at hexz); (try (have hy0 : w.heap.size < ex.to.heap.size := by omega)); (try (have hy1 : w.heap.size + 1 < ex.to.heap.size := by omega)); (try (have hy2 : w.heap.size + 2 < ex.to.heap.size := by omega)))
        go_wp2
        go_roundw
        case rel => exact ⟨k + 1, by omega, by go_num, hb6.trans (ex.below.mono z6)⟩
        case measure => simp [intOf]; omega
      · obtain rfl : s2 = true := Hl.out rfl
        go_wp2
        (refine wp_region_ext 26 (by kernel_rfl) (by kernel_rfl) ?_; simp only [List.take_succ_cons, List.take_zero, List.drop_succ_cons, List.drop_zero]; (repeat (go_big_quiet_step ((fail)))); refine wpQuiet_nil ?_; rintro _ ⟨ex, rfl⟩; have hex := ex.below; have hexz := ex.size; (try simp at hexz); (try (have hy0 : w.heap.size < ex.to.heap.size := by omega)); (try (have hy1 : w.heap.size + 1 < ex.to.heap.size := by omega)); (try (have hy2 : w.heap.size + 2 < ex.to.heap.size := by omega)))
        go_wp2
        go_roundw
        case rel => exact ⟨k + 1, by omega, by go_num, hb6.trans (ex.below.mono z6)⟩
        case measure => simp [intOf]; omega
    · have hkI : ¬ ((k : Int) < (p.sends.length : Int)) := by omega
      go_wp2
      go_loopw [18] (fun u wr => ∃ k : Nat, k ≤ p.sends.length ∧ u = .int .i64 k ∧ Below w12.heap.size w12 wr) (fun u _ => p.sends.length - (intOf u).toNat)
      case atStart => exact ⟨0, Nat.zero_le _, rfl, hb6⟩
      case round =>
        clear hkI hk hb6 z6 hkl
        obtain ⟨q, hq, rfl, hb7⟩ := hrel
        have z7 := hb7.size
        by_cases hql : q < p.sends.length
        · have hqI : (q : Int) < (p.sends.length : Int) := by omega
          have hqA : q < (spansF p p.sends.length).length := by rw [HnS.out]; exact hql
          have hqB : q < (spansF (withPat p (p.pat + (d : Int))) p.sends.length).length := by rw [HnX.out]; exact hql
          obtain ⟨g1, off1, rfl, hg1, y0, y1⟩ := (i7.below hb7) q hqA
          obtain ⟨g2, off2, rfl, hg2, z0, z1⟩ := (i8.below hb7) q hqB
          rw [show (spansF p p.sends.length)[q] = spanAt p q by simp [spansF]] at y0 y1
          rw [show (spansF (withPat p (p.pat + (d : Int))) p.sends.length)[q] = spanAt (withPat p (p.pat + (d : Int))) q by simp [spansF]] at z0 z1
          have hle := Hsp.out q
          obtain ⟨⟨s0, s1⟩, hs1⟩ : ∃ x, spanAt p q = x := ⟨_, rfl⟩
          obtain ⟨⟨r0, r1⟩, hr1⟩ : ∃ x, spanAt (withPat p (p.pat + (d : Int))) q = x := ⟨_, rfl⟩
          rw [hs1] at y0 y1 hle
          rw [hr1] at z0 z1 hle
          simp only at y0 y1 z0 z1 hle
          have n0 : ¬ (r0 < s0) := by omega
          have n1 : ¬ (r1 < s1) := by omega
          have d0 : decide (r0 < s0) = false := decide_eq_false n0
          have d1 : decide (r1 < s1) = false := decide_eq_false n1
          clear hs1 hr1 hqA hqB hle
          go_wp2
          (refine wp_region_ext 24 (by kernel_rfl) (by kernel_rfl) ?_; simp only [List.take_succ_cons, List.take_zero, List.drop_succ_cons, List.drop_zero]; (repeat (go_big_quiet_step ((fail)))); refine wpQuiet_nil ?_; rintro _ ⟨ex, rfl⟩; have hex := ex.below; have hexz := ex.size; (try simp at hexz); (try (have hy0 : w.heap.size < ex.to.heap.size := by omega)); (try (have hy1 : w.heap.size + 1 < ex.to.heap.size := by omega)); (try (have hy2 : w.heap.size + 2 < ex.to.heap.size := by omega)))
          go_wp2
          go_roundw
          case rel => exact ⟨q + 1, by omega, by go_num, hb7.trans (ex.below.mono z7)⟩
          case measure => simp [intOf]; omega
        · have hqI : ¬ ((q : Int) < (p.sends.length : Int)) := by omega
          go_wp2_with fail
          go_at_call 19
          refine (awake_any _).mono ?_
          rintro e x3 ⟨rfl, b3⟩
          go_wp2_with fail
          go_ret
          exact ⟨rfl, t12.trans ((hb7.trans (b3.mono z7)).mono t12.size)⟩

set_option maxRecDepth 100000 in
set_option maxHeartbeats 8000000 in
theorem pat_a3 (a : Option Addr) (c : Nat) (ar : Option Addr) (cr : Nat) (p : Post) (aw : Option Addr) (ws : List Int) (cw : Nat) (y : Int) (w : World) (hs : IntsAt w a p.sends) (hr : RoutesAt w ar p.routes) (na : a = none → c = 0) (big : PostBig p) (hw : U16At w aw ws) (_ : aw = none → cw = 0) (lw0 : ws.length ≤ cw) (lw1 : cw ≤ maxLen) (hu : U16s ws) (hy : (Lit.int .u8 y).wf = true) (hT : readyB p = true) (d : Nat) (hd : y.toNat % 16 = d) (h30 : 30 ≤ p.pat + (d : Int)) :
    Calls Try.prog 9 #[.agg #[.slice a p.sends.length c, .slice ar p.routes.length cr, .int .i64 p.pat], .slice aw ws.length cw, .int .u8 y] w fun e w' => e = .returned (.bool true) ∧ Below w.heap.size w w' := by

  have HB := Lib.hid big
  have HT := Lib.hid hT
  have SM := Lib.hid (ready_small hT).1
  have HE := Lib.hid (ready_small hT).2
  have HU := Lib.hid hu
  have lS : p.sends.length ≤ 1000 := SM.out.1
  have lR : p.routes.length ≤ 1000 := SM.out.2
  have lw : ws.length ≤ 9223372036854775807 := by unfold maxLen at lw1; omega
  obtain ⟨m, rfl, hm⟩ := u8_bd hy
  have hrem : Int.tmod (m : Int) 16 = (d : Int) := by rw [← hd]; rfl
  have hd16 : d < 16 := by rw [← hd]; simp; omega
  have hpp := (post_hours HE.out).p
  have hwd : IntKind.i64.wrap (p.pat + (d : Int)) = p.pat + (d : Int) := IntWalk.i64_in _ (by omega)
  have hxb : 0 ≤ 30 ∧ 30 ≤ 30 ∧ p.pat ≤ 30 := by omega
  have HX : Hid (postErr (withPat p 30) = 0) := Lib.hid (postErr_pat HE.out (by omega) (by omega))
  have hsh := pkT_shape HE.out ws
  have hst := pkT_small HE.out ws
  have hlen := pkT_len p ws
  obtain ⟨t, ht⟩ : ∃ t, pkT p ws = t := ⟨_, rfl⟩
  rw [ht] at hsh hst hlen
  have HTt := Lib.hid ht
  have HtN := Lib.hid hlen
  have ST := Lib.hid hst
  have hE1 : playErr p t = 0 := by unfold playErr; rw [if_pos HE.out]; exact hsh
  have hE2 : playErr (withPat p 30) t = 0 := by unfold playErr; rw [if_pos HX.out]; exact hsh
  have hO1 : playOut p t = playF p t := by unfold playOut; rw [if_pos hE1]
  have hO2 : playOut (withPat p 30) t = playF (withPat p 30) t := by unfold playOut; rw [if_pos hE2]
  have hn1 : (playF p t).length = p.sends.length := by unfold playF; rw [playGo_len, hlen]
  have hn2 : (playF (withPat p 30) t).length = p.sends.length := by unfold playF; rw [playGo_len, hlen]
  have hmono := pat_playGo hxb.2.2 t 0 0 0 (Int.le_refl _)
  obtain ⟨O1, h1⟩ : ∃ O, playF p t = O := ⟨_, rfl⟩
  obtain ⟨O2, h2⟩ : ∃ O, playF (withPat p 30) t = O := ⟨_, rfl⟩
  rw [show playGo p 0 0 t = O1 from h1, show playGo (withPat p 30) 0 0 t = O2 from h2] at hmono
  rw [h1] at hO1 hn1
  rw [h2] at hO2 hn2
  have HE1 := Lib.hid hE1
  have HE2 := Lib.hid hE2
  have HO1 := Lib.hid hO1
  have HO2 := Lib.hid hO2
  have Hn1 := Lib.hid hn1
  have Hn2 := Lib.hid hn2
  have Hmono := Lib.hid hmono
  have HS : Hid (spansOut p = spansF p p.sends.length) := Lib.hid (by unfold spansOut; rw [if_pos HE.out])
  have HSX : Hid (spansOut (withPat p 30) = spansF (withPat p 30) p.sends.length) := Lib.hid (by unfold spansOut; rw [if_pos HX.out]; rfl)
  have HnS : Hid ((spansF p p.sends.length).length = p.sends.length) := Lib.hid (spansF_len p _)
  have HnX : Hid ((spansF (withPat p 30) p.sends.length).length = p.sends.length) := Lib.hid (spansF_len _ _)
  have Hsp := Lib.hid (pat_span hxb.2.2)
  clear hT big hd hy hu lw0 lw1 hsh hst hlen ht hE1 hE2 hO1 hO2 hn1 hn2 hmono h1 h2
  go_enter Try.func9, Try.ntmps9
  go_wp2_with fail
  go_at_call 44
  refine (ready_eq a c ar cr p _ true HT (hs.below (by (repeat (first | exact Below.refl _ _ | refine Below.alloc ?_ (by first | omega | (simp; done) | (simp; omega)) _ | refine Below.drew ?_ | refine Below.setCell ?_ (by first | omega | (simp; done) | (simp; omega)) _ | refine Below.trans ?_ (Below.mono (by assumption) (by first | omega | (simp; done) | (simp; omega))))))) (hr.below (by (repeat (first | exact Below.refl _ _ | refine Below.alloc ?_ (by first | omega | (simp; done) | (simp; omega)) _ | refine Below.drew ?_ | refine Below.setCell ?_ (by first | omega | (simp; done) | (simp; omega)) _ | refine Below.trans ?_ (Below.mono (by assumption) (by first | omega | (simp; done) | (simp; omega))))))) HB.out).mono ?_
  rintro e w1 ⟨rfl, b1⟩
  have t1 : Below w.heap.size w w1 := by (repeat (first | exact Below.refl _ _ | refine Below.alloc ?_ (by first | omega | (simp; done) | (simp; omega)) _ | refine Below.drew ?_ | refine Below.setCell ?_ (by first | omega | (simp; done) | (simp; omega)) _ | refine Below.trans ?_ (Below.mono (by assumption) (by first | omega | (simp; done) | (simp; omega)))))
  replace hs := hs.below t1
  replace hr := hr.below t1
  replace hw := hw.below t1
  have q0 := box_cells b1 0 rfl
  have q1 := box_cells b1 1 rfl
  have q2 := box_cells b1 2 rfl
  have lB := cell_ltK q0
  go_wp2_with fail
  go_at_call 46
  refine (pickedT_eq a c ar cr p aw ws cw _ t HTt (hs.below (by (repeat (first | exact Below.refl _ _ | refine Below.alloc ?_ (by first | omega | (simp; done) | (simp; omega)) _ | refine Below.drew ?_ | refine Below.setCell ?_ (by first | omega | (simp; done) | (simp; omega)) _ | refine Below.trans ?_ (Below.mono (by assumption) (by first | omega | (simp; done) | (simp; omega))))))) (hr.below (by (repeat (first | exact Below.refl _ _ | refine Below.alloc ?_ (by first | omega | (simp; done) | (simp; omega)) _ | refine Below.drew ?_ | refine Below.setCell ?_ (by first | omega | (simp; done) | (simp; omega)) _ | refine Below.trans ?_ (Below.mono (by assumption) (by first | omega | (simp; done) | (simp; omega))))))) (hw.below (by (repeat (first | exact Below.refl _ _ | refine Below.alloc ?_ (by first | omega | (simp; done) | (simp; omega)) _ | refine Below.drew ?_ | refine Below.setCell ?_ (by first | omega | (simp; done) | (simp; omega)) _ | refine Below.trans ?_ (Below.mono (by assumption) (by first | omega | (simp; done) | (simp; omega))))))) HU lw HE).mono ?_
  rintro e w2 ⟨⟨a2, c2, rfl, tA, nT⟩, b2⟩
  have j2 : Below w1.heap.size w1 w2 := by (repeat (first | exact Below.refl _ _ | refine Below.alloc ?_ (by first | omega | (simp; done) | (simp; omega)) _ | refine Below.drew ?_ | refine Below.setCell ?_ (by first | omega | (simp; done) | (simp; omega)) _ | refine Below.trans ?_ (Below.mono (by assumption) (by first | omega | (simp; done) | (simp; omega)))))
  have t2 : Below w.heap.size w w2 := t1.trans (j2.mono t1.size)
  replace hs := hs.below j2
  replace hr := hr.below j2
  replace hw := hw.below j2
  replace q0 := below_cell j2 q0
  replace q1 := below_cell j2 q1
  replace q2 := below_cell j2 q2
  replace lB := Nat.lt_of_lt_of_le lB j2.size
  have x0 := box_cells b2 0 rfl
  have x1 := box_cells b2 1 rfl
  have x2 := box_cells b2 2 rfl
  have lx := cell_ltK x0
  go_wp2_with fail
  go_at_call 21
  refine (post_eq a c ar cr p _ hs hr SM na).mono ?_
  rintro e w3 ⟨⟨a5, c5, r5, d5, rfl, s5, o5⟩, b3⟩
  have j3 : Below w2.heap.size w2 w3 := by (repeat (first | exact Below.refl _ _ | refine Below.alloc ?_ (by first | omega | (simp; done) | (simp; omega)) _ | refine Below.drew ?_ | refine Below.setCell ?_ (by first | omega | (simp; done) | (simp; omega)) _ | refine Below.trans ?_ (Below.mono (by assumption) (by first | omega | (simp; done) | (simp; omega)))))
  have t3 : Below w.heap.size w w3 := t2.trans (j3.mono t2.size)
  replace hs := hs.below j3
  replace hr := hr.below j3
  replace hw := hw.below j3
  replace q0 := below_cell j3 q0
  replace q1 := below_cell j3 q1
  replace q2 := below_cell j3 q2
  replace lB := Nat.lt_of_lt_of_le lB j3.size
  replace tA := tA.below j3
  replace x0 := below_cell j3 x0
  replace x1 := below_cell j3 x1
  replace x2 := below_cell j3 x2
  replace lx := Nat.lt_of_lt_of_le lx j3.size
  go_wp2_with fail
  go_at_call 23
  refine (truthN_eq a2 t p.sends.length c2 HtN _ tA ST).mono ?_
  rintro e w4 ⟨⟨g5, k5, rfl, tB5⟩, b4⟩
  have j4 : Below w3.heap.size w3 w4 := by (repeat (first | exact Below.refl _ _ | refine Below.alloc ?_ (by first | omega | (simp; done) | (simp; omega)) _ | refine Below.drew ?_ | refine Below.setCell ?_ (by first | omega | (simp; done) | (simp; omega)) _ | refine Below.trans ?_ (Below.mono (by assumption) (by first | omega | (simp; done) | (simp; omega)))))
  have t4 : Below w.heap.size w w4 := t3.trans (j4.mono t3.size)
  replace hs := hs.below j4
  replace hr := hr.below j4
  replace hw := hw.below j4
  replace q0 := below_cell j4 q0
  replace q1 := below_cell j4 q1
  replace q2 := below_cell j4 q2
  replace lB := Nat.lt_of_lt_of_le lB j4.size
  replace tA := tA.below j4
  replace x0 := below_cell j4 x0
  replace x1 := below_cell j4 x1
  replace x2 := below_cell j4 x2
  replace lx := Nat.lt_of_lt_of_le lx j4.size
  replace s5 := s5.below j4
  replace o5 := o5.below j4
  go_wp2_with fail
  go_at_call 22
  refine (playN_eq a5 c5 r5 d5 p _ g5 t p.sends.length k5 HtN 0 O1 p.sends.length HE1 HO1 Hn1 s5 o5 SM tB5 ST).mono ?_
  rintro e w5 ⟨⟨e5, f5, rfl, i5⟩, b5⟩
  have j5 : Below w4.heap.size w4 w5 := by (repeat (first | exact Below.refl _ _ | refine Below.alloc ?_ (by first | omega | (simp; done) | (simp; omega)) _ | refine Below.drew ?_ | refine Below.setCell ?_ (by first | omega | (simp; done) | (simp; omega)) _ | refine Below.trans ?_ (Below.mono (by assumption) (by first | omega | (simp; done) | (simp; omega)))))
  have t5 : Below w.heap.size w w5 := t4.trans (j5.mono t4.size)
  replace hs := hs.below j5
  replace hr := hr.below j5
  replace hw := hw.below j5
  replace q0 := below_cell j5 q0
  replace q1 := below_cell j5 q1
  replace q2 := below_cell j5 q2
  replace lB := Nat.lt_of_lt_of_le lB j5.size
  replace tA := tA.below j5
  replace x0 := below_cell j5 x0
  replace x1 := below_cell j5 x1
  replace x2 := below_cell j5 x2
  replace lx := Nat.lt_of_lt_of_le lx j5.size
  replace s5 := s5.below j5
  replace o5 := o5.below j5
  replace tB5 := tB5.below j5
  clear s5 o5 tB5
  go_wp2_with fail
  go_at_call 21
  refine (postX_eq a c ar cr p _ 30 hs hr SM na).mono ?_
  rintro e w6 ⟨⟨a6, c6, r6, d6, rfl, s6, o6⟩, b6⟩
  have j6 : Below w5.heap.size w5 w6 := by (repeat (first | exact Below.refl _ _ | refine Below.alloc ?_ (by first | omega | (simp; done) | (simp; omega)) _ | refine Below.drew ?_ | refine Below.setCell ?_ (by first | omega | (simp; done) | (simp; omega)) _ | refine Below.trans ?_ (Below.mono (by assumption) (by first | omega | (simp; done) | (simp; omega)))))
  have t6 : Below w.heap.size w w6 := t5.trans (j6.mono t5.size)
  replace hs := hs.below j6
  replace hr := hr.below j6
  replace hw := hw.below j6
  replace q0 := below_cell j6 q0
  replace q1 := below_cell j6 q1
  replace q2 := below_cell j6 q2
  replace lB := Nat.lt_of_lt_of_le lB j6.size
  replace tA := tA.below j6
  replace x0 := below_cell j6 x0
  replace x1 := below_cell j6 x1
  replace x2 := below_cell j6 x2
  replace lx := Nat.lt_of_lt_of_le lx j6.size
  replace i5 := i5.below j6
  go_wp2_with fail
  go_at_call 23
  refine (truthN_eq a2 t p.sends.length c2 HtN _ tA ST).mono ?_
  rintro e w7 ⟨⟨g6, k6, rfl, tB6⟩, b7⟩
  have j7 : Below w6.heap.size w6 w7 := by (repeat (first | exact Below.refl _ _ | refine Below.alloc ?_ (by first | omega | (simp; done) | (simp; omega)) _ | refine Below.drew ?_ | refine Below.setCell ?_ (by first | omega | (simp; done) | (simp; omega)) _ | refine Below.trans ?_ (Below.mono (by assumption) (by first | omega | (simp; done) | (simp; omega)))))
  have t7 : Below w.heap.size w w7 := t6.trans (j7.mono t6.size)
  replace hs := hs.below j7
  replace hr := hr.below j7
  replace hw := hw.below j7
  replace q0 := below_cell j7 q0
  replace q1 := below_cell j7 q1
  replace q2 := below_cell j7 q2
  replace lB := Nat.lt_of_lt_of_le lB j7.size
  replace tA := tA.below j7
  replace x0 := below_cell j7 x0
  replace x1 := below_cell j7 x1
  replace x2 := below_cell j7 x2
  replace lx := Nat.lt_of_lt_of_le lx j7.size
  replace i5 := i5.below j7
  replace s6 := s6.below j7
  replace o6 := o6.below j7
  go_wp2_with fail
  go_at_call 22
  refine (playXN_eq a6 c6 r6 d6 p 30 _ g6 t p.sends.length k6 HtN 0 O2 p.sends.length HE2 HO2 Hn2 s6 o6 SM tB6 ST).mono ?_
  rintro e w8 ⟨⟨e6, f6, rfl, i6⟩, b8⟩
  have j8 : Below w7.heap.size w7 w8 := by (repeat (first | exact Below.refl _ _ | refine Below.alloc ?_ (by first | omega | (simp; done) | (simp; omega)) _ | refine Below.drew ?_ | refine Below.setCell ?_ (by first | omega | (simp; done) | (simp; omega)) _ | refine Below.trans ?_ (Below.mono (by assumption) (by first | omega | (simp; done) | (simp; omega)))))
  have t8 : Below w.heap.size w w8 := t7.trans (j8.mono t7.size)
  replace hs := hs.below j8
  replace hr := hr.below j8
  replace hw := hw.below j8
  replace q0 := below_cell j8 q0
  replace q1 := below_cell j8 q1
  replace q2 := below_cell j8 q2
  replace lB := Nat.lt_of_lt_of_le lB j8.size
  replace tA := tA.below j8
  replace x0 := below_cell j8 x0
  replace x1 := below_cell j8 x1
  replace x2 := below_cell j8 x2
  replace lx := Nat.lt_of_lt_of_le lx j8.size
  replace i5 := i5.below j8
  replace s6 := s6.below j8
  replace o6 := o6.below j8
  replace tB6 := tB6.below j8
  clear s6 o6 tB6
  go_wp2_with fail
  go_at_call 21
  refine (post_eq a c ar cr p _ hs hr SM na).mono ?_
  rintro e w9 ⟨⟨a7, c7, r7, d7, rfl, s7, o7⟩, b9⟩
  have j9 : Below w8.heap.size w8 w9 := by (repeat (first | exact Below.refl _ _ | refine Below.alloc ?_ (by first | omega | (simp; done) | (simp; omega)) _ | refine Below.drew ?_ | refine Below.setCell ?_ (by first | omega | (simp; done) | (simp; omega)) _ | refine Below.trans ?_ (Below.mono (by assumption) (by first | omega | (simp; done) | (simp; omega)))))
  have t9 : Below w.heap.size w w9 := t8.trans (j9.mono t8.size)
  replace hs := hs.below j9
  replace hr := hr.below j9
  replace hw := hw.below j9
  replace q0 := below_cell j9 q0
  replace q1 := below_cell j9 q1
  replace q2 := below_cell j9 q2
  replace lB := Nat.lt_of_lt_of_le lB j9.size
  replace tA := tA.below j9
  replace x0 := below_cell j9 x0
  replace x1 := below_cell j9 x1
  replace x2 := below_cell j9 x2
  replace lx := Nat.lt_of_lt_of_le lx j9.size
  replace i5 := i5.below j9
  replace i6 := i6.below j9
  go_wp2_with fail
  go_at_call 32
  refine (spans_eq a7 c7 r7 d7 p _ 0 (spansF p p.sends.length) p.sends.length HE HS HnS s7 o7 SM).mono ?_
  rintro e w10 ⟨⟨e7, f7, rfl, i7⟩, b10⟩
  have j10 : Below w9.heap.size w9 w10 := by (repeat (first | exact Below.refl _ _ | refine Below.alloc ?_ (by first | omega | (simp; done) | (simp; omega)) _ | refine Below.drew ?_ | refine Below.setCell ?_ (by first | omega | (simp; done) | (simp; omega)) _ | refine Below.trans ?_ (Below.mono (by assumption) (by first | omega | (simp; done) | (simp; omega)))))
  have t10 : Below w.heap.size w w10 := t9.trans (j10.mono t9.size)
  replace hs := hs.below j10
  replace hr := hr.below j10
  replace hw := hw.below j10
  replace q0 := below_cell j10 q0
  replace q1 := below_cell j10 q1
  replace q2 := below_cell j10 q2
  replace lB := Nat.lt_of_lt_of_le lB j10.size
  replace tA := tA.below j10
  replace x0 := below_cell j10 x0
  replace x1 := below_cell j10 x1
  replace x2 := below_cell j10 x2
  replace lx := Nat.lt_of_lt_of_le lx j10.size
  replace i5 := i5.below j10
  replace i6 := i6.below j10
  replace s7 := s7.below j10
  replace o7 := o7.below j10
  clear s7 o7
  go_wp2_with fail
  go_at_call 21
  refine (postX_eq a c ar cr p _ 30 hs hr SM na).mono ?_
  rintro e w11 ⟨⟨a8, c8, r8, d8, rfl, s8, o8⟩, b11⟩
  have j11 : Below w10.heap.size w10 w11 := by (repeat (first | exact Below.refl _ _ | refine Below.alloc ?_ (by first | omega | (simp; done) | (simp; omega)) _ | refine Below.drew ?_ | refine Below.setCell ?_ (by first | omega | (simp; done) | (simp; omega)) _ | refine Below.trans ?_ (Below.mono (by assumption) (by first | omega | (simp; done) | (simp; omega)))))
  have t11 : Below w.heap.size w w11 := t10.trans (j11.mono t10.size)
  replace hs := hs.below j11
  replace hr := hr.below j11
  replace hw := hw.below j11
  replace q0 := below_cell j11 q0
  replace q1 := below_cell j11 q1
  replace q2 := below_cell j11 q2
  replace lB := Nat.lt_of_lt_of_le lB j11.size
  replace tA := tA.below j11
  replace x0 := below_cell j11 x0
  replace x1 := below_cell j11 x1
  replace x2 := below_cell j11 x2
  replace lx := Nat.lt_of_lt_of_le lx j11.size
  replace i5 := i5.below j11
  replace i6 := i6.below j11
  replace i7 := i7.below j11
  go_wp2_with fail
  go_at_call 32
  refine (spansX_eq a8 c8 r8 d8 p _ 30 0 (spansF (withPat p 30) p.sends.length) p.sends.length HX HSX HnX s8 o8 SM).mono ?_
  rintro e w12 ⟨⟨e8, f8, rfl, i8⟩, b12⟩
  have j12 : Below w11.heap.size w11 w12 := by (repeat (first | exact Below.refl _ _ | refine Below.alloc ?_ (by first | omega | (simp; done) | (simp; omega)) _ | refine Below.drew ?_ | refine Below.setCell ?_ (by first | omega | (simp; done) | (simp; omega)) _ | refine Below.trans ?_ (Below.mono (by assumption) (by first | omega | (simp; done) | (simp; omega)))))
  have t12 : Below w.heap.size w w12 := t11.trans (j12.mono t11.size)
  replace hs := hs.below j12
  replace hr := hr.below j12
  replace hw := hw.below j12
  replace q0 := below_cell j12 q0
  replace q1 := below_cell j12 q1
  replace q2 := below_cell j12 q2
  replace lB := Nat.lt_of_lt_of_le lB j12.size
  replace tA := tA.below j12
  replace x0 := below_cell j12 x0
  replace x1 := below_cell j12 x1
  replace x2 := below_cell j12 x2
  replace lx := Nat.lt_of_lt_of_le lx j12.size
  replace i5 := i5.below j12
  replace i6 := i6.below j12
  replace i7 := i7.below j12
  replace s8 := s8.below j12
  replace o8 := o8.below j12
  clear s8 o8
  go_wp2_with fail
  go_loopw [17] (fun u wr => ∃ k : Nat, k ≤ p.sends.length ∧ u = .int .i64 k ∧ Below w12.heap.size w12 wr) (fun u _ => p.sends.length - (intOf u).toNat)
  case atStart => exact ⟨0, Nat.zero_le _, rfl, Below.refl _ _⟩
  case round =>
    obtain ⟨k, hk, rfl, hb6⟩ := hrel
    have z6 := hb6.size
    by_cases hkl : k < p.sends.length
    · have hkI : (k : Int) < (p.sends.length : Int) := by omega
      have hk1 : k < O1.length := by rw [Hn1.out]; exact hkl
      have hk2 : k < O2.length := by rw [Hn2.out]; exact hkl
      obtain ⟨g1, off1, rfl, hg1, y0, y1, y2⟩ := (i5.below hb6) k hk1
      obtain ⟨g2, off2, rfl, hg2, z0, z1, z2⟩ := (i6.below hb6) k hk2
      have hle := Hmono.out k hk1 hk2
      obtain ⟨⟨s0, s1, s2⟩, hs1⟩ : ∃ x, O1[k] = x := ⟨_, rfl⟩
      obtain ⟨⟨r0, r1, r2⟩, hr1⟩ : ∃ x, O2[k] = x := ⟨_, rfl⟩
      rw [hs1] at y0 y1 y2 hle
      rw [hr1] at z0 z1 z2 hle
      simp only at y0 y1 y2 z0 z1 z2 hle
      have n1 : ¬ (r1 < s1) := by omega
      have d1 : decide (r1 < s1) = false := decide_eq_false n1
      have Hl := Lib.hid hle.1
      clear hs1 hr1 hk1 hk2 hle
      cases r2
      · go_wp2
        (refine wp_region_ext 26 (by kernel_rfl) (by kernel_rfl) ?_; simp only [List.take_succ_cons, List.take_zero, List.drop_succ_cons, List.drop_zero]; (repeat (go_big_quiet_step ((fail)))); refine wpQuiet_nil ?_; rintro _ ⟨ex, rfl⟩; have hex := ex.below; have hexz := ex.size; (try simp at hexz); (try (have hy0 : w.heap.size < ex.to.heap.size := by omega)); (try (have hy1 : w.heap.size + 1 < ex.to.heap.size := by omega)); (try (have hy2 : w.heap.size + 2 < ex.to.heap.size := by omega)))
        go_wp2
        go_roundw
        case rel => exact ⟨k + 1, by omega, by go_num, hb6.trans (ex.below.mono z6)⟩
        case measure => simp [intOf]; omega
      · obtain rfl : s2 = true := Hl.out rfl
        go_wp2
        (refine wp_region_ext 26 (by kernel_rfl) (by kernel_rfl) ?_; simp only [List.take_succ_cons, List.take_zero, List.drop_succ_cons, List.drop_zero]; (repeat (go_big_quiet_step ((fail)))); refine wpQuiet_nil ?_; rintro _ ⟨ex, rfl⟩; have hex := ex.below; have hexz := ex.size; (try simp at hexz); (try (have hy0 : w.heap.size < ex.to.heap.size := by omega)); (try (have hy1 : w.heap.size + 1 < ex.to.heap.size := by omega)); (try (have hy2 : w.heap.size + 2 < ex.to.heap.size := by omega)))
        go_wp2
        go_roundw
        case rel => exact ⟨k + 1, by omega, by go_num, hb6.trans (ex.below.mono z6)⟩
        case measure => simp [intOf]; omega
    · have hkI : ¬ ((k : Int) < (p.sends.length : Int)) := by omega
      go_wp2
      go_loopw [18] (fun u wr => ∃ k : Nat, k ≤ p.sends.length ∧ u = .int .i64 k ∧ Below w12.heap.size w12 wr) (fun u _ => p.sends.length - (intOf u).toNat)
      case atStart => exact ⟨0, Nat.zero_le _, rfl, hb6⟩
      case round =>
        clear hkI hk hb6 z6 hkl
        obtain ⟨q, hq, rfl, hb7⟩ := hrel
        have z7 := hb7.size
        by_cases hql : q < p.sends.length
        · have hqI : (q : Int) < (p.sends.length : Int) := by omega
          have hqA : q < (spansF p p.sends.length).length := by rw [HnS.out]; exact hql
          have hqB : q < (spansF (withPat p 30) p.sends.length).length := by rw [HnX.out]; exact hql
          obtain ⟨g1, off1, rfl, hg1, y0, y1⟩ := (i7.below hb7) q hqA
          obtain ⟨g2, off2, rfl, hg2, z0, z1⟩ := (i8.below hb7) q hqB
          rw [show (spansF p p.sends.length)[q] = spanAt p q by simp [spansF]] at y0 y1
          rw [show (spansF (withPat p 30) p.sends.length)[q] = spanAt (withPat p 30) q by simp [spansF]] at z0 z1
          have hle := Hsp.out q
          obtain ⟨⟨s0, s1⟩, hs1⟩ : ∃ x, spanAt p q = x := ⟨_, rfl⟩
          obtain ⟨⟨r0, r1⟩, hr1⟩ : ∃ x, spanAt (withPat p 30) q = x := ⟨_, rfl⟩
          rw [hs1] at y0 y1 hle
          rw [hr1] at z0 z1 hle
          simp only at y0 y1 z0 z1 hle
          have n0 : ¬ (r0 < s0) := by omega
          have n1 : ¬ (r1 < s1) := by omega
          have d0 : decide (r0 < s0) = false := decide_eq_false n0
          have d1 : decide (r1 < s1) = false := decide_eq_false n1
          clear hs1 hr1 hqA hqB hle
          go_wp2
          (refine wp_region_ext 24 (by kernel_rfl) (by kernel_rfl) ?_; simp only [List.take_succ_cons, List.take_zero, List.drop_succ_cons, List.drop_zero]; (repeat (go_big_quiet_step ((fail)))); refine wpQuiet_nil ?_; rintro _ ⟨ex, rfl⟩; have hex := ex.below; have hexz := ex.size; (try simp at hexz); (try (have hy0 : w.heap.size < ex.to.heap.size := by omega)); (try (have hy1 : w.heap.size + 1 < ex.to.heap.size := by omega)); (try (have hy2 : w.heap.size + 2 < ex.to.heap.size := by omega)))
          go_wp2
          go_roundw
          case rel => exact ⟨q + 1, by omega, by go_num, hb7.trans (ex.below.mono z7)⟩
          case measure => simp [intOf]; omega
        · have hqI : ¬ ((q : Int) < (p.sends.length : Int)) := by omega
          go_wp2_with fail
          go_at_call 19
          refine (awake_any _).mono ?_
          rintro e x3 ⟨rfl, b3⟩
          go_wp2_with fail
          go_ret
          exact ⟨rfl, t12.trans ((hb7.trans (b3.mono z7)).mono t12.size)⟩

theorem pat_walk (a : Option Addr) (c : Nat) (ar : Option Addr) (cr : Nat) (p : Post) (aw : Option Addr) (ws : List Int) (cw : Nat) (y : Int) (w : World) (hs : IntsAt w a p.sends) (hr : RoutesAt w ar p.routes) (na : a = none → c = 0) (big : PostBig p) (hw : U16At w aw ws) (_ : aw = none → cw = 0) (lw0 : ws.length ≤ cw) (lw1 : cw ≤ maxLen) (hu : U16s ws) (hy : (Lit.int .u8 y).wf = true) :
    Calls Try.prog 9 #[.agg #[.slice a p.sends.length c, .slice ar p.routes.length cr, .int .i64 p.pat], .slice aw ws.length cw, .int .u8 y] w fun e w' => e = .returned (.bool true) ∧ Below w.heap.size w w' := by
  cases hT : readyB p
  · exact pat_a1 a c ar cr p aw ws cw y w hs hr na big hw ‹_› lw0 lw1 hu hy hT
  · by_cases h30 : 30 ≤ p.pat + ((y.toNat % 16 : Nat) : Int)
    · exact pat_a3 a c ar cr p aw ws cw y w hs hr na big hw ‹_› lw0 lw1 hu hy hT _ rfl h30
    · exact pat_a2 a c ar cr p aw ws cw y w hs hr na big hw ‹_› lw0 lw1 hu hy hT _ rfl h30
end Go.Proofs.Ytfclemnkcpadpaa
