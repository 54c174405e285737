/- PayBounds: the walk -/
import Derived.Test.YtomjlmhnjgohdaaEb
namespace Go.Proofs.Ytomjlmhnjgohdaa
set_option linter.unusedVariables false
set_option linter.unusedSimpArgs false
set_option linter.unnecessarySimpa false
open Go.RowKit Go.Flow Go.Shelf

section
variable (st rate keeps : Int) (ds : List Dis) (ad : Option Addr) (cd : Nat) (w : World)
theorem boundsBad_eq (E : Int) (HE : Hid (accErr ⟨st, rate, keeps, ds⟩ = E)) (hne : E ≠ 0) (hd : DisAt w ad ds) (SM : Hid (AccSmall ⟨st, rate, keeps, ds⟩)) :
    Calls Try.prog 40 #[.agg #[.int .i64 st, .int .i64 rate, .int .i64 keeps, .slice ad ds.length cd]] w fun e w' => e = .returned (.tuple #[.slice none 0 0, .int .i64 E]) ∧ Below w.heap.size w w' :=
  Bounds_bad st rate keeps ds ad cd w hd SM.out E HE.out hne
theorem bounds_eq (O : List (Int × Int)) (H0 : Hid (accErr ⟨st, rate, keeps, ds⟩ = 0)) (HO : Hid (bdOut ⟨st, rate, keeps, ds⟩ = O)) (hd : DisAt w ad ds) (SM : Hid (AccSmall ⟨st, rate, keeps, ds⟩)) :
    Calls Try.prog 40 #[.agg #[.int .i64 st, .int .i64 rate, .int .i64 keeps, .slice ad ds.length cd]] w fun e w' => (∃ a c, e = .returned (.tuple #[.slice a O.length c, .int .i64 0]) ∧ Recs2At w' a O) ∧ Below w.heap.size w w' := by
  rw [← HO.out]
  exact Bounds_good st rate keeps ds ad cd w hd SM.out H0.out
theorem reachBad_eq (sx : Int) (high : Bool) (E : Int) (HE : Hid (accErr ⟨st, rate, keeps, ds⟩ = E)) (hne : E ≠ 0) (hd : DisAt w ad ds) (SM : Hid (AccSmall ⟨st, rate, keeps, ds⟩)) :
    Calls Try.prog 42 #[.agg #[.int .i64 st, .int .i64 rate, .int .i64 keeps, .slice ad ds.length cd], .int .i64 sx, .bool high] w fun e w' => e = .returned (.tuple #[.slice none 0 0, .int .i64 E]) ∧ Below w.heap.size w w' :=
  Reach_bad st rate keeps ds ad cd sx w hd SM.out high E HE.out hne
theorem reachOut_eq (sx : Int) (high : Bool) (H0 : Hid (accErr ⟨st, rate, keeps, ds⟩ = 0)) (Hs : Hid (inR sx 0 (st - 1) = false)) (hd : DisAt w ad ds) (SM : Hid (AccSmall ⟨st, rate, keeps, ds⟩)) :
    Calls Try.prog 42 #[.agg #[.int .i64 st, .int .i64 rate, .int .i64 keeps, .slice ad ds.length cd], .int .i64 sx, .bool high] w fun e w' => e = .returned (.tuple #[.slice none 0 0, .int .i64 2]) ∧ Below w.heap.size w w' :=
  Reach_out st rate keeps ds ad cd sx w hd SM.out high H0.out Hs.out
theorem reach_eq (sx : Int) (high : Bool) (R : List Int) (H0 : Hid (accErr ⟨st, rate, keeps, ds⟩ = 0)) (Hs : Hid (inR sx 0 (st - 1) = true)) (HR : Hid (reachL rate keeps (endX high) sx ds ds.length = R)) (hd : DisAt w ad ds) (SM : Hid (AccSmall ⟨st, rate, keeps, ds⟩)) :
    Calls Try.prog 42 #[.agg #[.int .i64 st, .int .i64 rate, .int .i64 keeps, .slice ad ds.length cd], .int .i64 sx, .bool high] w fun e w' => (∃ a c, e = .returned (.tuple #[.slice a R.length c, .int .i64 0]) ∧ IntsAt w' a R) ∧ Below w.heap.size w w' := by
  rw [← HR.out, reachL_len]
  exact Reach_in st rate keeps ds ad cd sx w hd SM.out high H0.out Hs.out
theorem rReach_eq (s : Nat) (high : Bool) (R : List Int) (m : Int) (H0 : Hid (accErr ⟨st, rate, keeps, ds⟩ = 0)) (Hs : Hid ((s : Int) < st)) (HR : Hid (reachL rate keeps (endX high) (s : Int) ds ds.length = R)) (Hm : Hid (endB rate keeps ds (endX high) (s : Int) = m)) (hd : DisAt w ad ds) :
    Calls Try.prog 43 #[.agg #[.int .i64 st, .int .i64 rate, .int .i64 keeps, .slice ad ds.length cd], .int .i64 (s : Int), .bool high] w fun e w' => (∃ a c, e = .returned (.tuple #[.slice a R.length c, .int .i64 m]) ∧ IntsAt w' a R) ∧ Below w.heap.size w w' := by
  rw [← HR.out, ← Hm.out, reachL_len]
  exact rReach_any st rate keeps ds ad cd s high w hd H0.out Hs.out
end

set_option maxRecDepth 100000 in
set_option maxHeartbeats 8000000 in
theorem bounds_b1 (st rate keeps : Int) (ds : List Dis) (ad : Option Addr) (cd : Nat) (sx : Int) (high : Bool) (w : World) (hd : DisAt w ad ds) (big : AccBig ds) (hT : thinB ds = false) :
    Calls Try.prog 11 #[.agg #[.int .i64 st, .int .i64 rate, .int .i64 keeps, .slice ad ds.length cd], .int .i64 sx, .bool high] w fun e w' => e = .returned (.bool true) ∧ Below w.heap.size w w' := by
  have HB := Lib.hid big
  have HT := Lib.hid hT
  clear hT big
  go_enter Try.func11, Try.ntmps11
  go_wp2_with fail
  go_at_call 16
  refine (thin_eq st rate keeps ds ad cd _ false HT (hd.below (by (repeat (first | exact Below.refl _ _ | refine Below.alloc ?_ (by first | omega | (simp; done) | (simp; omega)) _ | refine Below.drew ?_ | refine Below.setCell ?_ (by first | omega | (simp; done) | (simp; omega)) _ | refine Below.trans ?_ (Below.mono (by assumption) (by first | omega | (simp; done) | (simp; omega))))))) HB).mono ?_
  rintro e w1 ⟨rfl, b1⟩
  have t1 : Below w.heap.size w w1 := by (repeat (first | exact Below.refl _ _ | refine Below.alloc ?_ (by first | omega | (simp; done) | (simp; omega)) _ | refine Below.drew ?_ | refine Below.setCell ?_ (by first | omega | (simp; done) | (simp; omega)) _ | refine Below.trans ?_ (Below.mono (by assumption) (by first | omega | (simp; done) | (simp; omega)))))
  replace hd := hd.below t1
  have q0 := box_cells b1 0 rfl
  have q1 := box_cells b1 1 rfl
  have q2 := box_cells b1 2 rfl
  have q3 := box_cells b1 3 rfl
  have lB := cell_ltK q0
  go_wp2_with fail
  go_at_call 17
  refine (awake_any _).mono ?_
  rintro e w2 ⟨rfl, b2⟩
  have j2 : Below w1.heap.size w1 w2 := by (repeat (first | exact Below.refl _ _ | refine Below.alloc ?_ (by first | omega | (simp; done) | (simp; omega)) _ | refine Below.drew ?_ | refine Below.setCell ?_ (by first | omega | (simp; done) | (simp; omega)) _ | refine Below.trans ?_ (Below.mono (by assumption) (by first | omega | (simp; done) | (simp; omega)))))
  have t2 : Below w.heap.size w w2 := t1.trans (j2.mono t1.size)
  replace hd := hd.below j2
  replace q0 := below_cell j2 q0
  replace q1 := below_cell j2 q1
  replace q2 := below_cell j2 q2
  replace q3 := below_cell j2 q3
  replace lB := Nat.lt_of_lt_of_le lB j2.size
  go_wp2_with fail
  go_ret
  exact ⟨rfl, t2⟩
set_option maxRecDepth 100000 in
set_option maxHeartbeats 8000000 in
theorem bounds_b2 (st rate keeps : Int) (ds : List Dis) (ad : Option Addr) (cd : Nat) (sx : Int) (high : Bool) (w : World) (hd : DisAt w ad ds) (big : AccBig ds) (hT : thinB ds = true) (E : Int) (hE : accErr ⟨st, rate, keeps, ds⟩ = E) (hne : E ≠ 0) :
    Calls Try.prog 11 #[.agg #[.int .i64 st, .int .i64 rate, .int .i64 keeps, .slice ad ds.length cd], .int .i64 sx, .bool high] w fun e w' => e = .returned (.bool true) ∧ Below w.heap.size w w' := by
  have HB := Lib.hid big
  have HT := Lib.hid hT
  have SM := Lib.hid (thin_small (st := st) (rate := rate) (keeps := keeps) hT)
  have HE := Lib.hid hE
  have hne1 : (E != 0) = true := by simpa using hne
  clear hT big hE
  go_enter Try.func11, Try.ntmps11
  go_wp2_with fail
  go_at_call 16
  refine (thin_eq st rate keeps ds ad cd _ true HT (hd.below (by (repeat (first | exact Below.refl _ _ | refine Below.alloc ?_ (by first | omega | (simp; done) | (simp; omega)) _ | refine Below.drew ?_ | refine Below.setCell ?_ (by first | omega | (simp; done) | (simp; omega)) _ | refine Below.trans ?_ (Below.mono (by assumption) (by first | omega | (simp; done) | (simp; omega))))))) HB).mono ?_
  rintro e w1 ⟨rfl, b1⟩
  have t1 : Below w.heap.size w w1 := by (repeat (first | exact Below.refl _ _ | refine Below.alloc ?_ (by first | omega | (simp; done) | (simp; omega)) _ | refine Below.drew ?_ | refine Below.setCell ?_ (by first | omega | (simp; done) | (simp; omega)) _ | refine Below.trans ?_ (Below.mono (by assumption) (by first | omega | (simp; done) | (simp; omega)))))
  replace hd := hd.below t1
  have q0 := box_cells b1 0 rfl
  have q1 := box_cells b1 1 rfl
  have q2 := box_cells b1 2 rfl
  have q3 := box_cells b1 3 rfl
  have lB := cell_ltK q0
  go_wp2_with fail
  go_at_call 19
  refine (account_eq st rate keeps ds ad cd _ hd SM).mono ?_
  rintro e w2 ⟨⟨aX, cX, rfl, dX⟩, b2⟩
  have j2 : Below w1.heap.size w1 w2 := by (repeat (first | exact Below.refl _ _ | refine Below.alloc ?_ (by first | omega | (simp; done) | (simp; omega)) _ | refine Below.drew ?_ | refine Below.setCell ?_ (by first | omega | (simp; done) | (simp; omega)) _ | refine Below.trans ?_ (Below.mono (by assumption) (by first | omega | (simp; done) | (simp; omega)))))
  have t2 : Below w.heap.size w w2 := t1.trans (j2.mono t1.size)
  replace hd := hd.below j2
  replace q0 := below_cell j2 q0
  replace q1 := below_cell j2 q1
  replace q2 := below_cell j2 q2
  replace q3 := below_cell j2 q3
  replace lB := Nat.lt_of_lt_of_le lB j2.size
  go_wp2_with fail
  go_at_call 40
  refine (boundsBad_eq st rate keeps ds aX cX _ E HE hne dX SM).mono ?_
  rintro e w3 ⟨rfl, b3⟩
  have j3 : Below w2.heap.size w2 w3 := by (repeat (first | exact Below.refl _ _ | refine Below.alloc ?_ (by first | omega | (simp; done) | (simp; omega)) _ | refine Below.drew ?_ | refine Below.setCell ?_ (by first | omega | (simp; done) | (simp; omega)) _ | refine Below.trans ?_ (Below.mono (by assumption) (by first | omega | (simp; done) | (simp; omega)))))
  have t3 : Below w.heap.size w w3 := t2.trans (j3.mono t2.size)
  replace hd := hd.below j3
  replace q0 := below_cell j3 q0
  replace q1 := below_cell j3 q1
  replace q2 := below_cell j3 q2
  replace q3 := below_cell j3 q3
  replace lB := Nat.lt_of_lt_of_le lB j3.size
  replace dX := dX.below j3
  clear dX
  go_wp2_with fail
  go_at_call 19
  refine (account_eq st rate keeps ds ad cd _ hd SM).mono ?_
  rintro e w4 ⟨⟨aY, cY, rfl, dY⟩, b4⟩
  have j4 : Below w3.heap.size w3 w4 := by (repeat (first | exact Below.refl _ _ | refine Below.alloc ?_ (by first | omega | (simp; done) | (simp; omega)) _ | refine Below.drew ?_ | refine Below.setCell ?_ (by first | omega | (simp; done) | (simp; omega)) _ | refine Below.trans ?_ (Below.mono (by assumption) (by first | omega | (simp; done) | (simp; omega)))))
  have t4 : Below w.heap.size w w4 := t3.trans (j4.mono t3.size)
  replace hd := hd.below j4
  replace q0 := below_cell j4 q0
  replace q1 := below_cell j4 q1
  replace q2 := below_cell j4 q2
  replace q3 := below_cell j4 q3
  replace lB := Nat.lt_of_lt_of_le lB j4.size
  go_wp2_with fail
  go_at_call 42
  refine (reachBad_eq st rate keeps ds aY cY _ sx high E HE hne dY SM).mono ?_
  rintro e w5 ⟨rfl, b5⟩
  have j5 : Below w4.heap.size w4 w5 := by (repeat (first | exact Below.refl _ _ | refine Below.alloc ?_ (by first | omega | (simp; done) | (simp; omega)) _ | refine Below.drew ?_ | refine Below.setCell ?_ (by first | omega | (simp; done) | (simp; omega)) _ | refine Below.trans ?_ (Below.mono (by assumption) (by first | omega | (simp; done) | (simp; omega)))))
  have t5 : Below w.heap.size w w5 := t4.trans (j5.mono t4.size)
  replace hd := hd.below j5
  replace q0 := below_cell j5 q0
  replace q1 := below_cell j5 q1
  replace q2 := below_cell j5 q2
  replace q3 := below_cell j5 q3
  replace lB := Nat.lt_of_lt_of_le lB j5.size
  replace dY := dY.below j5
  clear dY
  go_wp2_with fail
  go_at_call 23
  refine (fault_eq st rate keeps ds ad cd _ E HE hd SM).mono ?_
  rintro e w6 ⟨rfl, b6⟩
  have j6 : Below w5.heap.size w5 w6 := by (repeat (first | exact Below.refl _ _ | refine Below.alloc ?_ (by first | omega | (simp; done) | (simp; omega)) _ | refine Below.drew ?_ | refine Below.setCell ?_ (by first | omega | (simp; done) | (simp; omega)) _ | refine Below.trans ?_ (Below.mono (by assumption) (by first | omega | (simp; done) | (simp; omega)))))
  have t6 : Below w.heap.size w w6 := t5.trans (j6.mono t5.size)
  replace hd := hd.below j6
  replace q0 := below_cell j6 q0
  replace q1 := below_cell j6 q1
  replace q2 := below_cell j6 q2
  replace q3 := below_cell j6 q3
  replace lB := Nat.lt_of_lt_of_le lB j6.size
  go_wp2_with fail
  go_at_call 17
  refine (awake_any _).mono ?_
  rintro e w7 ⟨rfl, b7⟩
  have j7 : Below w6.heap.size w6 w7 := by (repeat (first | exact Below.refl _ _ | refine Below.alloc ?_ (by first | omega | (simp; done) | (simp; omega)) _ | refine Below.drew ?_ | refine Below.setCell ?_ (by first | omega | (simp; done) | (simp; omega)) _ | refine Below.trans ?_ (Below.mono (by assumption) (by first | omega | (simp; done) | (simp; omega)))))
  have t7 : Below w.heap.size w w7 := t6.trans (j7.mono t6.size)
  replace hd := hd.below j7
  replace q0 := below_cell j7 q0
  replace q1 := below_cell j7 q1
  replace q2 := below_cell j7 q2
  replace q3 := below_cell j7 q3
  replace lB := Nat.lt_of_lt_of_le lB j7.size
  go_wp2_with fail
  go_ret
  exact ⟨rfl, t7⟩
set_option maxRecDepth 100000 in
set_option maxHeartbeats 8000000 in
theorem bounds_b3 (st rate keeps : Int) (ds : List Dis) (ad : Option Addr) (cd : Nat) (sx : Int) (high : Bool) (w : World) (hd : DisAt w ad ds) (big : AccBig ds) (hT : thinB ds = true) (h0 : accErr ⟨st, rate, keeps, ds⟩ = 0) (hs : inR sx 0 (st - 1) = false) :
    Calls Try.prog 11 #[.agg #[.int .i64 st, .int .i64 rate, .int .i64 keeps, .slice ad ds.length cd], .int .i64 sx, .bool high] w fun e w' => e = .returned (.bool true) ∧ Below w.heap.size w w' := by
  have HB := Lib.hid big
  have HT := Lib.hid hT
  have SM := Lib.hid (thin_small (st := st) (rate := rate) (keeps := keeps) hT)
  have H0 := Lib.hid h0
  have hst := (accErr_ok h0).st
  simp only at hst
  obtain ⟨n, rfl⟩ : ∃ n : Nat, st = (n : Int) := ⟨st.toNat, by omega⟩
  have wst : IntKind.i64.wrap ((n : Int) - 1) = (n : Int) - 1 := IntWalk.i64_in _ (by omega)
  obtain ⟨O, hO⟩ : ∃ O, bdOut ⟨(n : Int), rate, keeps, ds⟩ = O := ⟨_, rfl⟩
  have HO := Lib.hid hO
  have hOd : bdL rate keeps ds n = O := by rw [← hO, bdOut, if_pos h0]; simp
  have HOd := Lib.hid hOd
  have hOn : O.length = n := by rw [← hOd]; simp [bdL]
  have HOn := Lib.hid hOn
  have hOb : ((O.length : Int) != (n : Int)) = false := by simp [hOn]
  have hOl : O.length ≤ 1000 := by omega
  have hn1 : n ≤ 1000 := by omega
  have Hs := Lib.hid hs
  clear hs
  clear hT big h0 hO hOd hOn hst
  go_enter Try.func11, Try.ntmps11
  go_wp2_with fail
  go_at_call 16
  refine (thin_eq (n : Int) rate keeps ds ad cd _ true HT (hd.below (by (repeat (first | exact Below.refl _ _ | refine Below.alloc ?_ (by first | omega | (simp; done) | (simp; omega)) _ | refine Below.drew ?_ | refine Below.setCell ?_ (by first | omega | (simp; done) | (simp; omega)) _ | refine Below.trans ?_ (Below.mono (by assumption) (by first | omega | (simp; done) | (simp; omega))))))) HB).mono ?_
  rintro e w1 ⟨rfl, b1⟩
  have t1 : Below w.heap.size w w1 := by (repeat (first | exact Below.refl _ _ | refine Below.alloc ?_ (by first | omega | (simp; done) | (simp; omega)) _ | refine Below.drew ?_ | refine Below.setCell ?_ (by first | omega | (simp; done) | (simp; omega)) _ | refine Below.trans ?_ (Below.mono (by assumption) (by first | omega | (simp; done) | (simp; omega)))))
  replace hd := hd.below t1
  have q0 := box_cells b1 0 rfl
  have q1 := box_cells b1 1 rfl
  have q2 := box_cells b1 2 rfl
  have q3 := box_cells b1 3 rfl
  have lB := cell_ltK q0
  go_wp2_with fail
  go_at_call 19
  refine (account_eq (n : Int) rate keeps ds ad cd _ hd SM).mono ?_
  rintro e w2 ⟨⟨aX, cX, rfl, dX⟩, b2⟩
  have j2 : Below w1.heap.size w1 w2 := by (repeat (first | exact Below.refl _ _ | refine Below.alloc ?_ (by first | omega | (simp; done) | (simp; omega)) _ | refine Below.drew ?_ | refine Below.setCell ?_ (by first | omega | (simp; done) | (simp; omega)) _ | refine Below.trans ?_ (Below.mono (by assumption) (by first | omega | (simp; done) | (simp; omega)))))
  have t2 : Below w.heap.size w w2 := t1.trans (j2.mono t1.size)
  replace hd := hd.below j2
  replace q0 := below_cell j2 q0
  replace q1 := below_cell j2 q1
  replace q2 := below_cell j2 q2
  replace q3 := below_cell j2 q3
  replace lB := Nat.lt_of_lt_of_le lB j2.size
  go_wp2_with fail
  go_at_call 40
  refine (bounds_eq (n : Int) rate keeps ds aX cX _ O H0 HO dX SM).mono ?_
  rintro e w3 ⟨⟨aO, cO, rfl, iO⟩, b3⟩
  have j3 : Below w2.heap.size w2 w3 := by (repeat (first | exact Below.refl _ _ | refine Below.alloc ?_ (by first | omega | (simp; done) | (simp; omega)) _ | refine Below.drew ?_ | refine Below.setCell ?_ (by first | omega | (simp; done) | (simp; omega)) _ | refine Below.trans ?_ (Below.mono (by assumption) (by first | omega | (simp; done) | (simp; omega)))))
  have t3 : Below w.heap.size w w3 := t2.trans (j3.mono t2.size)
  replace hd := hd.below j3
  replace q0 := below_cell j3 q0
  replace q1 := below_cell j3 q1
  replace q2 := below_cell j3 q2
  replace q3 := below_cell j3 q3
  replace lB := Nat.lt_of_lt_of_le lB j3.size
  replace dX := dX.below j3
  clear dX
  go_wp2_with fail
  go_at_call 19
  refine (account_eq (n : Int) rate keeps ds ad cd _ hd SM).mono ?_
  rintro e w4 ⟨⟨aY, cY, rfl, dY⟩, b4⟩
  have j4 : Below w3.heap.size w3 w4 := by (repeat (first | exact Below.refl _ _ | refine Below.alloc ?_ (by first | omega | (simp; done) | (simp; omega)) _ | refine Below.drew ?_ | refine Below.setCell ?_ (by first | omega | (simp; done) | (simp; omega)) _ | refine Below.trans ?_ (Below.mono (by assumption) (by first | omega | (simp; done) | (simp; omega)))))
  have t4 : Below w.heap.size w w4 := t3.trans (j4.mono t3.size)
  replace hd := hd.below j4
  replace q0 := below_cell j4 q0
  replace q1 := below_cell j4 q1
  replace q2 := below_cell j4 q2
  replace q3 := below_cell j4 q3
  replace lB := Nat.lt_of_lt_of_le lB j4.size
  replace iO := iO.below j4
  go_wp2_with fail
  go_at_call 42
  refine (reachOut_eq (n : Int) rate keeps ds aY cY _ sx high H0 Hs dY SM).mono ?_
  rintro e w5 ⟨rfl, b5⟩
  have j5 : Below w4.heap.size w4 w5 := by (repeat (first | exact Below.refl _ _ | refine Below.alloc ?_ (by first | omega | (simp; done) | (simp; omega)) _ | refine Below.drew ?_ | refine Below.setCell ?_ (by first | omega | (simp; done) | (simp; omega)) _ | refine Below.trans ?_ (Below.mono (by assumption) (by first | omega | (simp; done) | (simp; omega)))))
  have t5 : Below w.heap.size w w5 := t4.trans (j5.mono t4.size)
  replace hd := hd.below j5
  replace q0 := below_cell j5 q0
  replace q1 := below_cell j5 q1
  replace q2 := below_cell j5 q2
  replace q3 := below_cell j5 q3
  replace lB := Nat.lt_of_lt_of_le lB j5.size
  replace iO := iO.below j5
  replace dY := dY.below j5
  clear dY
  go_wp2_with fail
  go_at_call 23
  refine (fault_eq (n : Int) rate keeps ds ad cd _ 0 H0 hd SM).mono ?_
  rintro e w6 ⟨rfl, b6⟩
  have j6 : Below w5.heap.size w5 w6 := by (repeat (first | exact Below.refl _ _ | refine Below.alloc ?_ (by first | omega | (simp; done) | (simp; omega)) _ | refine Below.drew ?_ | refine Below.setCell ?_ (by first | omega | (simp; done) | (simp; omega)) _ | refine Below.trans ?_ (Below.mono (by assumption) (by first | omega | (simp; done) | (simp; omega)))))
  have t6 : Below w.heap.size w w6 := t5.trans (j6.mono t5.size)
  replace hd := hd.below j6
  replace q0 := below_cell j6 q0
  replace q1 := below_cell j6 q1
  replace q2 := below_cell j6 q2
  replace q3 := below_cell j6 q3
  replace lB := Nat.lt_of_lt_of_le lB j6.size
  replace iO := iO.below j6
  have TB := t6
  go_wp2_with fail
  go_loopw [12, 13, 14, 15, 16] (fun v _ _ _ _ X => ∃ k : Nat, k ≤ n ∧ v = .int .i64 k ∧ Below w6.heap.size w6 X) (fun v _ _ _ _ _ => n - (intOf v).toNat)
  case atStart => exact ⟨0, Nat.zero_le _, rfl, Below.refl _ _⟩
  case round =>
    obtain ⟨k, k2, rfl, hbX⟩ := hrel
    rename World => X
    have iX := iO.below hbX
    have dX := hd.below hbX
    replace q0 := below_cell hbX q0
    replace q1 := below_cell hbX q1
    replace q2 := below_cell hbX q2
    replace q3 := below_cell hbX q3
    replace lB := Nat.lt_of_lt_of_le lB hbX.size
    clear iO hd
    by_cases hlt : k < n
    · have hkI : (k : Int) < (n : Int) := by omega
      have Hk := Lib.hid hkI
      have hkO : k < O.length := by rw [HOn.out]; exact hlt
      have HOk : Hid (O[k] = (endB rate keeps ds (endX false) (k : Int), endB rate keeps ds (endX true) (k : Int))) := Lib.hid (by
        have : O[k]? = some (endB rate keeps ds (endX false) (k : Int), endB rate keeps ds (endX true) (k : Int)) := by rw [← HOd.out, bdL]; simp [hlt]; exact ⟨rfl, rfl⟩
        rw [List.getElem?_eq_getElem hkO] at this
        exact Option.some.inj this)
      obtain ⟨bO, oO, rfl, lO, c1, c2⟩ := iX k hkO
      rw [HOk.out] at c1 c2
      have hkO2 : (k : Int) < (O.length : Int) := by omega
      obtain ⟨lo, hlo⟩ : ∃ z, endB rate keeps ds (endX false) (k : Int) = z := ⟨_, rfl⟩
      obtain ⟨mo, hmo⟩ : ∃ z, endB rate keeps ds (endX true) (k : Int) = z := ⟨_, rfl⟩
      obtain ⟨L1, hL1⟩ : ∃ z, reachL rate keeps (endX false) (k : Int) ds ds.length = z := ⟨_, rfl⟩
      obtain ⟨L2, hL2⟩ : ∃ z, reachL rate keeps (endX true) (k : Int) ds ds.length = z := ⟨_, rfl⟩
      simp only [hlo] at c1
      simp only [hmo] at c2
      have Hlo := Lib.hid hlo
      have Hmo := Lib.hid hmo
      have HL1 := Lib.hid hL1
      have HL2 := Lib.hid hL2
      clear hlo hmo hL1 hL2 HOk iX
      go_wp2_with fail
      go_at_call 43
      refine (rReach_eq (n : Int) rate keeps ds ad cd _ k false L1 lo H0 Hk HL1 Hlo dX).mono ?_
      rintro e y1 ⟨⟨aL0, cL0, rfl, -⟩, d1⟩
      have s1 : Below X.heap.size X y1 := by (repeat (first | exact Below.refl _ _ | refine Below.alloc ?_ (by first | omega | (simp; done) | (simp; omega)) _ | refine Below.drew ?_ | refine Below.setCell ?_ (by first | omega | (simp; done) | (simp; omega)) _ | refine Below.trans ?_ (Below.mono (by assumption) (by first | omega | (simp; done) | (simp; omega)))))
      replace dX := dX.below s1
      replace q0 := below_cell s1 q0
      replace q1 := below_cell s1 q1
      replace q2 := below_cell s1 q2
      replace q3 := below_cell s1 q3
      replace c1 := below_cell s1 c1
      replace c2 := below_cell s1 c2
      replace lB := Nat.lt_of_lt_of_le lB s1.size
      replace lO := Nat.lt_of_lt_of_le lO s1.size
      go_wp2_with fail
      go_at_call 43
      refine (rReach_eq (n : Int) rate keeps ds ad cd _ k true L2 mo H0 Hk HL2 Hmo dX).mono ?_
      rintro e y2 ⟨⟨aL1, cL1, rfl, -⟩, d2⟩
      have i2 : Below y1.heap.size y1 y2 := by (repeat (first | exact Below.refl _ _ | refine Below.alloc ?_ (by first | omega | (simp; done) | (simp; omega)) _ | refine Below.drew ?_ | refine Below.setCell ?_ (by first | omega | (simp; done) | (simp; omega)) _ | refine Below.trans ?_ (Below.mono (by assumption) (by first | omega | (simp; done) | (simp; omega)))))
      have s2 : Below X.heap.size X y2 := s1.trans (i2.mono s1.size)
      replace dX := dX.below i2
      replace q0 := below_cell i2 q0
      replace q1 := below_cell i2 q1
      replace q2 := below_cell i2 q2
      replace q3 := below_cell i2 q3
      replace c1 := below_cell i2 c1
      replace c2 := below_cell i2 c2
      replace lB := Nat.lt_of_lt_of_le lB i2.size
      replace lO := Nat.lt_of_lt_of_le lO i2.size
      go_wp2
      (refine wp_region_ext 8 (by kernel_rfl) (by kernel_rfl) ?_; simp only [List.take_succ_cons, List.take_zero, List.drop_succ_cons, List.drop_zero]; (repeat (go_big_quiet_step (((go_at_call 44; refine Calls_ext (between_any _ _ _)))))); refine wpQuiet_nil ?_; rintro _ ⟨ex, rfl⟩; have hex := ex.below; have hexz := ex.size; (try simp at hexz); (try (have hy0 : w.heap.size < ex.to.heap.size := by omega)); (try (have hy1 : w.heap.size + 1 < ex.to.heap.size := by omega)); (try (have hy2 : w.heap.size + 2 < ex.to.heap.size := by omega)))
      go_wp2
      go_roundw
      case rel => exact ⟨k + 1, by omega, by go_num, (hbX.trans (s2.mono hbX.size)).trans (ex.below.mono (hbX.trans (s2.mono hbX.size)).size)⟩
      case measure => simp [intOf]; omega
    · have hkI : ¬ (k : Int) < (n : Int) := by omega
      have tX := TB.trans (hbX.mono TB.size)
      go_wp2_with fail
      go_at_call 24
      refine (rin_eq' sx 0 ((n : Int) - 1) false Hs _).mono ?_
      rintro e _ ⟨rfl, rfl⟩
      go_wp2_with fail
      go_at_call 17
      refine (awake_any _).mono ?_
      rintro e y1 ⟨rfl, d1⟩
      have s1 : Below X.heap.size X y1 := by (repeat (first | exact Below.refl _ _ | refine Below.alloc ?_ (by first | omega | (simp; done) | (simp; omega)) _ | refine Below.drew ?_ | refine Below.setCell ?_ (by first | omega | (simp; done) | (simp; omega)) _ | refine Below.trans ?_ (Below.mono (by assumption) (by first | omega | (simp; done) | (simp; omega)))))
      replace dX := dX.below s1
      go_wp2_with fail
      go_ret
      exact ⟨rfl, tX.trans (s1.mono tX.size)⟩
set_option maxRecDepth 100000 in
set_option maxHeartbeats 8000000 in
theorem bounds_b4 (st rate keeps : Int) (ds : List Dis) (ad : Option Addr) (cd : Nat) (sx : Int) (high : Bool) (w : World) (hd : DisAt w ad ds) (big : AccBig ds) (hT : thinB ds = true) (h0 : accErr ⟨st, rate, keeps, ds⟩ = 0) (hs : inR sx 0 (st - 1) = true) :
    Calls Try.prog 11 #[.agg #[.int .i64 st, .int .i64 rate, .int .i64 keeps, .slice ad ds.length cd], .int .i64 sx, .bool high] w fun e w' => e = .returned (.bool true) ∧ Below w.heap.size w w' := by
  have HB := Lib.hid big
  have HT := Lib.hid hT
  have SM := Lib.hid (thin_small (st := st) (rate := rate) (keeps := keeps) hT)
  have H0 := Lib.hid h0
  have hst := (accErr_ok h0).st
  simp only at hst
  obtain ⟨n, rfl⟩ : ∃ n : Nat, st = (n : Int) := ⟨st.toNat, by omega⟩
  have wst : IntKind.i64.wrap ((n : Int) - 1) = (n : Int) - 1 := IntWalk.i64_in _ (by omega)
  obtain ⟨O, hO⟩ : ∃ O, bdOut ⟨(n : Int), rate, keeps, ds⟩ = O := ⟨_, rfl⟩
  have HO := Lib.hid hO
  have hOd : bdL rate keeps ds n = O := by rw [← hO, bdOut, if_pos h0]; simp
  have HOd := Lib.hid hOd
  have hOn : O.length = n := by rw [← hOd]; simp [bdL]
  have HOn := Lib.hid hOn
  have hOb : ((O.length : Int) != (n : Int)) = false := by simp [hOn]
  have hOl : O.length ≤ 1000 := by omega
  have hn1 : n ≤ 1000 := by omega
  obtain ⟨s, rfl⟩ : ∃ s : Nat, sx = (s : Int) := ⟨sx.toNat, by have := inR_iff.1 hs; omega⟩
  have Hs := Lib.hid hs
  have Hsn : Hid ((s : Int) < (n : Int)) := Lib.hid (by have := inR_iff.1 hs; omega)
  obtain ⟨R, hR⟩ : ∃ R, reachL rate keeps (endX high) (s : Int) ds ds.length = R := ⟨_, rfl⟩
  obtain ⟨mr, hmr⟩ : ∃ m, endB rate keeps ds (endX high) (s : Int) = m := ⟨_, rfl⟩
  have hRl : R.length ≤ 6 := by rw [← hR, reachL_len]; exact (accErr_ok h0).len
  have HR := Lib.hid hR
  have Hmr := Lib.hid hmr
  clear hs hR hmr
  clear hT big h0 hO hOd hOn hst
  go_enter Try.func11, Try.ntmps11
  go_wp2_with fail
  go_at_call 16
  refine (thin_eq (n : Int) rate keeps ds ad cd _ true HT (hd.below (by (repeat (first | exact Below.refl _ _ | refine Below.alloc ?_ (by first | omega | (simp; done) | (simp; omega)) _ | refine Below.drew ?_ | refine Below.setCell ?_ (by first | omega | (simp; done) | (simp; omega)) _ | refine Below.trans ?_ (Below.mono (by assumption) (by first | omega | (simp; done) | (simp; omega))))))) HB).mono ?_
  rintro e w1 ⟨rfl, b1⟩
  have t1 : Below w.heap.size w w1 := by (repeat (first | exact Below.refl _ _ | refine Below.alloc ?_ (by first | omega | (simp; done) | (simp; omega)) _ | refine Below.drew ?_ | refine Below.setCell ?_ (by first | omega | (simp; done) | (simp; omega)) _ | refine Below.trans ?_ (Below.mono (by assumption) (by first | omega | (simp; done) | (simp; omega)))))
  replace hd := hd.below t1
  have q0 := box_cells b1 0 rfl
  have q1 := box_cells b1 1 rfl
  have q2 := box_cells b1 2 rfl
  have q3 := box_cells b1 3 rfl
  have lB := cell_ltK q0
  go_wp2_with fail
  go_at_call 19
  refine (account_eq (n : Int) rate keeps ds ad cd _ hd SM).mono ?_
  rintro e w2 ⟨⟨aX, cX, rfl, dX⟩, b2⟩
  have j2 : Below w1.heap.size w1 w2 := by (repeat (first | exact Below.refl _ _ | refine Below.alloc ?_ (by first | omega | (simp; done) | (simp; omega)) _ | refine Below.drew ?_ | refine Below.setCell ?_ (by first | omega | (simp; done) | (simp; omega)) _ | refine Below.trans ?_ (Below.mono (by assumption) (by first | omega | (simp; done) | (simp; omega)))))
  have t2 : Below w.heap.size w w2 := t1.trans (j2.mono t1.size)
  replace hd := hd.below j2
  replace q0 := below_cell j2 q0
  replace q1 := below_cell j2 q1
  replace q2 := below_cell j2 q2
  replace q3 := below_cell j2 q3
  replace lB := Nat.lt_of_lt_of_le lB j2.size
  go_wp2_with fail
  go_at_call 40
  refine (bounds_eq (n : Int) rate keeps ds aX cX _ O H0 HO dX SM).mono ?_
  rintro e w3 ⟨⟨aO, cO, rfl, iO⟩, b3⟩
  have j3 : Below w2.heap.size w2 w3 := by (repeat (first | exact Below.refl _ _ | refine Below.alloc ?_ (by first | omega | (simp; done) | (simp; omega)) _ | refine Below.drew ?_ | refine Below.setCell ?_ (by first | omega | (simp; done) | (simp; omega)) _ | refine Below.trans ?_ (Below.mono (by assumption) (by first | omega | (simp; done) | (simp; omega)))))
  have t3 : Below w.heap.size w w3 := t2.trans (j3.mono t2.size)
  replace hd := hd.below j3
  replace q0 := below_cell j3 q0
  replace q1 := below_cell j3 q1
  replace q2 := below_cell j3 q2
  replace q3 := below_cell j3 q3
  replace lB := Nat.lt_of_lt_of_le lB j3.size
  replace dX := dX.below j3
  clear dX
  go_wp2_with fail
  go_at_call 19
  refine (account_eq (n : Int) rate keeps ds ad cd _ hd SM).mono ?_
  rintro e w4 ⟨⟨aY, cY, rfl, dY⟩, b4⟩
  have j4 : Below w3.heap.size w3 w4 := by (repeat (first | exact Below.refl _ _ | refine Below.alloc ?_ (by first | omega | (simp; done) | (simp; omega)) _ | refine Below.drew ?_ | refine Below.setCell ?_ (by first | omega | (simp; done) | (simp; omega)) _ | refine Below.trans ?_ (Below.mono (by assumption) (by first | omega | (simp; done) | (simp; omega)))))
  have t4 : Below w.heap.size w w4 := t3.trans (j4.mono t3.size)
  replace hd := hd.below j4
  replace q0 := below_cell j4 q0
  replace q1 := below_cell j4 q1
  replace q2 := below_cell j4 q2
  replace q3 := below_cell j4 q3
  replace lB := Nat.lt_of_lt_of_le lB j4.size
  replace iO := iO.below j4
  go_wp2_with fail
  go_at_call 42
  refine (reach_eq (n : Int) rate keeps ds aY cY _ (s : Int) high R H0 Hs HR dY SM).mono ?_
  rintro e w5 ⟨⟨aT, cT, rfl, iT⟩, b5⟩
  have j5 : Below w4.heap.size w4 w5 := by (repeat (first | exact Below.refl _ _ | refine Below.alloc ?_ (by first | omega | (simp; done) | (simp; omega)) _ | refine Below.drew ?_ | refine Below.setCell ?_ (by first | omega | (simp; done) | (simp; omega)) _ | refine Below.trans ?_ (Below.mono (by assumption) (by first | omega | (simp; done) | (simp; omega)))))
  have t5 : Below w.heap.size w w5 := t4.trans (j5.mono t4.size)
  replace hd := hd.below j5
  replace q0 := below_cell j5 q0
  replace q1 := below_cell j5 q1
  replace q2 := below_cell j5 q2
  replace q3 := below_cell j5 q3
  replace lB := Nat.lt_of_lt_of_le lB j5.size
  replace iO := iO.below j5
  replace dY := dY.below j5
  clear dY
  go_wp2_with fail
  go_at_call 23
  refine (fault_eq (n : Int) rate keeps ds ad cd _ 0 H0 hd SM).mono ?_
  rintro e w6 ⟨rfl, b6⟩
  have j6 : Below w5.heap.size w5 w6 := by (repeat (first | exact Below.refl _ _ | refine Below.alloc ?_ (by first | omega | (simp; done) | (simp; omega)) _ | refine Below.drew ?_ | refine Below.setCell ?_ (by first | omega | (simp; done) | (simp; omega)) _ | refine Below.trans ?_ (Below.mono (by assumption) (by first | omega | (simp; done) | (simp; omega)))))
  have t6 : Below w.heap.size w w6 := t5.trans (j6.mono t5.size)
  replace hd := hd.below j6
  replace q0 := below_cell j6 q0
  replace q1 := below_cell j6 q1
  replace q2 := below_cell j6 q2
  replace q3 := below_cell j6 q3
  replace lB := Nat.lt_of_lt_of_le lB j6.size
  replace iO := iO.below j6
  replace iT := iT.below j6
  have TB := t6
  go_wp2_with fail
  go_loopw [12, 13, 14, 15, 16] (fun v _ _ _ _ X => ∃ k : Nat, k ≤ n ∧ v = .int .i64 k ∧ Below w6.heap.size w6 X) (fun v _ _ _ _ _ => n - (intOf v).toNat)
  case atStart => exact ⟨0, Nat.zero_le _, rfl, Below.refl _ _⟩
  case round =>
    obtain ⟨k, k2, rfl, hbX⟩ := hrel
    rename World => X
    have iX := iO.below hbX
    have dX := hd.below hbX
    replace q0 := below_cell hbX q0
    replace q1 := below_cell hbX q1
    replace q2 := below_cell hbX q2
    replace q3 := below_cell hbX q3
    replace lB := Nat.lt_of_lt_of_le lB hbX.size
    clear iO hd
    by_cases hlt : k < n
    · have hkI : (k : Int) < (n : Int) := by omega
      have Hk := Lib.hid hkI
      have hkO : k < O.length := by rw [HOn.out]; exact hlt
      have HOk : Hid (O[k] = (endB rate keeps ds (endX false) (k : Int), endB rate keeps ds (endX true) (k : Int))) := Lib.hid (by
        have : O[k]? = some (endB rate keeps ds (endX false) (k : Int), endB rate keeps ds (endX true) (k : Int)) := by rw [← HOd.out, bdL]; simp [hlt]; exact ⟨rfl, rfl⟩
        rw [List.getElem?_eq_getElem hkO] at this
        exact Option.some.inj this)
      obtain ⟨bO, oO, rfl, lO, c1, c2⟩ := iX k hkO
      rw [HOk.out] at c1 c2
      have hkO2 : (k : Int) < (O.length : Int) := by omega
      obtain ⟨lo, hlo⟩ : ∃ z, endB rate keeps ds (endX false) (k : Int) = z := ⟨_, rfl⟩
      obtain ⟨mo, hmo⟩ : ∃ z, endB rate keeps ds (endX true) (k : Int) = z := ⟨_, rfl⟩
      obtain ⟨L1, hL1⟩ : ∃ z, reachL rate keeps (endX false) (k : Int) ds ds.length = z := ⟨_, rfl⟩
      obtain ⟨L2, hL2⟩ : ∃ z, reachL rate keeps (endX true) (k : Int) ds ds.length = z := ⟨_, rfl⟩
      simp only [hlo] at c1
      simp only [hmo] at c2
      have Hlo := Lib.hid hlo
      have Hmo := Lib.hid hmo
      have HL1 := Lib.hid hL1
      have HL2 := Lib.hid hL2
      clear hlo hmo hL1 hL2 HOk iX
      go_wp2_with fail
      go_at_call 43
      refine (rReach_eq (n : Int) rate keeps ds ad cd _ k false L1 lo H0 Hk HL1 Hlo dX).mono ?_
      rintro e y1 ⟨⟨aL0, cL0, rfl, -⟩, d1⟩
      have s1 : Below X.heap.size X y1 := by (repeat (first | exact Below.refl _ _ | refine Below.alloc ?_ (by first | omega | (simp; done) | (simp; omega)) _ | refine Below.drew ?_ | refine Below.setCell ?_ (by first | omega | (simp; done) | (simp; omega)) _ | refine Below.trans ?_ (Below.mono (by assumption) (by first | omega | (simp; done) | (simp; omega)))))
      replace dX := dX.below s1
      replace q0 := below_cell s1 q0
      replace q1 := below_cell s1 q1
      replace q2 := below_cell s1 q2
      replace q3 := below_cell s1 q3
      replace c1 := below_cell s1 c1
      replace c2 := below_cell s1 c2
      replace lB := Nat.lt_of_lt_of_le lB s1.size
      replace lO := Nat.lt_of_lt_of_le lO s1.size
      go_wp2_with fail
      go_at_call 43
      refine (rReach_eq (n : Int) rate keeps ds ad cd _ k true L2 mo H0 Hk HL2 Hmo dX).mono ?_
      rintro e y2 ⟨⟨aL1, cL1, rfl, -⟩, d2⟩
      have i2 : Below y1.heap.size y1 y2 := by (repeat (first | exact Below.refl _ _ | refine Below.alloc ?_ (by first | omega | (simp; done) | (simp; omega)) _ | refine Below.drew ?_ | refine Below.setCell ?_ (by first | omega | (simp; done) | (simp; omega)) _ | refine Below.trans ?_ (Below.mono (by assumption) (by first | omega | (simp; done) | (simp; omega)))))
      have s2 : Below X.heap.size X y2 := s1.trans (i2.mono s1.size)
      replace dX := dX.below i2
      replace q0 := below_cell i2 q0
      replace q1 := below_cell i2 q1
      replace q2 := below_cell i2 q2
      replace q3 := below_cell i2 q3
      replace c1 := below_cell i2 c1
      replace c2 := below_cell i2 c2
      replace lB := Nat.lt_of_lt_of_le lB i2.size
      replace lO := Nat.lt_of_lt_of_le lO i2.size
      go_wp2
      (refine wp_region_ext 8 (by kernel_rfl) (by kernel_rfl) ?_; simp only [List.take_succ_cons, List.take_zero, List.drop_succ_cons, List.drop_zero]; (repeat (go_big_quiet_step (((go_at_call 44; refine Calls_ext (between_any _ _ _)))))); refine wpQuiet_nil ?_; rintro _ ⟨ex, rfl⟩; have hex := ex.below; have hexz := ex.size; (try simp at hexz); (try (have hy0 : w.heap.size < ex.to.heap.size := by omega)); (try (have hy1 : w.heap.size + 1 < ex.to.heap.size := by omega)); (try (have hy2 : w.heap.size + 2 < ex.to.heap.size := by omega)))
      go_wp2
      go_roundw
      case rel => exact ⟨k + 1, by omega, by go_num, (hbX.trans (s2.mono hbX.size)).trans (ex.below.mono (hbX.trans (s2.mono hbX.size)).size)⟩
      case measure => simp [intOf]; omega
    · have hkI : ¬ (k : Int) < (n : Int) := by omega
      have tX := TB.trans (hbX.mono TB.size)
      have jT := iT.below hbX
      go_wp2_with fail
      go_at_call 24
      refine (rin_eq' (s : Int) 0 ((n : Int) - 1) true Hs _).mono ?_
      rintro e _ ⟨rfl, rfl⟩
      go_wp2_with fail
      go_at_call 43
      refine (rReach_eq (n : Int) rate keeps ds ad cd _ s high R mr H0 Hsn HR Hmr dX).mono ?_
      rintro e y1 ⟨⟨aD, cD, rfl, iD⟩, d1⟩
      have s1 : Below X.heap.size X y1 := by (repeat (first | exact Below.refl _ _ | refine Below.alloc ?_ (by first | omega | (simp; done) | (simp; omega)) _ | refine Below.drew ?_ | refine Below.setCell ?_ (by first | omega | (simp; done) | (simp; omega)) _ | refine Below.trans ?_ (Below.mono (by assumption) (by first | omega | (simp; done) | (simp; omega)))))
      replace dX := dX.below s1
      replace jT := jT.below s1
      replace q0 := below_cell s1 q0
      replace q1 := below_cell s1 q1
      replace q2 := below_cell s1 q2
      replace q3 := below_cell s1 q3
      replace lB := Nat.lt_of_lt_of_le lB s1.size
      go_wp2_with fail
      go_at_call 25
      refine (same2_eq aT R _ cT (Lib.hid rfl) aD _ cD (Lib.hid rfl) _ jT iD (by omega)).mono ?_
      rintro e y2 ⟨rfl, d2⟩
      have i2 : Below y1.heap.size y1 y2 := by (repeat (first | exact Below.refl _ _ | refine Below.alloc ?_ (by first | omega | (simp; done) | (simp; omega)) _ | refine Below.drew ?_ | refine Below.setCell ?_ (by first | omega | (simp; done) | (simp; omega)) _ | refine Below.trans ?_ (Below.mono (by assumption) (by first | omega | (simp; done) | (simp; omega)))))
      have s2 : Below X.heap.size X y2 := s1.trans (i2.mono s1.size)
      replace dX := dX.below i2
      replace jT := jT.below i2
      replace q0 := below_cell i2 q0
      replace q1 := below_cell i2 q1
      replace q2 := below_cell i2 q2
      replace q3 := below_cell i2 q3
      replace lB := Nat.lt_of_lt_of_le lB i2.size
      replace iD := iD.below i2
      clear jT iD
      go_wp2_with fail
      go_at_call 17
      refine (awake_any _).mono ?_
      rintro e y3 ⟨rfl, d3⟩
      have i3 : Below y2.heap.size y2 y3 := by (repeat (first | exact Below.refl _ _ | refine Below.alloc ?_ (by first | omega | (simp; done) | (simp; omega)) _ | refine Below.drew ?_ | refine Below.setCell ?_ (by first | omega | (simp; done) | (simp; omega)) _ | refine Below.trans ?_ (Below.mono (by assumption) (by first | omega | (simp; done) | (simp; omega)))))
      have s3 : Below X.heap.size X y3 := s2.trans (i3.mono s2.size)
      replace dX := dX.below i3
      replace q0 := below_cell i3 q0
      replace q1 := below_cell i3 q1
      replace q2 := below_cell i3 q2
      replace q3 := below_cell i3 q3
      replace lB := Nat.lt_of_lt_of_le lB i3.size
      go_wp2_with fail
      go_ret
      exact ⟨rfl, tX.trans (s3.mono tX.size)⟩
theorem bounds_walk (st rate keeps : Int) (ds : List Dis) (ad : Option Addr) (cd : Nat) (sx : Int) (high : Bool) (w : World) (hd : DisAt w ad ds) (big : AccBig ds) :
    Calls Try.prog 11 #[.agg #[.int .i64 st, .int .i64 rate, .int .i64 keeps, .slice ad ds.length cd], .int .i64 sx, .bool high] w fun e w' => e = .returned (.bool true) ∧ Below w.heap.size w w' := by
  by_cases hT : thinB ds = true
  · by_cases h0 : accErr ⟨st, rate, keeps, ds⟩ = 0
    · cases hs : inR sx 0 (st - 1)
      · exact bounds_b3 st rate keeps ds ad cd sx high w hd big hT h0 hs
      · exact bounds_b4 st rate keeps ds ad cd sx high w hd big hT h0 hs
    · exact bounds_b2 st rate keeps ds ad cd sx high w hd big hT _ rfl h0
  · exact bounds_b1 st rate keeps ds ad cd sx high w hd big (by simpa using hT)
end Go.Proofs.Ytomjlmhnjgohdaa
