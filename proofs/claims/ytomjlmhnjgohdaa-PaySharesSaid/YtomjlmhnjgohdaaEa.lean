/- PayShares: the walk -/
import Derived.Test.YtomjlmhnjgohdaaBv
import Derived.Deep.Cut
namespace Go.Proofs.Ytomjlmhnjgohdaa
set_option linter.unusedVariables false
set_option linter.unusedSimpArgs false
set_option linter.unnecessarySimpa false
open Go.RowKit Go.Flow Go.Shelf

theorem box_cells {w w1 : World} {cs : Array Value} {T : TypeId} {W : World} (h : Below W.heap.size W w1) (k : Nat) {v : Value} (hv : cs[k]? = some v) (hW : W = w.alloc (.cells cs T) := by rfl) : w1.cell? ⟨w.heap.size, k, none⟩ = some v := by
  subst hW
  exact below_cell h (by rw [(Cells.new w cs T).cell]; exact hv)
set_option maxRecDepth 100000 in
set_option maxHeartbeats 8000000 in
theorem shares_a1 (st rate keeps : Int) (ds : List Dis) (ad : Option Addr) (cd : Nat) (d x : Int) (at_ : Option Addr) (t : List Int) (ct : Nat) (w : World) (hd : DisAt w ad ds) (big : AccBig ds) (ht : IntsAt w at_ t) (nt : at_ = none → ct = 0) (lt : t.length ≤ ct) (mt : ct ≤ maxLen) (hT : thinB ds = false) :
    Calls Try.prog 3 #[.agg #[.int .i64 st, .int .i64 rate, .int .i64 keeps, .slice ad ds.length cd], .int .i64 d, .int .i64 x, .slice at_ t.length ct] w fun e w' => e = .returned (.bool true) ∧ Below w.heap.size w w' := by
  have HB := Lib.hid big
  have HT := Lib.hid hT
  clear hT big lt mt
  go_enter Try.func3, Try.ntmps3
  go_wp2_with fail
  go_at_call 16
  refine (thin_eq st rate keeps ds ad cd _ false HT (hd.below (by (repeat (first | exact Below.refl _ _ | refine Below.alloc ?_ (by first | omega | (simp; done) | (simp; omega)) _ | refine Below.drew ?_ | refine Below.setCell ?_ (by first | omega | (simp; done) | (simp; omega)) _ | refine Below.trans ?_ (Below.mono (by assumption) (by first | omega | (simp; done) | (simp; omega))))))) HB).mono ?_
  rintro e w1 ⟨rfl, b1⟩
  have t1 : Below w.heap.size w w1 := by (repeat (first | exact Below.refl _ _ | refine Below.alloc ?_ (by first | omega | (simp; done) | (simp; omega)) _ | refine Below.drew ?_ | refine Below.setCell ?_ (by first | omega | (simp; done) | (simp; omega)) _ | refine Below.trans ?_ (Below.mono (by assumption) (by first | omega | (simp; done) | (simp; omega)))))
  replace hd := hd.below t1
  replace ht := ht.below t1
  have q0 := box_cells b1 0 rfl
  have q1 := box_cells b1 1 rfl
  have q2 := box_cells b1 2 rfl
  have q3 := box_cells b1 3 rfl
  have lB := cell_ltK q0
  go_wp2_with fail
  go_at_call 17
  refine (awake_any _).mono ?_
  rintro e w2 ⟨rfl, b2⟩
  have j2 : Below w1.heap.size w1 w2 := by (repeat (first | exact Below.refl _ _ | refine Below.alloc ?_ (by first | omega | (simp; done) | (simp; omega)) _ | refine Below.drew ?_ | refine Below.setCell ?_ (by first | omega | (simp; done) | (simp; omega)) _ | refine Below.trans ?_ (Below.mono (by assumption) (by first | omega | (simp; done) | (simp; omega)))))
  have t2 : Below w.heap.size w w2 := t1.trans (j2.mono t1.size)
  replace hd := hd.below j2
  replace ht := ht.below j2
  replace q0 := below_cell j2 q0
  replace q1 := below_cell j2 q1
  replace q2 := below_cell j2 q2
  replace q3 := below_cell j2 q3
  replace lB := Nat.lt_of_lt_of_le lB j2.size
  go_wp2_with fail
  go_ret
  exact ⟨rfl, t2⟩
set_option maxRecDepth 100000 in
set_option maxHeartbeats 8000000 in
theorem shares_a2 (st rate keeps : Int) (ds : List Dis) (ad : Option Addr) (cd : Nat) (d x : Int) (at_ : Option Addr) (t : List Int) (ct : Nat) (w : World) (hd : DisAt w ad ds) (big : AccBig ds) (ht : IntsAt w at_ t) (nt : at_ = none → ct = 0) (lt : t.length ≤ ct) (mt : ct ≤ maxLen) (hT : thinB ds = true) (h11 : ¬ t.length ≤ 11) :
    Calls Try.prog 3 #[.agg #[.int .i64 st, .int .i64 rate, .int .i64 keeps, .slice ad ds.length cd], .int .i64 d, .int .i64 x, .slice at_ t.length ct] w fun e w' => e = .returned (.bool true) ∧ Below w.heap.size w w' := by
  have HB := Lib.hid big
  have HT := Lib.hid hT
  have mt' : ct ≤ 9223372036854775807 := by unfold maxLen at mt; omega
  have h11d : decide ((11 : Int) < (t.length : Int)) = true := by simp; omega
  clear hT big mt
  go_enter Try.func3, Try.ntmps3
  go_wp2_with fail
  go_at_call 16
  refine (thin_eq st rate keeps ds ad cd _ true HT (hd.below (by (repeat (first | exact Below.refl _ _ | refine Below.alloc ?_ (by first | omega | (simp; done) | (simp; omega)) _ | refine Below.drew ?_ | refine Below.setCell ?_ (by first | omega | (simp; done) | (simp; omega)) _ | refine Below.trans ?_ (Below.mono (by assumption) (by first | omega | (simp; done) | (simp; omega))))))) HB).mono ?_
  rintro e w1 ⟨rfl, b1⟩
  have t1 : Below w.heap.size w w1 := by (repeat (first | exact Below.refl _ _ | refine Below.alloc ?_ (by first | omega | (simp; done) | (simp; omega)) _ | refine Below.drew ?_ | refine Below.setCell ?_ (by first | omega | (simp; done) | (simp; omega)) _ | refine Below.trans ?_ (Below.mono (by assumption) (by first | omega | (simp; done) | (simp; omega)))))
  replace hd := hd.below t1
  replace ht := ht.below t1
  have q0 := box_cells b1 0 rfl
  have q1 := box_cells b1 1 rfl
  have q2 := box_cells b1 2 rfl
  have q3 := box_cells b1 3 rfl
  have lB := cell_ltK q0
  go_wp2_with fail
  go_at_call 17
  refine (awake_any _).mono ?_
  rintro e w2 ⟨rfl, b2⟩
  have j2 : Below w1.heap.size w1 w2 := by (repeat (first | exact Below.refl _ _ | refine Below.alloc ?_ (by first | omega | (simp; done) | (simp; omega)) _ | refine Below.drew ?_ | refine Below.setCell ?_ (by first | omega | (simp; done) | (simp; omega)) _ | refine Below.trans ?_ (Below.mono (by assumption) (by first | omega | (simp; done) | (simp; omega)))))
  have t2 : Below w.heap.size w w2 := t1.trans (j2.mono t1.size)
  replace hd := hd.below j2
  replace ht := ht.below j2
  replace q0 := below_cell j2 q0
  replace q1 := below_cell j2 q1
  replace q2 := below_cell j2 q2
  replace q3 := below_cell j2 q3
  replace lB := Nat.lt_of_lt_of_le lB j2.size
  go_wp2_with fail
  go_ret
  exact ⟨rfl, t2⟩
set_option maxRecDepth 100000 in
set_option maxHeartbeats 8000000 in
theorem shares_a3 (st rate keeps : Int) (ds : List Dis) (ad : Option Addr) (cd : Nat) (d x : Int) (at_ : Option Addr) (t : List Int) (ct : Nat) (w : World) (hd : DisAt w ad ds) (big : AccBig ds) (ht : IntsAt w at_ t) (nt : at_ = none → ct = 0) (lt : t.length ≤ ct) (mt : ct ≤ maxLen) (hT : thinB ds = true) (h11 : t.length ≤ 11) (E : Int) (hE : accErr ⟨st, rate, keeps, ds⟩ = E) (hne : E ≠ 0) :
    Calls Try.prog 3 #[.agg #[.int .i64 st, .int .i64 rate, .int .i64 keeps, .slice ad ds.length cd], .int .i64 d, .int .i64 x, .slice at_ t.length ct] w fun e w' => e = .returned (.bool true) ∧ Below w.heap.size w w' := by
  have HB := Lib.hid big
  have HT := Lib.hid hT
  have SM := Lib.hid (thin_small (st := st) (rate := rate) (keeps := keeps) hT)
  have h11d : decide ((11 : Int) < (t.length : Int)) = false := by simp; omega
  have lt1 : t.length ≤ 1000 := by omega
  have HE := Lib.hid hE
  have hne1 : (E != 0) = true := by simpa using hne
  clear hT big lt mt hE
  go_enter Try.func3, Try.ntmps3
  go_wp2_with fail
  go_at_call 16
  refine (thin_eq st rate keeps ds ad cd _ true HT (hd.below (by (repeat (first | exact Below.refl _ _ | refine Below.alloc ?_ (by first | omega | (simp; done) | (simp; omega)) _ | refine Below.drew ?_ | refine Below.setCell ?_ (by first | omega | (simp; done) | (simp; omega)) _ | refine Below.trans ?_ (Below.mono (by assumption) (by first | omega | (simp; done) | (simp; omega))))))) HB).mono ?_
  rintro e w1 ⟨rfl, b1⟩
  have t1 : Below w.heap.size w w1 := by (repeat (first | exact Below.refl _ _ | refine Below.alloc ?_ (by first | omega | (simp; done) | (simp; omega)) _ | refine Below.drew ?_ | refine Below.setCell ?_ (by first | omega | (simp; done) | (simp; omega)) _ | refine Below.trans ?_ (Below.mono (by assumption) (by first | omega | (simp; done) | (simp; omega)))))
  replace hd := hd.below t1
  replace ht := ht.below t1
  have q0 := box_cells b1 0 rfl
  have q1 := box_cells b1 1 rfl
  have q2 := box_cells b1 2 rfl
  have q3 := box_cells b1 3 rfl
  have lB := cell_ltK q0
  go_wp2_with fail
  go_at_call 19
  refine (account_eq st rate keeps ds ad cd _ hd SM).mono ?_
  rintro e w2 ⟨⟨aX, cX, rfl, dX⟩, b2⟩
  have j2 : Below w1.heap.size w1 w2 := by (repeat (first | exact Below.refl _ _ | refine Below.alloc ?_ (by first | omega | (simp; done) | (simp; omega)) _ | refine Below.drew ?_ | refine Below.setCell ?_ (by first | omega | (simp; done) | (simp; omega)) _ | refine Below.trans ?_ (Below.mono (by assumption) (by first | omega | (simp; done) | (simp; omega)))))
  have t2 : Below w.heap.size w w2 := t1.trans (j2.mono t1.size)
  replace hd := hd.below j2
  replace ht := ht.below j2
  replace q0 := below_cell j2 q0
  replace q1 := below_cell j2 q1
  replace q2 := below_cell j2 q2
  replace q3 := below_cell j2 q3
  replace lB := Nat.lt_of_lt_of_le lB j2.size
  go_wp2_with fail
  go_at_call 18
  refine (check_eq st rate keeps ds aX cX _ E HE dX SM).mono ?_
  rintro e w3 ⟨rfl, b3⟩
  have j3 : Below w2.heap.size w2 w3 := by (repeat (first | exact Below.refl _ _ | refine Below.alloc ?_ (by first | omega | (simp; done) | (simp; omega)) _ | refine Below.drew ?_ | refine Below.setCell ?_ (by first | omega | (simp; done) | (simp; omega)) _ | refine Below.trans ?_ (Below.mono (by assumption) (by first | omega | (simp; done) | (simp; omega)))))
  have t3 : Below w.heap.size w w3 := t2.trans (j3.mono t2.size)
  replace hd := hd.below j3
  replace ht := ht.below j3
  replace q0 := below_cell j3 q0
  replace q1 := below_cell j3 q1
  replace q2 := below_cell j3 q2
  replace q3 := below_cell j3 q3
  replace lB := Nat.lt_of_lt_of_le lB j3.size
  replace dX := dX.below j3
  clear dX
  go_wp2_with fail
  go_at_call 19
  refine (account_eq st rate keeps ds ad cd _ hd SM).mono ?_
  rintro e w4 ⟨⟨aY, cY, rfl, dY⟩, b4⟩
  have j4 : Below w3.heap.size w3 w4 := by (repeat (first | exact Below.refl _ _ | refine Below.alloc ?_ (by first | omega | (simp; done) | (simp; omega)) _ | refine Below.drew ?_ | refine Below.setCell ?_ (by first | omega | (simp; done) | (simp; omega)) _ | refine Below.trans ?_ (Below.mono (by assumption) (by first | omega | (simp; done) | (simp; omega)))))
  have t4 : Below w.heap.size w w4 := t3.trans (j4.mono t3.size)
  replace hd := hd.below j4
  replace ht := ht.below j4
  replace q0 := below_cell j4 q0
  replace q1 := below_cell j4 q1
  replace q2 := below_cell j4 q2
  replace q3 := below_cell j4 q3
  replace lB := Nat.lt_of_lt_of_le lB j4.size
  go_wp2_with fail
  go_at_call 20
  refine (sharesBad_eq st rate keeps ds aY cY _ E d x HE hne dY SM).mono ?_
  rintro e w5 ⟨rfl, b5⟩
  have j5 : Below w4.heap.size w4 w5 := by (repeat (first | exact Below.refl _ _ | refine Below.alloc ?_ (by first | omega | (simp; done) | (simp; omega)) _ | refine Below.drew ?_ | refine Below.setCell ?_ (by first | omega | (simp; done) | (simp; omega)) _ | refine Below.trans ?_ (Below.mono (by assumption) (by first | omega | (simp; done) | (simp; omega)))))
  have t5 : Below w.heap.size w w5 := t4.trans (j5.mono t4.size)
  replace hd := hd.below j5
  replace ht := ht.below j5
  replace q0 := below_cell j5 q0
  replace q1 := below_cell j5 q1
  replace q2 := below_cell j5 q2
  replace q3 := below_cell j5 q3
  replace lB := Nat.lt_of_lt_of_le lB j5.size
  replace dY := dY.below j5
  clear dY
  go_wp2_with fail
  go_at_call 19
  refine (account_eq st rate keeps ds ad cd _ hd SM).mono ?_
  rintro e w6 ⟨⟨aZ, cZ, rfl, dZ⟩, b6⟩
  have j6 : Below w5.heap.size w5 w6 := by (repeat (first | exact Below.refl _ _ | refine Below.alloc ?_ (by first | omega | (simp; done) | (simp; omega)) _ | refine Below.drew ?_ | refine Below.setCell ?_ (by first | omega | (simp; done) | (simp; omega)) _ | refine Below.trans ?_ (Below.mono (by assumption) (by first | omega | (simp; done) | (simp; omega)))))
  have t6 : Below w.heap.size w w6 := t5.trans (j6.mono t5.size)
  replace hd := hd.below j6
  replace ht := ht.below j6
  replace q0 := below_cell j6 q0
  replace q1 := below_cell j6 q1
  replace q2 := below_cell j6 q2
  replace q3 := below_cell j6 q3
  replace lB := Nat.lt_of_lt_of_le lB j6.size
  go_wp2_with fail
  go_at_call 22
  refine (list_eq _ at_ t ct ht lt1 nt).mono ?_
  rintro e w7 ⟨⟨aL, cL, rfl, iL, nL⟩, b7⟩
  have j7 : Below w6.heap.size w6 w7 := by (repeat (first | exact Below.refl _ _ | refine Below.alloc ?_ (by first | omega | (simp; done) | (simp; omega)) _ | refine Below.drew ?_ | refine Below.setCell ?_ (by first | omega | (simp; done) | (simp; omega)) _ | refine Below.trans ?_ (Below.mono (by assumption) (by first | omega | (simp; done) | (simp; omega)))))
  have t7 : Below w.heap.size w w7 := t6.trans (j7.mono t6.size)
  replace hd := hd.below j7
  replace ht := ht.below j7
  replace q0 := below_cell j7 q0
  replace q1 := below_cell j7 q1
  replace q2 := below_cell j7 q2
  replace q3 := below_cell j7 q3
  replace lB := Nat.lt_of_lt_of_le lB j7.size
  replace dZ := dZ.below j7
  go_wp2_with fail
  go_at_call 21
  refine (balBad_eq st rate keeps ds aZ cZ _ aL t cL E HE hne dZ SM iL lt1).mono ?_
  rintro e w8 ⟨rfl, b8⟩
  have j8 : Below w7.heap.size w7 w8 := by (repeat (first | exact Below.refl _ _ | refine Below.alloc ?_ (by first | omega | (simp; done) | (simp; omega)) _ | refine Below.drew ?_ | refine Below.setCell ?_ (by first | omega | (simp; done) | (simp; omega)) _ | refine Below.trans ?_ (Below.mono (by assumption) (by first | omega | (simp; done) | (simp; omega)))))
  have t8 : Below w.heap.size w w8 := t7.trans (j8.mono t7.size)
  replace hd := hd.below j8
  replace ht := ht.below j8
  replace q0 := below_cell j8 q0
  replace q1 := below_cell j8 q1
  replace q2 := below_cell j8 q2
  replace q3 := below_cell j8 q3
  replace lB := Nat.lt_of_lt_of_le lB j8.size
  replace dZ := dZ.below j8
  replace iL := iL.below j8
  clear dZ iL
  go_wp2_with fail
  go_at_call 23
  refine (fault_eq st rate keeps ds ad cd _ E HE hd SM).mono ?_
  rintro e w9 ⟨rfl, b9⟩
  have j9 : Below w8.heap.size w8 w9 := by (repeat (first | exact Below.refl _ _ | refine Below.alloc ?_ (by first | omega | (simp; done) | (simp; omega)) _ | refine Below.drew ?_ | refine Below.setCell ?_ (by first | omega | (simp; done) | (simp; omega)) _ | refine Below.trans ?_ (Below.mono (by assumption) (by first | omega | (simp; done) | (simp; omega)))))
  have t9 : Below w.heap.size w w9 := t8.trans (j9.mono t8.size)
  replace hd := hd.below j9
  replace ht := ht.below j9
  replace q0 := below_cell j9 q0
  replace q1 := below_cell j9 q1
  replace q2 := below_cell j9 q2
  replace q3 := below_cell j9 q3
  replace lB := Nat.lt_of_lt_of_le lB j9.size
  go_wp2_with fail
  go_at_call 23
  refine (fault_eq st rate keeps ds ad cd _ E HE hd SM).mono ?_
  rintro e w10 ⟨rfl, b10⟩
  have j10 : Below w9.heap.size w9 w10 := by (repeat (first | exact Below.refl _ _ | refine Below.alloc ?_ (by first | omega | (simp; done) | (simp; omega)) _ | refine Below.drew ?_ | refine Below.setCell ?_ (by first | omega | (simp; done) | (simp; omega)) _ | refine Below.trans ?_ (Below.mono (by assumption) (by first | omega | (simp; done) | (simp; omega)))))
  have t10 : Below w.heap.size w w10 := t9.trans (j10.mono t9.size)
  replace hd := hd.below j10
  replace ht := ht.below j10
  replace q0 := below_cell j10 q0
  replace q1 := below_cell j10 q1
  replace q2 := below_cell j10 q2
  replace q3 := below_cell j10 q3
  replace lB := Nat.lt_of_lt_of_le lB j10.size
  go_wp2_with fail
  go_at_call 17
  refine (awake_any _).mono ?_
  rintro e w11 ⟨rfl, b11⟩
  have j11 : Below w10.heap.size w10 w11 := by (repeat (first | exact Below.refl _ _ | refine Below.alloc ?_ (by first | omega | (simp; done) | (simp; omega)) _ | refine Below.drew ?_ | refine Below.setCell ?_ (by first | omega | (simp; done) | (simp; omega)) _ | refine Below.trans ?_ (Below.mono (by assumption) (by first | omega | (simp; done) | (simp; omega)))))
  have t11 : Below w.heap.size w w11 := t10.trans (j11.mono t10.size)
  replace hd := hd.below j11
  replace ht := ht.below j11
  replace q0 := below_cell j11 q0
  replace q1 := below_cell j11 q1
  replace q2 := below_cell j11 q2
  replace q3 := below_cell j11 q3
  replace lB := Nat.lt_of_lt_of_le lB j11.size
  go_wp2_with fail
  go_ret
  exact ⟨rfl, t11⟩
set_option maxRecDepth 100000 in
set_option maxHeartbeats 8000000 in
theorem shares_b1 (st rate keeps : Int) (ds : List Dis) (ad : Option Addr) (cd : Nat) (d x : Int) (at_ : Option Addr) (t : List Int) (ct : Nat) (w : World) (hd : DisAt w ad ds) (big : AccBig ds) (ht : IntsAt w at_ t) (nt : at_ = none → ct = 0) (lt : t.length ≤ ct) (mt : ct ≤ maxLen) (hT : thinB ds = true) (h11 : t.length ≤ 11) (h0 : accErr ⟨st, rate, keeps, ds⟩ = 0) (hdr : inR d 0 ((ds.length : Int) - 1) = false) :
    Calls Try.prog 3 #[.agg #[.int .i64 st, .int .i64 rate, .int .i64 keeps, .slice ad ds.length cd], .int .i64 d, .int .i64 x, .slice at_ t.length ct] w fun e w' => e = .returned (.bool true) ∧ Below w.heap.size w w' := by
  have HB := Lib.hid big
  have HT := Lib.hid hT
  have SM := Lib.hid (thin_small (st := st) (rate := rate) (keeps := keeps) hT)
  have h11d : decide ((11 : Int) < (t.length : Int)) = false := by simp; omega
  have lt1 : t.length ≤ 1000 := by omega
  have H0 := Lib.hid h0
  have hn6 : ds.length ≤ 6 := (accErr_ok h0).len
  have wL : IntKind.i64.wrap ((ds.length : Int) - 1) = (ds.length : Int) - 1 := IntWalk.i64_in _ (by omega)
  obtain ⟨V, hV⟩ : ∃ V, isTruth ds t = V := ⟨_, rfl⟩
  obtain ⟨B, hBa⟩ : ∃ B, balOut ⟨st, rate, keeps, ds⟩ t = B := ⟨_, rfl⟩
  obtain ⟨eB, heB⟩ : ∃ eB, balErr ⟨st, rate, keeps, ds⟩ t = eB := ⟨_, rfl⟩
  have hbv : (V = false → B = [] ∧ eB = 2) ∧ (V = true → eB = 0 ∧ B.length ≤ 7) := by
    refine ⟨fun h => ?_, fun h => ?_⟩
    · subst h
      exact ⟨by rw [← hBa, balOut, if_neg (by simp [hV])], by rw [← heB, balErr, if_neg (by simpa using h0), hV]; rfl⟩
    · subst h
      refine ⟨by rw [← heB, balErr, if_neg (by simpa using h0), hV]; rfl, ?_⟩
      rw [← hBa, balOut, if_pos ⟨h0, hV⟩]
      have := (accErr_ok h0).st
      simp only at this
      simp [balL]; omega
  have HV := Lib.hid hV
  have HBa := Lib.hid hBa
  have HeB := Lib.hid heB
  have Hbv := Lib.hid hbv
  clear hV hBa heB hbv
  have Hd := Lib.hid hdr
  obtain ⟨S, hS⟩ : ∃ S, sharesOut ⟨st, rate, keeps, ds⟩ d x = S := ⟨_, rfl⟩
  obtain rfl : S = [] := by rw [← hS, sharesOut, if_neg (by simp [sharesIn, hdr])]
  have HS := Lib.hid hS
  have HeS : Hid (sharesErr ⟨st, rate, keeps, ds⟩ d x = 2) := Lib.hid (by rw [sharesErr, if_neg (by simpa using h0), show sharesIn ⟨st, rate, keeps, ds⟩ d x = false by simp [sharesIn, hdr]]; rfl)
  clear hS hdr
  clear hT big lt mt h0
  go_enter Try.func3, Try.ntmps3
  go_wp2_with fail
  go_at_call 16
  refine (thin_eq st rate keeps ds ad cd _ true HT (hd.below (by (repeat (first | exact Below.refl _ _ | refine Below.alloc ?_ (by first | omega | (simp; done) | (simp; omega)) _ | refine Below.drew ?_ | refine Below.setCell ?_ (by first | omega | (simp; done) | (simp; omega)) _ | refine Below.trans ?_ (Below.mono (by assumption) (by first | omega | (simp; done) | (simp; omega))))))) HB).mono ?_
  rintro e w1 ⟨rfl, b1⟩
  have t1 : Below w.heap.size w w1 := by (repeat (first | exact Below.refl _ _ | refine Below.alloc ?_ (by first | omega | (simp; done) | (simp; omega)) _ | refine Below.drew ?_ | refine Below.setCell ?_ (by first | omega | (simp; done) | (simp; omega)) _ | refine Below.trans ?_ (Below.mono (by assumption) (by first | omega | (simp; done) | (simp; omega)))))
  replace hd := hd.below t1
  replace ht := ht.below t1
  have q0 := box_cells b1 0 rfl
  have q1 := box_cells b1 1 rfl
  have q2 := box_cells b1 2 rfl
  have q3 := box_cells b1 3 rfl
  have lB := cell_ltK q0
  go_wp2_with fail
  go_at_call 19
  refine (account_eq st rate keeps ds ad cd _ hd SM).mono ?_
  rintro e w2 ⟨⟨aX, cX, rfl, dX⟩, b2⟩
  have j2 : Below w1.heap.size w1 w2 := by (repeat (first | exact Below.refl _ _ | refine Below.alloc ?_ (by first | omega | (simp; done) | (simp; omega)) _ | refine Below.drew ?_ | refine Below.setCell ?_ (by first | omega | (simp; done) | (simp; omega)) _ | refine Below.trans ?_ (Below.mono (by assumption) (by first | omega | (simp; done) | (simp; omega)))))
  have t2 : Below w.heap.size w w2 := t1.trans (j2.mono t1.size)
  replace hd := hd.below j2
  replace ht := ht.below j2
  replace q0 := below_cell j2 q0
  replace q1 := below_cell j2 q1
  replace q2 := below_cell j2 q2
  replace q3 := below_cell j2 q3
  replace lB := Nat.lt_of_lt_of_le lB j2.size
  go_wp2_with fail
  go_at_call 18
  refine (check_eq st rate keeps ds aX cX _ 0 H0 dX SM).mono ?_
  rintro e w3 ⟨rfl, b3⟩
  have j3 : Below w2.heap.size w2 w3 := by (repeat (first | exact Below.refl _ _ | refine Below.alloc ?_ (by first | omega | (simp; done) | (simp; omega)) _ | refine Below.drew ?_ | refine Below.setCell ?_ (by first | omega | (simp; done) | (simp; omega)) _ | refine Below.trans ?_ (Below.mono (by assumption) (by first | omega | (simp; done) | (simp; omega)))))
  have t3 : Below w.heap.size w w3 := t2.trans (j3.mono t2.size)
  replace hd := hd.below j3
  replace ht := ht.below j3
  replace q0 := below_cell j3 q0
  replace q1 := below_cell j3 q1
  replace q2 := below_cell j3 q2
  replace q3 := below_cell j3 q3
  replace lB := Nat.lt_of_lt_of_le lB j3.size
  replace dX := dX.below j3
  clear dX
  go_wp2_with fail
  go_at_call 19
  refine (account_eq st rate keeps ds ad cd _ hd SM).mono ?_
  rintro e w4 ⟨⟨aY, cY, rfl, dY⟩, b4⟩
  have j4 : Below w3.heap.size w3 w4 := by (repeat (first | exact Below.refl _ _ | refine Below.alloc ?_ (by first | omega | (simp; done) | (simp; omega)) _ | refine Below.drew ?_ | refine Below.setCell ?_ (by first | omega | (simp; done) | (simp; omega)) _ | refine Below.trans ?_ (Below.mono (by assumption) (by first | omega | (simp; done) | (simp; omega)))))
  have t4 : Below w.heap.size w w4 := t3.trans (j4.mono t3.size)
  replace hd := hd.below j4
  replace ht := ht.below j4
  replace q0 := below_cell j4 q0
  replace q1 := below_cell j4 q1
  replace q2 := below_cell j4 q2
  replace q3 := below_cell j4 q3
  replace lB := Nat.lt_of_lt_of_le lB j4.size
  go_wp2_with fail
  go_at_call 20
  refine (shares_eq st rate keeps ds aY cY _ d x [] 2 H0 HS HeS dY SM).mono ?_
  rintro e w5 ⟨⟨aS, cS, rfl, iS⟩, b5⟩
  have j5 : Below w4.heap.size w4 w5 := by (repeat (first | exact Below.refl _ _ | refine Below.alloc ?_ (by first | omega | (simp; done) | (simp; omega)) _ | refine Below.drew ?_ | refine Below.setCell ?_ (by first | omega | (simp; done) | (simp; omega)) _ | refine Below.trans ?_ (Below.mono (by assumption) (by first | omega | (simp; done) | (simp; omega)))))
  have t5 : Below w.heap.size w w5 := t4.trans (j5.mono t4.size)
  replace hd := hd.below j5
  replace ht := ht.below j5
  replace q0 := below_cell j5 q0
  replace q1 := below_cell j5 q1
  replace q2 := below_cell j5 q2
  replace q3 := below_cell j5 q3
  replace lB := Nat.lt_of_lt_of_le lB j5.size
  replace dY := dY.below j5
  clear dY
  go_wp2_with fail
  go_at_call 19
  refine (account_eq st rate keeps ds ad cd _ hd SM).mono ?_
  rintro e w6 ⟨⟨aZ, cZ, rfl, dZ⟩, b6⟩
  have j6 : Below w5.heap.size w5 w6 := by (repeat (first | exact Below.refl _ _ | refine Below.alloc ?_ (by first | omega | (simp; done) | (simp; omega)) _ | refine Below.drew ?_ | refine Below.setCell ?_ (by first | omega | (simp; done) | (simp; omega)) _ | refine Below.trans ?_ (Below.mono (by assumption) (by first | omega | (simp; done) | (simp; omega)))))
  have t6 : Below w.heap.size w w6 := t5.trans (j6.mono t5.size)
  replace hd := hd.below j6
  replace ht := ht.below j6
  replace q0 := below_cell j6 q0
  replace q1 := below_cell j6 q1
  replace q2 := below_cell j6 q2
  replace q3 := below_cell j6 q3
  replace lB := Nat.lt_of_lt_of_le lB j6.size
  replace iS := iS.below j6
  go_wp2_with fail
  go_at_call 22
  refine (list_eq _ at_ t ct ht lt1 nt).mono ?_
  rintro e w7 ⟨⟨aL, cL, rfl, iL, nL⟩, b7⟩
  have j7 : Below w6.heap.size w6 w7 := by (repeat (first | exact Below.refl _ _ | refine Below.alloc ?_ (by first | omega | (simp; done) | (simp; omega)) _ | refine Below.drew ?_ | refine Below.setCell ?_ (by first | omega | (simp; done) | (simp; omega)) _ | refine Below.trans ?_ (Below.mono (by assumption) (by first | omega | (simp; done) | (simp; omega)))))
  have t7 : Below w.heap.size w w7 := t6.trans (j7.mono t6.size)
  replace hd := hd.below j7
  replace ht := ht.below j7
  replace q0 := below_cell j7 q0
  replace q1 := below_cell j7 q1
  replace q2 := below_cell j7 q2
  replace q3 := below_cell j7 q3
  replace lB := Nat.lt_of_lt_of_le lB j7.size
  replace iS := iS.below j7
  replace dZ := dZ.below j7
  go_wp2_with fail
  go_at_call 21
  refine (bal_eq st rate keeps ds aZ cZ _ aL t cL B eB H0 HBa HeB dZ SM iL lt1).mono ?_
  rintro e w8 ⟨⟨aB, cB, rfl, iB⟩, b8⟩
  have j8 : Below w7.heap.size w7 w8 := by (repeat (first | exact Below.refl _ _ | refine Below.alloc ?_ (by first | omega | (simp; done) | (simp; omega)) _ | refine Below.drew ?_ | refine Below.setCell ?_ (by first | omega | (simp; done) | (simp; omega)) _ | refine Below.trans ?_ (Below.mono (by assumption) (by first | omega | (simp; done) | (simp; omega)))))
  have t8 : Below w.heap.size w w8 := t7.trans (j8.mono t7.size)
  replace hd := hd.below j8
  replace ht := ht.below j8
  replace q0 := below_cell j8 q0
  replace q1 := below_cell j8 q1
  replace q2 := below_cell j8 q2
  replace q3 := below_cell j8 q3
  replace lB := Nat.lt_of_lt_of_le lB j8.size
  replace iS := iS.below j8
  replace dZ := dZ.below j8
  replace iL := iL.below j8
  clear dZ iL
  go_wp2_with fail
  go_at_call 23
  refine (fault_eq st rate keeps ds ad cd _ 0 H0 hd SM).mono ?_
  rintro e w9 ⟨rfl, b9⟩
  have j9 : Below w8.heap.size w8 w9 := by (repeat (first | exact Below.refl _ _ | refine Below.alloc ?_ (by first | omega | (simp; done) | (simp; omega)) _ | refine Below.drew ?_ | refine Below.setCell ?_ (by first | omega | (simp; done) | (simp; omega)) _ | refine Below.trans ?_ (Below.mono (by assumption) (by first | omega | (simp; done) | (simp; omega)))))
  have t9 : Below w.heap.size w w9 := t8.trans (j9.mono t8.size)
  replace hd := hd.below j9
  replace ht := ht.below j9
  replace q0 := below_cell j9 q0
  replace q1 := below_cell j9 q1
  replace q2 := below_cell j9 q2
  replace q3 := below_cell j9 q3
  replace lB := Nat.lt_of_lt_of_le lB j9.size
  replace iS := iS.below j9
  replace iB := iB.below j9
  go_wp2_with fail
  go_at_call 23
  refine (fault_eq st rate keeps ds ad cd _ 0 H0 hd SM).mono ?_
  rintro e w10 ⟨rfl, b10⟩
  have j10 : Below w9.heap.size w9 w10 := by (repeat (first | exact Below.refl _ _ | refine Below.alloc ?_ (by first | omega | (simp; done) | (simp; omega)) _ | refine Below.drew ?_ | refine Below.setCell ?_ (by first | omega | (simp; done) | (simp; omega)) _ | refine Below.trans ?_ (Below.mono (by assumption) (by first | omega | (simp; done) | (simp; omega)))))
  have t10 : Below w.heap.size w w10 := t9.trans (j10.mono t9.size)
  replace hd := hd.below j10
  replace ht := ht.below j10
  replace q0 := below_cell j10 q0
  replace q1 := below_cell j10 q1
  replace q2 := below_cell j10 q2
  replace q3 := below_cell j10 q3
  replace lB := Nat.lt_of_lt_of_le lB j10.size
  replace iS := iS.below j10
  replace iB := iB.below j10
  go_wp2_with fail
  (refine wp_region_ext 26 (by kernel_rfl) (by kernel_rfl) ?_; simp only [List.take_succ_cons, List.take_zero, List.drop_succ_cons, List.drop_zero]; (repeat (go_big_quiet_step (((go_at_call 24; refine Calls_ext_same (rin_eq' _ _ _ _ Hd _)))))); refine wpQuiet_nil ?_; rintro _ ⟨ex, rfl⟩; have hex := ex.below; have hexz := ex.size; (try simp at hexz); (try (have hy0 : w.heap.size < ex.to.heap.size := by omega)); (try (have hy1 : w.heap.size + 1 < ex.to.heap.size := by omega)); (try (have hy2 : w.heap.size + 2 < ex.to.heap.size := by omega)))
  have b11 := ex.below
  obtain ⟨w11, hwq⟩ : ∃ x : World, x = ex.to := ⟨_, rfl⟩
  rw [← hwq] at b11 ⊢
  clear hwq
  have j11 : Below w10.heap.size w10 w11 := by (repeat (first | exact Below.refl _ _ | refine Below.alloc ?_ (by first | omega | (simp; done) | (simp; omega)) _ | refine Below.drew ?_ | refine Below.setCell ?_ (by first | omega | (simp; done) | (simp; omega)) _ | refine Below.trans ?_ (Below.mono (by assumption) (by first | omega | (simp; done) | (simp; omega)))))
  have t11 : Below w.heap.size w w11 := t10.trans (j11.mono t10.size)
  replace hd := hd.below j11
  replace ht := ht.below j11
  replace q0 := below_cell j11 q0
  replace q1 := below_cell j11 q1
  replace q2 := below_cell j11 q2
  replace q3 := below_cell j11 q3
  replace lB := Nat.lt_of_lt_of_le lB j11.size
  replace iS := iS.below j11
  replace iB := iB.below j11
  go_wp2_with fail
  go_at_call 27
  refine (rTruth_eq st rate keeps ds ad cd _ at_ t ct V HV hd SM ht).mono ?_
  rintro e w12 ⟨rfl, b12⟩
  have j12 : Below w11.heap.size w11 w12 := by (repeat (first | exact Below.refl _ _ | refine Below.alloc ?_ (by first | omega | (simp; done) | (simp; omega)) _ | refine Below.drew ?_ | refine Below.setCell ?_ (by first | omega | (simp; done) | (simp; omega)) _ | refine Below.trans ?_ (Below.mono (by assumption) (by first | omega | (simp; done) | (simp; omega)))))
  have t12 : Below w.heap.size w w12 := t11.trans (j12.mono t11.size)
  replace hd := hd.below j12
  replace ht := ht.below j12
  replace q0 := below_cell j12 q0
  replace q1 := below_cell j12 q1
  replace q2 := below_cell j12 q2
  replace q3 := below_cell j12 q3
  replace lB := Nat.lt_of_lt_of_le lB j12.size
  replace iS := iS.below j12
  replace iB := iB.below j12
  cases V
  · obtain ⟨rfl, rfl⟩ := Hbv.out.1 rfl
    clear HeB HBa iB
    go_wp2_with fail
    go_at_call 17
    refine (awake_any _).mono ?_
    rintro e w13 ⟨rfl, b13⟩
    have j13 : Below w12.heap.size w12 w13 := by (repeat (first | exact Below.refl _ _ | refine Below.alloc ?_ (by first | omega | (simp; done) | (simp; omega)) _ | refine Below.drew ?_ | refine Below.setCell ?_ (by first | omega | (simp; done) | (simp; omega)) _ | refine Below.trans ?_ (Below.mono (by assumption) (by first | omega | (simp; done) | (simp; omega)))))
    have t13 : Below w.heap.size w w13 := t12.trans (j13.mono t12.size)
    replace hd := hd.below j13
    replace ht := ht.below j13
    replace q0 := below_cell j13 q0
    replace q1 := below_cell j13 q1
    replace q2 := below_cell j13 q2
    replace q3 := below_cell j13 q3
    replace lB := Nat.lt_of_lt_of_le lB j13.size
    replace iS := iS.below j13
    go_wp2_with fail
    go_ret
    exact ⟨rfl, t13⟩
  · obtain ⟨rfl, hBl⟩ := Hbv.out.2 rfl
    go_wp2_with fail
    go_at_call 28
    refine (rBalance_eq st rate keeps ds ad cd _ at_ t ct B B.length H0 HV HBa (Lib.hid rfl) hd ht).mono ?_
    rintro e w13 ⟨⟨aR, cR, rfl, iR⟩, b13⟩
    have j13 : Below w12.heap.size w12 w13 := by (repeat (first | exact Below.refl _ _ | refine Below.alloc ?_ (by first | omega | (simp; done) | (simp; omega)) _ | refine Below.drew ?_ | refine Below.setCell ?_ (by first | omega | (simp; done) | (simp; omega)) _ | refine Below.trans ?_ (Below.mono (by assumption) (by first | omega | (simp; done) | (simp; omega)))))
    have t13 : Below w.heap.size w w13 := t12.trans (j13.mono t12.size)
    replace hd := hd.below j13
    replace ht := ht.below j13
    replace q0 := below_cell j13 q0
    replace q1 := below_cell j13 q1
    replace q2 := below_cell j13 q2
    replace q3 := below_cell j13 q3
    replace lB := Nat.lt_of_lt_of_le lB j13.size
    replace iS := iS.below j13
    replace iB := iB.below j13
    go_wp2_with fail
    go_at_call 25
    refine (same2_eq aB B _ cB (Lib.hid rfl) aR _ cR (Lib.hid rfl) _ iB iR (by omega)).mono ?_
    rintro e w14 ⟨rfl, b14⟩
    have j14 : Below w13.heap.size w13 w14 := by (repeat (first | exact Below.refl _ _ | refine Below.alloc ?_ (by first | omega | (simp; done) | (simp; omega)) _ | refine Below.drew ?_ | refine Below.setCell ?_ (by first | omega | (simp; done) | (simp; omega)) _ | refine Below.trans ?_ (Below.mono (by assumption) (by first | omega | (simp; done) | (simp; omega)))))
    have t14 : Below w.heap.size w w14 := t13.trans (j14.mono t13.size)
    replace hd := hd.below j14
    replace ht := ht.below j14
    replace q0 := below_cell j14 q0
    replace q1 := below_cell j14 q1
    replace q2 := below_cell j14 q2
    replace q3 := below_cell j14 q3
    replace lB := Nat.lt_of_lt_of_le lB j14.size
    replace iS := iS.below j14
    replace iB := iB.below j14
    replace iR := iR.below j14
    clear iB iR
    go_wp2_with fail
    go_at_call 17
    refine (awake_any _).mono ?_
    rintro e w15 ⟨rfl, b15⟩
    have j15 : Below w14.heap.size w14 w15 := by (repeat (first | exact Below.refl _ _ | refine Below.alloc ?_ (by first | omega | (simp; done) | (simp; omega)) _ | refine Below.drew ?_ | refine Below.setCell ?_ (by first | omega | (simp; done) | (simp; omega)) _ | refine Below.trans ?_ (Below.mono (by assumption) (by first | omega | (simp; done) | (simp; omega)))))
    have t15 : Below w.heap.size w w15 := t14.trans (j15.mono t14.size)
    replace hd := hd.below j15
    replace ht := ht.below j15
    replace q0 := below_cell j15 q0
    replace q1 := below_cell j15 q1
    replace q2 := below_cell j15 q2
    replace q3 := below_cell j15 q3
    replace lB := Nat.lt_of_lt_of_le lB j15.size
    replace iS := iS.below j15
    go_wp2_with fail
    go_ret
    exact ⟨rfl, t15⟩
set_option maxRecDepth 100000 in
set_option maxHeartbeats 8000000 in
theorem shares_b2 (st rate keeps : Int) (ds : List Dis) (ad : Option Addr) (cd : Nat) (d x : Int) (at_ : Option Addr) (t : List Int) (ct : Nat) (w : World) (hd : DisAt w ad ds) (big : AccBig ds) (ht : IntsAt w at_ t) (nt : at_ = none → ct = 0) (lt : t.length ≤ ct) (mt : ct ≤ maxLen) (hT : thinB ds = true) (h11 : t.length ≤ 11) (h0 : accErr ⟨st, rate, keeps, ds⟩ = 0) (hdr : inR d 0 ((ds.length : Int) - 1) = true) (hxr : ∀ (h : d.toNat < ds.length), inR x ds[d.toNat].lo ds[d.toNat].hi = false) :
    Calls Try.prog 3 #[.agg #[.int .i64 st, .int .i64 rate, .int .i64 keeps, .slice ad ds.length cd], .int .i64 d, .int .i64 x, .slice at_ t.length ct] w fun e w' => e = .returned (.bool true) ∧ Below w.heap.size w w' := by
  have HB := Lib.hid big
  have HT := Lib.hid hT
  have SM := Lib.hid (thin_small (st := st) (rate := rate) (keeps := keeps) hT)
  have h11d : decide ((11 : Int) < (t.length : Int)) = false := by simp; omega
  have lt1 : t.length ≤ 1000 := by omega
  have H0 := Lib.hid h0
  have hn6 : ds.length ≤ 6 := (accErr_ok h0).len
  have wL : IntKind.i64.wrap ((ds.length : Int) - 1) = (ds.length : Int) - 1 := IntWalk.i64_in _ (by omega)
  obtain ⟨V, hV⟩ : ∃ V, isTruth ds t = V := ⟨_, rfl⟩
  obtain ⟨B, hBa⟩ : ∃ B, balOut ⟨st, rate, keeps, ds⟩ t = B := ⟨_, rfl⟩
  obtain ⟨eB, heB⟩ : ∃ eB, balErr ⟨st, rate, keeps, ds⟩ t = eB := ⟨_, rfl⟩
  have hbv : (V = false → B = [] ∧ eB = 2) ∧ (V = true → eB = 0 ∧ B.length ≤ 7) := by
    refine ⟨fun h => ?_, fun h => ?_⟩
    · subst h
      exact ⟨by rw [← hBa, balOut, if_neg (by simp [hV])], by rw [← heB, balErr, if_neg (by simpa using h0), hV]; rfl⟩
    · subst h
      refine ⟨by rw [← heB, balErr, if_neg (by simpa using h0), hV]; rfl, ?_⟩
      rw [← hBa, balOut, if_pos ⟨h0, hV⟩]
      have := (accErr_ok h0).st
      simp only at this
      simp [balL]; omega
  have HV := Lib.hid hV
  have HBa := Lib.hid hBa
  have HeB := Lib.hid heB
  have Hbv := Lib.hid hbv
  clear hV hBa heB hbv
  have hil : d.toNat < ds.length := by have := inR_iff.1 hdr; omega
  have hxr := hxr hil
  obtain ⟨i, hdi⟩ : ∃ i : Nat, d = (i : Int) := ⟨d.toNat, by have := inR_iff.1 hdr; omega⟩
  subst hdi
  simp only [Int.toNat_natCast] at hxr hil
  have hi : i < ds.length := by have := inR_iff.1 hdr; omega
  have hiI : (i : Int) < (ds.length : Int) := by omega
  have Hd := Lib.hid hdr
  have hgd : ds.getD i ⟨0, 0, 0, []⟩ = ds[i] := by simp [hi]
  obtain ⟨bd, od, al, cl, rfl, lbd, _, e1, e2, _, _⟩ := hd i hi
  have hsi : sharesIn ⟨st, rate, keeps, ds⟩ (i : Int) x = inR x ds[i].lo ds[i].hi := by simp only [sharesIn, hdr, Int.toNat_natCast, hgd]; rfl
  have hGw := (good_of h0).w _ (List.getElem_mem hi)
  obtain ⟨lo, hlo⟩ : ∃ z, ds[i].lo = z := ⟨_, rfl⟩
  obtain ⟨hi2, hhi⟩ : ∃ z, ds[i].hi = z := ⟨_, rfl⟩
  rw [hlo] at e1 hsi hGw hxr
  rw [hhi] at e2 hsi hGw hxr
  rw [hxr] at hsi
  have Hx := Lib.hid hxr
  obtain ⟨S, hS⟩ : ∃ S, sharesOut ⟨st, rate, keeps, ds⟩ (i : Int) x = S := ⟨_, rfl⟩
  obtain rfl : S = [] := by rw [← hS, sharesOut, if_neg (by rw [hsi]; simp)]
  have HS := Lib.hid hS
  have HeS : Hid (sharesErr ⟨st, rate, keeps, ds⟩ (i : Int) x = 2) := Lib.hid (by rw [sharesErr, if_neg (by simpa using h0), hsi]; rfl)
  clear hS hdr hsi hgd hlo hhi hxr hil
  clear hT big lt mt h0
  go_enter Try.func3, Try.ntmps3
  go_wp2_with fail
  go_at_call 16
  refine (thin_eq st rate keeps ds (some ⟨bd, od, none⟩) cd _ true HT (hd.below (by (repeat (first | exact Below.refl _ _ | refine Below.alloc ?_ (by first | omega | (simp; done) | (simp; omega)) _ | refine Below.drew ?_ | refine Below.setCell ?_ (by first | omega | (simp; done) | (simp; omega)) _ | refine Below.trans ?_ (Below.mono (by assumption) (by first | omega | (simp; done) | (simp; omega))))))) HB).mono ?_
  rintro e w1 ⟨rfl, b1⟩
  have t1 : Below w.heap.size w w1 := by (repeat (first | exact Below.refl _ _ | refine Below.alloc ?_ (by first | omega | (simp; done) | (simp; omega)) _ | refine Below.drew ?_ | refine Below.setCell ?_ (by first | omega | (simp; done) | (simp; omega)) _ | refine Below.trans ?_ (Below.mono (by assumption) (by first | omega | (simp; done) | (simp; omega)))))
  replace hd := hd.below t1
  replace ht := ht.below t1
  replace e1 := below_cell t1 e1
  replace e2 := below_cell t1 e2
  replace lbd := Nat.lt_of_lt_of_le lbd t1.size
  have q0 := box_cells b1 0 rfl
  have q1 := box_cells b1 1 rfl
  have q2 := box_cells b1 2 rfl
  have q3 := box_cells b1 3 rfl
  have lB := cell_ltK q0
  go_wp2_with fail
  go_at_call 19
  refine (account_eq st rate keeps ds (some ⟨bd, od, none⟩) cd _ hd SM).mono ?_
  rintro e w2 ⟨⟨aX, cX, rfl, dX⟩, b2⟩
  have j2 : Below w1.heap.size w1 w2 := by (repeat (first | exact Below.refl _ _ | refine Below.alloc ?_ (by first | omega | (simp; done) | (simp; omega)) _ | refine Below.drew ?_ | refine Below.setCell ?_ (by first | omega | (simp; done) | (simp; omega)) _ | refine Below.trans ?_ (Below.mono (by assumption) (by first | omega | (simp; done) | (simp; omega)))))
  have t2 : Below w.heap.size w w2 := t1.trans (j2.mono t1.size)
  replace hd := hd.below j2
  replace ht := ht.below j2
  replace e1 := below_cell j2 e1
  replace e2 := below_cell j2 e2
  replace lbd := Nat.lt_of_lt_of_le lbd j2.size
  replace q0 := below_cell j2 q0
  replace q1 := below_cell j2 q1
  replace q2 := below_cell j2 q2
  replace q3 := below_cell j2 q3
  replace lB := Nat.lt_of_lt_of_le lB j2.size
  go_wp2_with fail
  go_at_call 18
  refine (check_eq st rate keeps ds aX cX _ 0 H0 dX SM).mono ?_
  rintro e w3 ⟨rfl, b3⟩
  have j3 : Below w2.heap.size w2 w3 := by (repeat (first | exact Below.refl _ _ | refine Below.alloc ?_ (by first | omega | (simp; done) | (simp; omega)) _ | refine Below.drew ?_ | refine Below.setCell ?_ (by first | omega | (simp; done) | (simp; omega)) _ | refine Below.trans ?_ (Below.mono (by assumption) (by first | omega | (simp; done) | (simp; omega)))))
  have t3 : Below w.heap.size w w3 := t2.trans (j3.mono t2.size)
  replace hd := hd.below j3
  replace ht := ht.below j3
  replace e1 := below_cell j3 e1
  replace e2 := below_cell j3 e2
  replace lbd := Nat.lt_of_lt_of_le lbd j3.size
  replace q0 := below_cell j3 q0
  replace q1 := below_cell j3 q1
  replace q2 := below_cell j3 q2
  replace q3 := below_cell j3 q3
  replace lB := Nat.lt_of_lt_of_le lB j3.size
  replace dX := dX.below j3
  clear dX
  go_wp2_with fail
  go_at_call 19
  refine (account_eq st rate keeps ds (some ⟨bd, od, none⟩) cd _ hd SM).mono ?_
  rintro e w4 ⟨⟨aY, cY, rfl, dY⟩, b4⟩
  have j4 : Below w3.heap.size w3 w4 := by (repeat (first | exact Below.refl _ _ | refine Below.alloc ?_ (by first | omega | (simp; done) | (simp; omega)) _ | refine Below.drew ?_ | refine Below.setCell ?_ (by first | omega | (simp; done) | (simp; omega)) _ | refine Below.trans ?_ (Below.mono (by assumption) (by first | omega | (simp; done) | (simp; omega)))))
  have t4 : Below w.heap.size w w4 := t3.trans (j4.mono t3.size)
  replace hd := hd.below j4
  replace ht := ht.below j4
  replace e1 := below_cell j4 e1
  replace e2 := below_cell j4 e2
  replace lbd := Nat.lt_of_lt_of_le lbd j4.size
  replace q0 := below_cell j4 q0
  replace q1 := below_cell j4 q1
  replace q2 := below_cell j4 q2
  replace q3 := below_cell j4 q3
  replace lB := Nat.lt_of_lt_of_le lB j4.size
  go_wp2_with fail
  go_at_call 20
  refine (shares_eq st rate keeps ds aY cY _ (i : Int) x [] 2 H0 HS HeS dY SM).mono ?_
  rintro e w5 ⟨⟨aS, cS, rfl, iS⟩, b5⟩
  have j5 : Below w4.heap.size w4 w5 := by (repeat (first | exact Below.refl _ _ | refine Below.alloc ?_ (by first | omega | (simp; done) | (simp; omega)) _ | refine Below.drew ?_ | refine Below.setCell ?_ (by first | omega | (simp; done) | (simp; omega)) _ | refine Below.trans ?_ (Below.mono (by assumption) (by first | omega | (simp; done) | (simp; omega)))))
  have t5 : Below w.heap.size w w5 := t4.trans (j5.mono t4.size)
  replace hd := hd.below j5
  replace ht := ht.below j5
  replace e1 := below_cell j5 e1
  replace e2 := below_cell j5 e2
  replace lbd := Nat.lt_of_lt_of_le lbd j5.size
  replace q0 := below_cell j5 q0
  replace q1 := below_cell j5 q1
  replace q2 := below_cell j5 q2
  replace q3 := below_cell j5 q3
  replace lB := Nat.lt_of_lt_of_le lB j5.size
  replace dY := dY.below j5
  clear dY
  go_wp2_with fail
  go_at_call 19
  refine (account_eq st rate keeps ds (some ⟨bd, od, none⟩) cd _ hd SM).mono ?_
  rintro e w6 ⟨⟨aZ, cZ, rfl, dZ⟩, b6⟩
  have j6 : Below w5.heap.size w5 w6 := by (repeat (first | exact Below.refl _ _ | refine Below.alloc ?_ (by first | omega | (simp; done) | (simp; omega)) _ | refine Below.drew ?_ | refine Below.setCell ?_ (by first | omega | (simp; done) | (simp; omega)) _ | refine Below.trans ?_ (Below.mono (by assumption) (by first | omega | (simp; done) | (simp; omega)))))
  have t6 : Below w.heap.size w w6 := t5.trans (j6.mono t5.size)
  replace hd := hd.below j6
  replace ht := ht.below j6
  replace e1 := below_cell j6 e1
  replace e2 := below_cell j6 e2
  replace lbd := Nat.lt_of_lt_of_le lbd j6.size
  replace q0 := below_cell j6 q0
  replace q1 := below_cell j6 q1
  replace q2 := below_cell j6 q2
  replace q3 := below_cell j6 q3
  replace lB := Nat.lt_of_lt_of_le lB j6.size
  replace iS := iS.below j6
  go_wp2_with fail
  go_at_call 22
  refine (list_eq _ at_ t ct ht lt1 nt).mono ?_
  rintro e w7 ⟨⟨aL, cL, rfl, iL, nL⟩, b7⟩
  have j7 : Below w6.heap.size w6 w7 := by (repeat (first | exact Below.refl _ _ | refine Below.alloc ?_ (by first | omega | (simp; done) | (simp; omega)) _ | refine Below.drew ?_ | refine Below.setCell ?_ (by first | omega | (simp; done) | (simp; omega)) _ | refine Below.trans ?_ (Below.mono (by assumption) (by first | omega | (simp; done) | (simp; omega)))))
  have t7 : Below w.heap.size w w7 := t6.trans (j7.mono t6.size)
  replace hd := hd.below j7
  replace ht := ht.below j7
  replace e1 := below_cell j7 e1
  replace e2 := below_cell j7 e2
  replace lbd := Nat.lt_of_lt_of_le lbd j7.size
  replace q0 := below_cell j7 q0
  replace q1 := below_cell j7 q1
  replace q2 := below_cell j7 q2
  replace q3 := below_cell j7 q3
  replace lB := Nat.lt_of_lt_of_le lB j7.size
  replace iS := iS.below j7
  replace dZ := dZ.below j7
  go_wp2_with fail
  go_at_call 21
  refine (bal_eq st rate keeps ds aZ cZ _ aL t cL B eB H0 HBa HeB dZ SM iL lt1).mono ?_
  rintro e w8 ⟨⟨aB, cB, rfl, iB⟩, b8⟩
  have j8 : Below w7.heap.size w7 w8 := by (repeat (first | exact Below.refl _ _ | refine Below.alloc ?_ (by first | omega | (simp; done) | (simp; omega)) _ | refine Below.drew ?_ | refine Below.setCell ?_ (by first | omega | (simp; done) | (simp; omega)) _ | refine Below.trans ?_ (Below.mono (by assumption) (by first | omega | (simp; done) | (simp; omega)))))
  have t8 : Below w.heap.size w w8 := t7.trans (j8.mono t7.size)
  replace hd := hd.below j8
  replace ht := ht.below j8
  replace e1 := below_cell j8 e1
  replace e2 := below_cell j8 e2
  replace lbd := Nat.lt_of_lt_of_le lbd j8.size
  replace q0 := below_cell j8 q0
  replace q1 := below_cell j8 q1
  replace q2 := below_cell j8 q2
  replace q3 := below_cell j8 q3
  replace lB := Nat.lt_of_lt_of_le lB j8.size
  replace iS := iS.below j8
  replace dZ := dZ.below j8
  replace iL := iL.below j8
  clear dZ iL
  go_wp2_with fail
  go_at_call 23
  refine (fault_eq st rate keeps ds (some ⟨bd, od, none⟩) cd _ 0 H0 hd SM).mono ?_
  rintro e w9 ⟨rfl, b9⟩
  have j9 : Below w8.heap.size w8 w9 := by (repeat (first | exact Below.refl _ _ | refine Below.alloc ?_ (by first | omega | (simp; done) | (simp; omega)) _ | refine Below.drew ?_ | refine Below.setCell ?_ (by first | omega | (simp; done) | (simp; omega)) _ | refine Below.trans ?_ (Below.mono (by assumption) (by first | omega | (simp; done) | (simp; omega)))))
  have t9 : Below w.heap.size w w9 := t8.trans (j9.mono t8.size)
  replace hd := hd.below j9
  replace ht := ht.below j9
  replace e1 := below_cell j9 e1
  replace e2 := below_cell j9 e2
  replace lbd := Nat.lt_of_lt_of_le lbd j9.size
  replace q0 := below_cell j9 q0
  replace q1 := below_cell j9 q1
  replace q2 := below_cell j9 q2
  replace q3 := below_cell j9 q3
  replace lB := Nat.lt_of_lt_of_le lB j9.size
  replace iS := iS.below j9
  replace iB := iB.below j9
  go_wp2_with fail
  go_at_call 23
  refine (fault_eq st rate keeps ds (some ⟨bd, od, none⟩) cd _ 0 H0 hd SM).mono ?_
  rintro e w10 ⟨rfl, b10⟩
  have j10 : Below w9.heap.size w9 w10 := by (repeat (first | exact Below.refl _ _ | refine Below.alloc ?_ (by first | omega | (simp; done) | (simp; omega)) _ | refine Below.drew ?_ | refine Below.setCell ?_ (by first | omega | (simp; done) | (simp; omega)) _ | refine Below.trans ?_ (Below.mono (by assumption) (by first | omega | (simp; done) | (simp; omega)))))
  have t10 : Below w.heap.size w w10 := t9.trans (j10.mono t9.size)
  replace hd := hd.below j10
  replace ht := ht.below j10
  replace e1 := below_cell j10 e1
  replace e2 := below_cell j10 e2
  replace lbd := Nat.lt_of_lt_of_le lbd j10.size
  replace q0 := below_cell j10 q0
  replace q1 := below_cell j10 q1
  replace q2 := below_cell j10 q2
  replace q3 := below_cell j10 q3
  replace lB := Nat.lt_of_lt_of_le lB j10.size
  replace iS := iS.below j10
  replace iB := iB.below j10
  go_wp2_with fail
  (refine wp_region_ext 26 (by kernel_rfl) (by kernel_rfl) ?_; simp only [List.take_succ_cons, List.take_zero, List.drop_succ_cons, List.drop_zero]; (repeat (go_big_quiet_step (((go_at_call 24; first | (with_reducible refine Calls_ext_same (rin_eq' (i : Int) 0 _ _ Hd _)) | (with_reducible refine Calls_ext_same (rin_eq' x _ _ _ Hx _))))))); refine wpQuiet_nil ?_; rintro _ ⟨ex, rfl⟩; have hex := ex.below; have hexz := ex.size; (try simp at hexz); (try (have hy0 : w.heap.size < ex.to.heap.size := by omega)); (try (have hy1 : w.heap.size + 1 < ex.to.heap.size := by omega)); (try (have hy2 : w.heap.size + 2 < ex.to.heap.size := by omega)))
  have b11 := ex.below
  obtain ⟨w11, hwq⟩ : ∃ x : World, x = ex.to := ⟨_, rfl⟩
  rw [← hwq] at b11 ⊢
  clear hwq
  have j11 : Below w10.heap.size w10 w11 := by (repeat (first | exact Below.refl _ _ | refine Below.alloc ?_ (by first | omega | (simp; done) | (simp; omega)) _ | refine Below.drew ?_ | refine Below.setCell ?_ (by first | omega | (simp; done) | (simp; omega)) _ | refine Below.trans ?_ (Below.mono (by assumption) (by first | omega | (simp; done) | (simp; omega)))))
  have t11 : Below w.heap.size w w11 := t10.trans (j11.mono t10.size)
  replace hd := hd.below j11
  replace ht := ht.below j11
  replace e1 := below_cell j11 e1
  replace e2 := below_cell j11 e2
  replace lbd := Nat.lt_of_lt_of_le lbd j11.size
  replace q0 := below_cell j11 q0
  replace q1 := below_cell j11 q1
  replace q2 := below_cell j11 q2
  replace q3 := below_cell j11 q3
  replace lB := Nat.lt_of_lt_of_le lB j11.size
  replace iS := iS.below j11
  replace iB := iB.below j11
  go_wp2_with fail
  go_at_call 27
  refine (rTruth_eq st rate keeps ds (some ⟨bd, od, none⟩) cd _ at_ t ct V HV hd SM ht).mono ?_
  rintro e w12 ⟨rfl, b12⟩
  have j12 : Below w11.heap.size w11 w12 := by (repeat (first | exact Below.refl _ _ | refine Below.alloc ?_ (by first | omega | (simp; done) | (simp; omega)) _ | refine Below.drew ?_ | refine Below.setCell ?_ (by first | omega | (simp; done) | (simp; omega)) _ | refine Below.trans ?_ (Below.mono (by assumption) (by first | omega | (simp; done) | (simp; omega)))))
  have t12 : Below w.heap.size w w12 := t11.trans (j12.mono t11.size)
  replace hd := hd.below j12
  replace ht := ht.below j12
  replace e1 := below_cell j12 e1
  replace e2 := below_cell j12 e2
  replace lbd := Nat.lt_of_lt_of_le lbd j12.size
  replace q0 := below_cell j12 q0
  replace q1 := below_cell j12 q1
  replace q2 := below_cell j12 q2
  replace q3 := below_cell j12 q3
  replace lB := Nat.lt_of_lt_of_le lB j12.size
  replace iS := iS.below j12
  replace iB := iB.below j12
  cases V
  · obtain ⟨rfl, rfl⟩ := Hbv.out.1 rfl
    clear HeB HBa iB
    go_wp2_with fail
    go_at_call 17
    refine (awake_any _).mono ?_
    rintro e w13 ⟨rfl, b13⟩
    have j13 : Below w12.heap.size w12 w13 := by (repeat (first | exact Below.refl _ _ | refine Below.alloc ?_ (by first | omega | (simp; done) | (simp; omega)) _ | refine Below.drew ?_ | refine Below.setCell ?_ (by first | omega | (simp; done) | (simp; omega)) _ | refine Below.trans ?_ (Below.mono (by assumption) (by first | omega | (simp; done) | (simp; omega)))))
    have t13 : Below w.heap.size w w13 := t12.trans (j13.mono t12.size)
    replace hd := hd.below j13
    replace ht := ht.below j13
    replace e1 := below_cell j13 e1
    replace e2 := below_cell j13 e2
    replace lbd := Nat.lt_of_lt_of_le lbd j13.size
    replace q0 := below_cell j13 q0
    replace q1 := below_cell j13 q1
    replace q2 := below_cell j13 q2
    replace q3 := below_cell j13 q3
    replace lB := Nat.lt_of_lt_of_le lB j13.size
    replace iS := iS.below j13
    go_wp2_with fail
    go_ret
    exact ⟨rfl, t13⟩
  · obtain ⟨rfl, hBl⟩ := Hbv.out.2 rfl
    go_wp2_with fail
    go_at_call 28
    refine (rBalance_eq st rate keeps ds (some ⟨bd, od, none⟩) cd _ at_ t ct B B.length H0 HV HBa (Lib.hid rfl) hd ht).mono ?_
    rintro e w13 ⟨⟨aR, cR, rfl, iR⟩, b13⟩
    have j13 : Below w12.heap.size w12 w13 := by (repeat (first | exact Below.refl _ _ | refine Below.alloc ?_ (by first | omega | (simp; done) | (simp; omega)) _ | refine Below.drew ?_ | refine Below.setCell ?_ (by first | omega | (simp; done) | (simp; omega)) _ | refine Below.trans ?_ (Below.mono (by assumption) (by first | omega | (simp; done) | (simp; omega)))))
    have t13 : Below w.heap.size w w13 := t12.trans (j13.mono t12.size)
    replace hd := hd.below j13
    replace ht := ht.below j13
    replace e1 := below_cell j13 e1
    replace e2 := below_cell j13 e2
    replace lbd := Nat.lt_of_lt_of_le lbd j13.size
    replace q0 := below_cell j13 q0
    replace q1 := below_cell j13 q1
    replace q2 := below_cell j13 q2
    replace q3 := below_cell j13 q3
    replace lB := Nat.lt_of_lt_of_le lB j13.size
    replace iS := iS.below j13
    replace iB := iB.below j13
    go_wp2_with fail
    go_at_call 25
    refine (same2_eq aB B _ cB (Lib.hid rfl) aR _ cR (Lib.hid rfl) _ iB iR (by omega)).mono ?_
    rintro e w14 ⟨rfl, b14⟩
    have j14 : Below w13.heap.size w13 w14 := by (repeat (first | exact Below.refl _ _ | refine Below.alloc ?_ (by first | omega | (simp; done) | (simp; omega)) _ | refine Below.drew ?_ | refine Below.setCell ?_ (by first | omega | (simp; done) | (simp; omega)) _ | refine Below.trans ?_ (Below.mono (by assumption) (by first | omega | (simp; done) | (simp; omega)))))
    have t14 : Below w.heap.size w w14 := t13.trans (j14.mono t13.size)
    replace hd := hd.below j14
    replace ht := ht.below j14
    replace e1 := below_cell j14 e1
    replace e2 := below_cell j14 e2
    replace lbd := Nat.lt_of_lt_of_le lbd j14.size
    replace q0 := below_cell j14 q0
    replace q1 := below_cell j14 q1
    replace q2 := below_cell j14 q2
    replace q3 := below_cell j14 q3
    replace lB := Nat.lt_of_lt_of_le lB j14.size
    replace iS := iS.below j14
    replace iB := iB.below j14
    replace iR := iR.below j14
    clear iB iR
    go_wp2_with fail
    go_at_call 17
    refine (awake_any _).mono ?_
    rintro e w15 ⟨rfl, b15⟩
    have j15 : Below w14.heap.size w14 w15 := by (repeat (first | exact Below.refl _ _ | refine Below.alloc ?_ (by first | omega | (simp; done) | (simp; omega)) _ | refine Below.drew ?_ | refine Below.setCell ?_ (by first | omega | (simp; done) | (simp; omega)) _ | refine Below.trans ?_ (Below.mono (by assumption) (by first | omega | (simp; done) | (simp; omega)))))
    have t15 : Below w.heap.size w w15 := t14.trans (j15.mono t14.size)
    replace hd := hd.below j15
    replace ht := ht.below j15
    replace e1 := below_cell j15 e1
    replace e2 := below_cell j15 e2
    replace lbd := Nat.lt_of_lt_of_le lbd j15.size
    replace q0 := below_cell j15 q0
    replace q1 := below_cell j15 q1
    replace q2 := below_cell j15 q2
    replace q3 := below_cell j15 q3
    replace lB := Nat.lt_of_lt_of_le lB j15.size
    replace iS := iS.below j15
    go_wp2_with fail
    go_ret
    exact ⟨rfl, t15⟩
set_option maxRecDepth 100000 in
set_option maxHeartbeats 8000000 in
theorem shares_b3 (st rate keeps : Int) (ds : List Dis) (ad : Option Addr) (cd : Nat) (d x : Int) (at_ : Option Addr) (t : List Int) (ct : Nat) (w : World) (hd : DisAt w ad ds) (big : AccBig ds) (ht : IntsAt w at_ t) (nt : at_ = none → ct = 0) (lt : t.length ≤ ct) (mt : ct ≤ maxLen) (hT : thinB ds = true) (h11 : t.length ≤ 11) (h0 : accErr ⟨st, rate, keeps, ds⟩ = 0) (hdr : inR d 0 ((ds.length : Int) - 1) = true) (hxr : ∀ (h : d.toNat < ds.length), inR x ds[d.toNat].lo ds[d.toNat].hi = true) :
    Calls Try.prog 3 #[.agg #[.int .i64 st, .int .i64 rate, .int .i64 keeps, .slice ad ds.length cd], .int .i64 d, .int .i64 x, .slice at_ t.length ct] w fun e w' => e = .returned (.bool true) ∧ Below w.heap.size w w' := by
  have HB := Lib.hid big
  have HT := Lib.hid hT
  have SM := Lib.hid (thin_small (st := st) (rate := rate) (keeps := keeps) hT)
  have h11d : decide ((11 : Int) < (t.length : Int)) = false := by simp; omega
  have lt1 : t.length ≤ 1000 := by omega
  have H0 := Lib.hid h0
  have hn6 : ds.length ≤ 6 := (accErr_ok h0).len
  have wL : IntKind.i64.wrap ((ds.length : Int) - 1) = (ds.length : Int) - 1 := IntWalk.i64_in _ (by omega)
  obtain ⟨V, hV⟩ : ∃ V, isTruth ds t = V := ⟨_, rfl⟩
  obtain ⟨B, hBa⟩ : ∃ B, balOut ⟨st, rate, keeps, ds⟩ t = B := ⟨_, rfl⟩
  obtain ⟨eB, heB⟩ : ∃ eB, balErr ⟨st, rate, keeps, ds⟩ t = eB := ⟨_, rfl⟩
  have hbv : (V = false → B = [] ∧ eB = 2) ∧ (V = true → eB = 0 ∧ B.length ≤ 7) := by
    refine ⟨fun h => ?_, fun h => ?_⟩
    · subst h
      exact ⟨by rw [← hBa, balOut, if_neg (by simp [hV])], by rw [← heB, balErr, if_neg (by simpa using h0), hV]; rfl⟩
    · subst h
      refine ⟨by rw [← heB, balErr, if_neg (by simpa using h0), hV]; rfl, ?_⟩
      rw [← hBa, balOut, if_pos ⟨h0, hV⟩]
      have := (accErr_ok h0).st
      simp only at this
      simp [balL]; omega
  have HV := Lib.hid hV
  have HBa := Lib.hid hBa
  have HeB := Lib.hid heB
  have Hbv := Lib.hid hbv
  clear hV hBa heB hbv
  have hil : d.toNat < ds.length := by have := inR_iff.1 hdr; omega
  have hxr := hxr hil
  obtain ⟨i, hdi⟩ : ∃ i : Nat, d = (i : Int) := ⟨d.toNat, by have := inR_iff.1 hdr; omega⟩
  subst hdi
  simp only [Int.toNat_natCast] at hxr hil
  have hi : i < ds.length := by have := inR_iff.1 hdr; omega
  have hiI : (i : Int) < (ds.length : Int) := by omega
  have Hd := Lib.hid hdr
  have hgd : ds.getD i ⟨0, 0, 0, []⟩ = ds[i] := by simp [hi]
  obtain ⟨bd, od, al, cl, rfl, lbd, _, e1, e2, _, _⟩ := hd i hi
  have hsi : sharesIn ⟨st, rate, keeps, ds⟩ (i : Int) x = inR x ds[i].lo ds[i].hi := by simp only [sharesIn, hdr, Int.toNat_natCast, hgd]; rfl
  have hGw := (good_of h0).w _ (List.getElem_mem hi)
  obtain ⟨lo, hlo⟩ : ∃ z, ds[i].lo = z := ⟨_, rfl⟩
  obtain ⟨hi2, hhi⟩ : ∃ z, ds[i].hi = z := ⟨_, rfl⟩
  rw [hlo] at e1 hsi hGw hxr
  rw [hhi] at e2 hsi hGw hxr
  rw [hxr] at hsi
  have Hx := Lib.hid hxr
  obtain ⟨S, hS⟩ : ∃ S, sharesOut ⟨st, rate, keeps, ds⟩ (i : Int) x = S := ⟨_, rfl⟩
  have HS2 : Hid (shF rate keeps ds (i : Int) x = S) := Lib.hid (by rw [← hS, sharesOut, if_pos ⟨h0, hsi⟩])
  have HS := Lib.hid hS
  have HeS : Hid (sharesErr ⟨st, rate, keeps, ds⟩ (i : Int) x = 0) := Lib.hid (by rw [sharesErr, if_neg (by simpa using h0), hsi]; rfl)
  have hSl5 : S.length ≤ 5 := by
    rw [← HS2.out, shF, sharesF_len]
    simp only [Int.toNat_natCast, hgd]
    exact ((good_of h0).p _ (List.getElem_mem hi)).2
  have Hxb : Hid (1 ≤ x ∧ x ≤ 200) := Lib.hid (by have := inR_iff.1 hxr; omega)
  clear hS hdr hsi hgd hlo hhi hxr hil
  clear hT big lt mt h0
  go_enter Try.func3, Try.ntmps3
  go_wp2_with fail
  go_at_call 16
  refine (thin_eq st rate keeps ds (some ⟨bd, od, none⟩) cd _ true HT (hd.below (by (repeat (first | exact Below.refl _ _ | refine Below.alloc ?_ (by first | omega | (simp; done) | (simp; omega)) _ | refine Below.drew ?_ | refine Below.setCell ?_ (by first | omega | (simp; done) | (simp; omega)) _ | refine Below.trans ?_ (Below.mono (by assumption) (by first | omega | (simp; done) | (simp; omega))))))) HB).mono ?_
  rintro e w1 ⟨rfl, b1⟩
  have t1 : Below w.heap.size w w1 := by (repeat (first | exact Below.refl _ _ | refine Below.alloc ?_ (by first | omega | (simp; done) | (simp; omega)) _ | refine Below.drew ?_ | refine Below.setCell ?_ (by first | omega | (simp; done) | (simp; omega)) _ | refine Below.trans ?_ (Below.mono (by assumption) (by first | omega | (simp; done) | (simp; omega)))))
  replace hd := hd.below t1
  replace ht := ht.below t1
  replace e1 := below_cell t1 e1
  replace e2 := below_cell t1 e2
  replace lbd := Nat.lt_of_lt_of_le lbd t1.size
  have q0 := box_cells b1 0 rfl
  have q1 := box_cells b1 1 rfl
  have q2 := box_cells b1 2 rfl
  have q3 := box_cells b1 3 rfl
  have lB := cell_ltK q0
  go_wp2_with fail
  go_at_call 19
  refine (account_eq st rate keeps ds (some ⟨bd, od, none⟩) cd _ hd SM).mono ?_
  rintro e w2 ⟨⟨aX, cX, rfl, dX⟩, b2⟩
  have j2 : Below w1.heap.size w1 w2 := by (repeat (first | exact Below.refl _ _ | refine Below.alloc ?_ (by first | omega | (simp; done) | (simp; omega)) _ | refine Below.drew ?_ | refine Below.setCell ?_ (by first | omega | (simp; done) | (simp; omega)) _ | refine Below.trans ?_ (Below.mono (by assumption) (by first | omega | (simp; done) | (simp; omega)))))
  have t2 : Below w.heap.size w w2 := t1.trans (j2.mono t1.size)
  replace hd := hd.below j2
  replace ht := ht.below j2
  replace e1 := below_cell j2 e1
  replace e2 := below_cell j2 e2
  replace lbd := Nat.lt_of_lt_of_le lbd j2.size
  replace q0 := below_cell j2 q0
  replace q1 := below_cell j2 q1
  replace q2 := below_cell j2 q2
  replace q3 := below_cell j2 q3
  replace lB := Nat.lt_of_lt_of_le lB j2.size
  go_wp2_with fail
  go_at_call 18
  refine (check_eq st rate keeps ds aX cX _ 0 H0 dX SM).mono ?_
  rintro e w3 ⟨rfl, b3⟩
  have j3 : Below w2.heap.size w2 w3 := by (repeat (first | exact Below.refl _ _ | refine Below.alloc ?_ (by first | omega | (simp; done) | (simp; omega)) _ | refine Below.drew ?_ | refine Below.setCell ?_ (by first | omega | (simp; done) | (simp; omega)) _ | refine Below.trans ?_ (Below.mono (by assumption) (by first | omega | (simp; done) | (simp; omega)))))
  have t3 : Below w.heap.size w w3 := t2.trans (j3.mono t2.size)
  replace hd := hd.below j3
  replace ht := ht.below j3
  replace e1 := below_cell j3 e1
  replace e2 := below_cell j3 e2
  replace lbd := Nat.lt_of_lt_of_le lbd j3.size
  replace q0 := below_cell j3 q0
  replace q1 := below_cell j3 q1
  replace q2 := below_cell j3 q2
  replace q3 := below_cell j3 q3
  replace lB := Nat.lt_of_lt_of_le lB j3.size
  replace dX := dX.below j3
  clear dX
  go_wp2_with fail
  go_at_call 19
  refine (account_eq st rate keeps ds (some ⟨bd, od, none⟩) cd _ hd SM).mono ?_
  rintro e w4 ⟨⟨aY, cY, rfl, dY⟩, b4⟩
  have j4 : Below w3.heap.size w3 w4 := by (repeat (first | exact Below.refl _ _ | refine Below.alloc ?_ (by first | omega | (simp; done) | (simp; omega)) _ | refine Below.drew ?_ | refine Below.setCell ?_ (by first | omega | (simp; done) | (simp; omega)) _ | refine Below.trans ?_ (Below.mono (by assumption) (by first | omega | (simp; done) | (simp; omega)))))
  have t4 : Below w.heap.size w w4 := t3.trans (j4.mono t3.size)
  replace hd := hd.below j4
  replace ht := ht.below j4
  replace e1 := below_cell j4 e1
  replace e2 := below_cell j4 e2
  replace lbd := Nat.lt_of_lt_of_le lbd j4.size
  replace q0 := below_cell j4 q0
  replace q1 := below_cell j4 q1
  replace q2 := below_cell j4 q2
  replace q3 := below_cell j4 q3
  replace lB := Nat.lt_of_lt_of_le lB j4.size
  go_wp2_with fail
  go_at_call 20
  refine (shares_eq st rate keeps ds aY cY _ (i : Int) x S 0 H0 HS HeS dY SM).mono ?_
  rintro e w5 ⟨⟨aS, cS, rfl, iS⟩, b5⟩
  have j5 : Below w4.heap.size w4 w5 := by (repeat (first | exact Below.refl _ _ | refine Below.alloc ?_ (by first | omega | (simp; done) | (simp; omega)) _ | refine Below.drew ?_ | refine Below.setCell ?_ (by first | omega | (simp; done) | (simp; omega)) _ | refine Below.trans ?_ (Below.mono (by assumption) (by first | omega | (simp; done) | (simp; omega)))))
  have t5 : Below w.heap.size w w5 := t4.trans (j5.mono t4.size)
  replace hd := hd.below j5
  replace ht := ht.below j5
  replace e1 := below_cell j5 e1
  replace e2 := below_cell j5 e2
  replace lbd := Nat.lt_of_lt_of_le lbd j5.size
  replace q0 := below_cell j5 q0
  replace q1 := below_cell j5 q1
  replace q2 := below_cell j5 q2
  replace q3 := below_cell j5 q3
  replace lB := Nat.lt_of_lt_of_le lB j5.size
  replace dY := dY.below j5
  clear dY
  go_wp2_with fail
  go_at_call 19
  refine (account_eq st rate keeps ds (some ⟨bd, od, none⟩) cd _ hd SM).mono ?_
  rintro e w6 ⟨⟨aZ, cZ, rfl, dZ⟩, b6⟩
  have j6 : Below w5.heap.size w5 w6 := by (repeat (first | exact Below.refl _ _ | refine Below.alloc ?_ (by first | omega | (simp; done) | (simp; omega)) _ | refine Below.drew ?_ | refine Below.setCell ?_ (by first | omega | (simp; done) | (simp; omega)) _ | refine Below.trans ?_ (Below.mono (by assumption) (by first | omega | (simp; done) | (simp; omega)))))
  have t6 : Below w.heap.size w w6 := t5.trans (j6.mono t5.size)
  replace hd := hd.below j6
  replace ht := ht.below j6
  replace e1 := below_cell j6 e1
  replace e2 := below_cell j6 e2
  replace lbd := Nat.lt_of_lt_of_le lbd j6.size
  replace q0 := below_cell j6 q0
  replace q1 := below_cell j6 q1
  replace q2 := below_cell j6 q2
  replace q3 := below_cell j6 q3
  replace lB := Nat.lt_of_lt_of_le lB j6.size
  replace iS := iS.below j6
  go_wp2_with fail
  go_at_call 22
  refine (list_eq _ at_ t ct ht lt1 nt).mono ?_
  rintro e w7 ⟨⟨aL, cL, rfl, iL, nL⟩, b7⟩
  have j7 : Below w6.heap.size w6 w7 := by (repeat (first | exact Below.refl _ _ | refine Below.alloc ?_ (by first | omega | (simp; done) | (simp; omega)) _ | refine Below.drew ?_ | refine Below.setCell ?_ (by first | omega | (simp; done) | (simp; omega)) _ | refine Below.trans ?_ (Below.mono (by assumption) (by first | omega | (simp; done) | (simp; omega)))))
  have t7 : Below w.heap.size w w7 := t6.trans (j7.mono t6.size)
  replace hd := hd.below j7
  replace ht := ht.below j7
  replace e1 := below_cell j7 e1
  replace e2 := below_cell j7 e2
  replace lbd := Nat.lt_of_lt_of_le lbd j7.size
  replace q0 := below_cell j7 q0
  replace q1 := below_cell j7 q1
  replace q2 := below_cell j7 q2
  replace q3 := below_cell j7 q3
  replace lB := Nat.lt_of_lt_of_le lB j7.size
  replace iS := iS.below j7
  replace dZ := dZ.below j7
  go_wp2_with fail
  go_at_call 21
  refine (bal_eq st rate keeps ds aZ cZ _ aL t cL B eB H0 HBa HeB dZ SM iL lt1).mono ?_
  rintro e w8 ⟨⟨aB, cB, rfl, iB⟩, b8⟩
  have j8 : Below w7.heap.size w7 w8 := by (repeat (first | exact Below.refl _ _ | refine Below.alloc ?_ (by first | omega | (simp; done) | (simp; omega)) _ | refine Below.drew ?_ | refine Below.setCell ?_ (by first | omega | (simp; done) | (simp; omega)) _ | refine Below.trans ?_ (Below.mono (by assumption) (by first | omega | (simp; done) | (simp; omega)))))
  have t8 : Below w.heap.size w w8 := t7.trans (j8.mono t7.size)
  replace hd := hd.below j8
  replace ht := ht.below j8
  replace e1 := below_cell j8 e1
  replace e2 := below_cell j8 e2
  replace lbd := Nat.lt_of_lt_of_le lbd j8.size
  replace q0 := below_cell j8 q0
  replace q1 := below_cell j8 q1
  replace q2 := below_cell j8 q2
  replace q3 := below_cell j8 q3
  replace lB := Nat.lt_of_lt_of_le lB j8.size
  replace iS := iS.below j8
  replace dZ := dZ.below j8
  replace iL := iL.below j8
  clear dZ iL
  go_wp2_with fail
  go_at_call 23
  refine (fault_eq st rate keeps ds (some ⟨bd, od, none⟩) cd _ 0 H0 hd SM).mono ?_
  rintro e w9 ⟨rfl, b9⟩
  have j9 : Below w8.heap.size w8 w9 := by (repeat (first | exact Below.refl _ _ | refine Below.alloc ?_ (by first | omega | (simp; done) | (simp; omega)) _ | refine Below.drew ?_ | refine Below.setCell ?_ (by first | omega | (simp; done) | (simp; omega)) _ | refine Below.trans ?_ (Below.mono (by assumption) (by first | omega | (simp; done) | (simp; omega)))))
  have t9 : Below w.heap.size w w9 := t8.trans (j9.mono t8.size)
  replace hd := hd.below j9
  replace ht := ht.below j9
  replace e1 := below_cell j9 e1
  replace e2 := below_cell j9 e2
  replace lbd := Nat.lt_of_lt_of_le lbd j9.size
  replace q0 := below_cell j9 q0
  replace q1 := below_cell j9 q1
  replace q2 := below_cell j9 q2
  replace q3 := below_cell j9 q3
  replace lB := Nat.lt_of_lt_of_le lB j9.size
  replace iS := iS.below j9
  replace iB := iB.below j9
  go_wp2_with fail
  go_at_call 23
  refine (fault_eq st rate keeps ds (some ⟨bd, od, none⟩) cd _ 0 H0 hd SM).mono ?_
  rintro e w10 ⟨rfl, b10⟩
  have j10 : Below w9.heap.size w9 w10 := by (repeat (first | exact Below.refl _ _ | refine Below.alloc ?_ (by first | omega | (simp; done) | (simp; omega)) _ | refine Below.drew ?_ | refine Below.setCell ?_ (by first | omega | (simp; done) | (simp; omega)) _ | refine Below.trans ?_ (Below.mono (by assumption) (by first | omega | (simp; done) | (simp; omega)))))
  have t10 : Below w.heap.size w w10 := t9.trans (j10.mono t9.size)
  replace hd := hd.below j10
  replace ht := ht.below j10
  replace e1 := below_cell j10 e1
  replace e2 := below_cell j10 e2
  replace lbd := Nat.lt_of_lt_of_le lbd j10.size
  replace q0 := below_cell j10 q0
  replace q1 := below_cell j10 q1
  replace q2 := below_cell j10 q2
  replace q3 := below_cell j10 q3
  replace lB := Nat.lt_of_lt_of_le lB j10.size
  replace iS := iS.below j10
  replace iB := iB.below j10
  go_wp2_with fail
  (refine wp_region_ext 26 (by kernel_rfl) (by kernel_rfl) ?_; simp only [List.take_succ_cons, List.take_zero, List.drop_succ_cons, List.drop_zero]; (repeat (go_big_quiet_step (((go_at_call 24; first | (with_reducible refine Calls_ext_same (rin_eq' (i : Int) 0 _ _ Hd _)) | (with_reducible refine Calls_ext_same (rin_eq' x _ _ _ Hx _))))))); refine wpQuiet_nil ?_; rintro _ ⟨ex, rfl⟩; have hex := ex.below; have hexz := ex.size; (try simp at hexz); (try (have hy0 : w.heap.size < ex.to.heap.size := by omega)); (try (have hy1 : w.heap.size + 1 < ex.to.heap.size := by omega)); (try (have hy2 : w.heap.size + 2 < ex.to.heap.size := by omega)))
  have b11 := ex.below
  obtain ⟨w11, hwq⟩ : ∃ x : World, x = ex.to := ⟨_, rfl⟩
  rw [← hwq] at b11 ⊢
  clear hwq
  have j11 : Below w10.heap.size w10 w11 := by (repeat (first | exact Below.refl _ _ | refine Below.alloc ?_ (by first | omega | (simp; done) | (simp; omega)) _ | refine Below.drew ?_ | refine Below.setCell ?_ (by first | omega | (simp; done) | (simp; omega)) _ | refine Below.trans ?_ (Below.mono (by assumption) (by first | omega | (simp; done) | (simp; omega)))))
  have t11 : Below w.heap.size w w11 := t10.trans (j11.mono t10.size)
  replace hd := hd.below j11
  replace ht := ht.below j11
  replace e1 := below_cell j11 e1
  replace e2 := below_cell j11 e2
  replace lbd := Nat.lt_of_lt_of_le lbd j11.size
  replace q0 := below_cell j11 q0
  replace q1 := below_cell j11 q1
  replace q2 := below_cell j11 q2
  replace q3 := below_cell j11 q3
  replace lB := Nat.lt_of_lt_of_le lB j11.size
  replace iS := iS.below j11
  replace iB := iB.below j11
  go_wp2_with fail
  go_at_call 26
  refine (rShares_eq st rate keeps ds (some ⟨bd, od, none⟩) cd i x S S.length H0 hi Hxb HS2 (Lib.hid rfl) _ hd).mono ?_
  rintro e w12 ⟨⟨aQ, cQ, rfl, iQ⟩, b12⟩
  have j12 : Below w11.heap.size w11 w12 := by (repeat (first | exact Below.refl _ _ | refine Below.alloc ?_ (by first | omega | (simp; done) | (simp; omega)) _ | refine Below.drew ?_ | refine Below.setCell ?_ (by first | omega | (simp; done) | (simp; omega)) _ | refine Below.trans ?_ (Below.mono (by assumption) (by first | omega | (simp; done) | (simp; omega)))))
  have t12 : Below w.heap.size w w12 := t11.trans (j12.mono t11.size)
  replace hd := hd.below j12
  replace ht := ht.below j12
  replace e1 := below_cell j12 e1
  replace e2 := below_cell j12 e2
  replace lbd := Nat.lt_of_lt_of_le lbd j12.size
  replace q0 := below_cell j12 q0
  replace q1 := below_cell j12 q1
  replace q2 := below_cell j12 q2
  replace q3 := below_cell j12 q3
  replace lB := Nat.lt_of_lt_of_le lB j12.size
  replace iS := iS.below j12
  replace iB := iB.below j12
  go_wp2_with fail
  go_at_call 25
  refine (same2_eq aS S _ cS (Lib.hid rfl) aQ _ cQ (Lib.hid rfl) _ iS iQ (by omega)).mono ?_
  rintro e w13 ⟨rfl, b13⟩
  have j13 : Below w12.heap.size w12 w13 := by (repeat (first | exact Below.refl _ _ | refine Below.alloc ?_ (by first | omega | (simp; done) | (simp; omega)) _ | refine Below.drew ?_ | refine Below.setCell ?_ (by first | omega | (simp; done) | (simp; omega)) _ | refine Below.trans ?_ (Below.mono (by assumption) (by first | omega | (simp; done) | (simp; omega)))))
  have t13 : Below w.heap.size w w13 := t12.trans (j13.mono t12.size)
  replace hd := hd.below j13
  replace ht := ht.below j13
  replace e1 := below_cell j13 e1
  replace e2 := below_cell j13 e2
  replace lbd := Nat.lt_of_lt_of_le lbd j13.size
  replace q0 := below_cell j13 q0
  replace q1 := below_cell j13 q1
  replace q2 := below_cell j13 q2
  replace q3 := below_cell j13 q3
  replace lB := Nat.lt_of_lt_of_le lB j13.size
  replace iS := iS.below j13
  replace iB := iB.below j13
  replace iQ := iQ.below j13
  clear iS iQ
  go_wp2_with fail
  go_at_call 27
  refine (rTruth_eq st rate keeps ds (some ⟨bd, od, none⟩) cd _ at_ t ct V HV hd SM ht).mono ?_
  rintro e w14 ⟨rfl, b14⟩
  have j14 : Below w13.heap.size w13 w14 := by (repeat (first | exact Below.refl _ _ | refine Below.alloc ?_ (by first | omega | (simp; done) | (simp; omega)) _ | refine Below.drew ?_ | refine Below.setCell ?_ (by first | omega | (simp; done) | (simp; omega)) _ | refine Below.trans ?_ (Below.mono (by assumption) (by first | omega | (simp; done) | (simp; omega)))))
  have t14 : Below w.heap.size w w14 := t13.trans (j14.mono t13.size)
  replace hd := hd.below j14
  replace ht := ht.below j14
  replace e1 := below_cell j14 e1
  replace e2 := below_cell j14 e2
  replace lbd := Nat.lt_of_lt_of_le lbd j14.size
  replace q0 := below_cell j14 q0
  replace q1 := below_cell j14 q1
  replace q2 := below_cell j14 q2
  replace q3 := below_cell j14 q3
  replace lB := Nat.lt_of_lt_of_le lB j14.size
  replace iB := iB.below j14
  cases V
  · obtain ⟨rfl, rfl⟩ := Hbv.out.1 rfl
    clear HeB HBa iB
    go_wp2_with fail
    go_at_call 17
    refine (awake_any _).mono ?_
    rintro e w15 ⟨rfl, b15⟩
    have j15 : Below w14.heap.size w14 w15 := by (repeat (first | exact Below.refl _ _ | refine Below.alloc ?_ (by first | omega | (simp; done) | (simp; omega)) _ | refine Below.drew ?_ | refine Below.setCell ?_ (by first | omega | (simp; done) | (simp; omega)) _ | refine Below.trans ?_ (Below.mono (by assumption) (by first | omega | (simp; done) | (simp; omega)))))
    have t15 : Below w.heap.size w w15 := t14.trans (j15.mono t14.size)
    replace hd := hd.below j15
    replace ht := ht.below j15
    replace e1 := below_cell j15 e1
    replace e2 := below_cell j15 e2
    replace lbd := Nat.lt_of_lt_of_le lbd j15.size
    replace q0 := below_cell j15 q0
    replace q1 := below_cell j15 q1
    replace q2 := below_cell j15 q2
    replace q3 := below_cell j15 q3
    replace lB := Nat.lt_of_lt_of_le lB j15.size
    go_wp2_with fail
    go_ret
    exact ⟨rfl, t15⟩
  · obtain ⟨rfl, hBl⟩ := Hbv.out.2 rfl
    go_wp2_with fail
    go_at_call 28
    refine (rBalance_eq st rate keeps ds (some ⟨bd, od, none⟩) cd _ at_ t ct B B.length H0 HV HBa (Lib.hid rfl) hd ht).mono ?_
    rintro e w15 ⟨⟨aR, cR, rfl, iR⟩, b15⟩
    have j15 : Below w14.heap.size w14 w15 := by (repeat (first | exact Below.refl _ _ | refine Below.alloc ?_ (by first | omega | (simp; done) | (simp; omega)) _ | refine Below.drew ?_ | refine Below.setCell ?_ (by first | omega | (simp; done) | (simp; omega)) _ | refine Below.trans ?_ (Below.mono (by assumption) (by first | omega | (simp; done) | (simp; omega)))))
    have t15 : Below w.heap.size w w15 := t14.trans (j15.mono t14.size)
    replace hd := hd.below j15
    replace ht := ht.below j15
    replace e1 := below_cell j15 e1
    replace e2 := below_cell j15 e2
    replace lbd := Nat.lt_of_lt_of_le lbd j15.size
    replace q0 := below_cell j15 q0
    replace q1 := below_cell j15 q1
    replace q2 := below_cell j15 q2
    replace q3 := below_cell j15 q3
    replace lB := Nat.lt_of_lt_of_le lB j15.size
    replace iB := iB.below j15
    go_wp2_with fail
    go_at_call 25
    refine (same2_eq aB B _ cB (Lib.hid rfl) aR _ cR (Lib.hid rfl) _ iB iR (by omega)).mono ?_
    rintro e w16 ⟨rfl, b16⟩
    have j16 : Below w15.heap.size w15 w16 := by (repeat (first | exact Below.refl _ _ | refine Below.alloc ?_ (by first | omega | (simp; done) | (simp; omega)) _ | refine Below.drew ?_ | refine Below.setCell ?_ (by first | omega | (simp; done) | (simp; omega)) _ | refine Below.trans ?_ (Below.mono (by assumption) (by first | omega | (simp; done) | (simp; omega)))))
    have t16 : Below w.heap.size w w16 := t15.trans (j16.mono t15.size)
    replace hd := hd.below j16
    replace ht := ht.below j16
    replace e1 := below_cell j16 e1
    replace e2 := below_cell j16 e2
    replace lbd := Nat.lt_of_lt_of_le lbd j16.size
    replace q0 := below_cell j16 q0
    replace q1 := below_cell j16 q1
    replace q2 := below_cell j16 q2
    replace q3 := below_cell j16 q3
    replace lB := Nat.lt_of_lt_of_le lB j16.size
    replace iB := iB.below j16
    replace iR := iR.below j16
    clear iB iR
    go_wp2_with fail
    go_at_call 17
    refine (awake_any _).mono ?_
    rintro e w17 ⟨rfl, b17⟩
    have j17 : Below w16.heap.size w16 w17 := by (repeat (first | exact Below.refl _ _ | refine Below.alloc ?_ (by first | omega | (simp; done) | (simp; omega)) _ | refine Below.drew ?_ | refine Below.setCell ?_ (by first | omega | (simp; done) | (simp; omega)) _ | refine Below.trans ?_ (Below.mono (by assumption) (by first | omega | (simp; done) | (simp; omega)))))
    have t17 : Below w.heap.size w w17 := t16.trans (j17.mono t16.size)
    replace hd := hd.below j17
    replace ht := ht.below j17
    replace e1 := below_cell j17 e1
    replace e2 := below_cell j17 e2
    replace lbd := Nat.lt_of_lt_of_le lbd j17.size
    replace q0 := below_cell j17 q0
    replace q1 := below_cell j17 q1
    replace q2 := below_cell j17 q2
    replace q3 := below_cell j17 q3
    replace lB := Nat.lt_of_lt_of_le lB j17.size
    go_wp2_with fail
    go_ret
    exact ⟨rfl, t17⟩
theorem shares_walk (st rate keeps : Int) (ds : List Dis) (ad : Option Addr) (cd : Nat) (d x : Int) (at_ : Option Addr) (t : List Int) (ct : Nat) (w : World) (hd : DisAt w ad ds) (big : AccBig ds) (ht : IntsAt w at_ t) (nt : at_ = none → ct = 0) (lt : t.length ≤ ct) (mt : ct ≤ maxLen) :
    Calls Try.prog 3 #[.agg #[.int .i64 st, .int .i64 rate, .int .i64 keeps, .slice ad ds.length cd], .int .i64 d, .int .i64 x, .slice at_ t.length ct] w fun e w' => e = .returned (.bool true) ∧ Below w.heap.size w w' := by
  by_cases hT : thinB ds = true
  · by_cases h11 : t.length ≤ 11
    · by_cases h0 : accErr ⟨st, rate, keeps, ds⟩ = 0
      · cases hdr : inR d 0 ((ds.length : Int) - 1)
        · exact shares_b1 st rate keeps ds ad cd d x at_ t ct w hd big ht nt lt mt hT h11 h0 hdr
        · have hil : d.toNat < ds.length := by have := inR_iff.1 hdr; omega
          cases hxr : inR x ds[d.toNat].lo ds[d.toNat].hi
          · exact shares_b2 st rate keeps ds ad cd d x at_ t ct w hd big ht nt lt mt hT h11 h0 hdr (fun _ => hxr)
          · exact shares_b3 st rate keeps ds ad cd d x at_ t ct w hd big ht nt lt mt hT h11 h0 hdr (fun _ => hxr)
      · exact shares_a3 st rate keeps ds ad cd d x at_ t ct w hd big ht nt lt mt hT h11 _ rfl h0
    · exact shares_a2 st rate keeps ds ad cd d x at_ t ct w hd big ht nt lt mt hT h11
  · exact shares_a1 st rate keeps ds ad cd d x at_ t ct w hd big ht nt lt mt (by simpa using hT)
end Go.Proofs.Ytomjlmhnjgohdaa
