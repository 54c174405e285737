/- CipherFits: the walk -/
import Derived.Test.YtmplgcefhpobgaaDu
import Derived.Test.YtmplgcefhpobgaaLd
namespace Go.Proofs.Ytmplgcefhpobgaa
set_option linter.unusedVariables false
set_option linter.unusedSimpArgs false
set_option linter.unnecessarySimpa false
open Go.RowKit Go.Flow

set_option maxRecDepth 100000 in
set_option maxHeartbeats 8000000 in
theorem fits_a (s wo : Int) (ak : Option Addr) (ks : List (Int × Int × Int)) (ck : Nat) (ad : Option Addr) (ds : List Int) (cd : Nat) (ac : Option Addr) (codes : List Int) (cc : Nat) (ag : Option Addr) (gs : List (Int × Int)) (cg : Nat) (x : Int) (w : World) (hk : Recs3At w ak ks) (hd : IntsAt w ad ds) (nd : ad = none → cd = 0) (hc : IntsAt w ac codes) (nc : ac = none → cc = 0) (hg : Recs2At w ag gs) (hT : (decide (ks.length ≤ 8) && decide (ds.length ≤ 11)) = false) :
    Calls Try.prog 12 #[.agg #[.int .i64 s, .int .i64 wo, .slice ak ks.length ck, .slice ad ds.length cd], .slice ac codes.length cc, .slice ag gs.length cg, .int .i64 x] w fun e w' => e = .returned (.bool true) ∧ Below w.heap.size w w' := by

  have HT := Lib.hid hT
  clear hT
  go_enter Try.func12, Try.ntmps12
  go_wp2_with fail
  go_at_call 16
  refine (thin_eq s wo ak ks.length ck ad ds.length cd false HT _).mono ?_
  rintro e w1 ⟨rfl, b1⟩
  have t1 : Below w.heap.size w w1 := by (repeat (first | exact Below.refl _ _ | refine Below.alloc ?_ (by first | omega | (simp; done) | (simp; omega)) _ | refine Below.drew ?_ | refine Below.setCell ?_ (by first | omega | (simp; done) | (simp; omega)) _ | refine Below.trans ?_ (Below.mono (by assumption) (by first | omega | (simp; done) | (simp; omega)))))
  replace hk := hk.below t1
  replace hd := hd.below t1
  replace hc := hc.below t1
  replace hg := hg.below t1
  obtain ⟨q0, q1, q2, q3⟩ := BookAt.of (b1.mono (by simp))
  have lB := cell_lt q0
  simp only at lB
  go_wp2_with fail
  go_at_call 17
  refine (awake_any _).mono ?_
  rintro e w2 ⟨rfl, b2⟩
  have j2 : Below w1.heap.size w1 w2 := by (repeat (first | exact Below.refl _ _ | refine Below.alloc ?_ (by first | omega | (simp; done) | (simp; omega)) _ | refine Below.drew ?_ | refine Below.setCell ?_ (by first | omega | (simp; done) | (simp; omega)) _ | refine Below.trans ?_ (Below.mono (by assumption) (by first | omega | (simp; done) | (simp; omega)))))
  have t2 : Below w.heap.size w w2 := t1.trans (j2.mono t1.size)
  replace hk := hk.below j2
  replace hd := hd.below j2
  replace hc := hc.below j2
  replace hg := hg.below j2
  replace q0 := below_cell j2 q0
  replace q1 := below_cell j2 q1
  replace q2 := below_cell j2 q2
  replace q3 := below_cell j2 q3
  replace lB := Nat.lt_of_lt_of_le lB j2.size
  go_wp2_with fail
  go_ret
  exact ⟨rfl, t2⟩

set_option maxRecDepth 100000 in
set_option maxHeartbeats 8000000 in
theorem fits_b (s wo : Int) (ak : Option Addr) (ks : List (Int × Int × Int)) (ck : Nat) (ad : Option Addr) (ds : List Int) (cd : Nat) (ac : Option Addr) (codes : List Int) (cc : Nat) (ag : Option Addr) (gs : List (Int × Int)) (cg : Nat) (x : Int) (w : World) (hk : Recs3At w ak ks) (hd : IntsAt w ad ds) (nd : ad = none → cd = 0) (hc : IntsAt w ac codes) (nc : ac = none → cc = 0) (hg : Recs2At w ag gs) (hT : (decide (ks.length ≤ 8) && decide (ds.length ≤ 11)) = true) (h13 : 13 < (codes.length : Int)) :
    Calls Try.prog 12 #[.agg #[.int .i64 s, .int .i64 wo, .slice ak ks.length ck, .slice ad ds.length cd], .slice ac codes.length cc, .slice ag gs.length cg, .int .i64 x] w fun e w' => e = .returned (.bool true) ∧ Below w.heap.size w w' := by

  have lk : ks.length ≤ 1000 := by simp at hT; omega
  have ld : ds.length ≤ 1000 := by simp at hT; omega
  have HT := Lib.hid hT
  clear hT
  have d13 : decide (13 < (codes.length : Int)) = true := by simpa using h13
  go_enter Try.func12, Try.ntmps12
  go_wp2_with fail
  go_at_call 16
  refine (thin_eq s wo ak ks.length ck ad ds.length cd true HT _).mono ?_
  rintro e w1 ⟨rfl, b1⟩
  have t1 : Below w.heap.size w w1 := by (repeat (first | exact Below.refl _ _ | refine Below.alloc ?_ (by first | omega | (simp; done) | (simp; omega)) _ | refine Below.drew ?_ | refine Below.setCell ?_ (by first | omega | (simp; done) | (simp; omega)) _ | refine Below.trans ?_ (Below.mono (by assumption) (by first | omega | (simp; done) | (simp; omega)))))
  replace hk := hk.below t1
  replace hd := hd.below t1
  replace hc := hc.below t1
  replace hg := hg.below t1
  obtain ⟨q0, q1, q2, q3⟩ := BookAt.of (b1.mono (by simp))
  have lB := cell_lt q0
  simp only at lB
  go_wp2_with fail
  go_at_call 17
  refine (awake_any _).mono ?_
  rintro e w2 ⟨rfl, b2⟩
  have j2 : Below w1.heap.size w1 w2 := by (repeat (first | exact Below.refl _ _ | refine Below.alloc ?_ (by first | omega | (simp; done) | (simp; omega)) _ | refine Below.drew ?_ | refine Below.setCell ?_ (by first | omega | (simp; done) | (simp; omega)) _ | refine Below.trans ?_ (Below.mono (by assumption) (by first | omega | (simp; done) | (simp; omega)))))
  have t2 : Below w.heap.size w w2 := t1.trans (j2.mono t1.size)
  replace hk := hk.below j2
  replace hd := hd.below j2
  replace hc := hc.below j2
  replace hg := hg.below j2
  replace q0 := below_cell j2 q0
  replace q1 := below_cell j2 q1
  replace q2 := below_cell j2 q2
  replace q3 := below_cell j2 q3
  replace lB := Nat.lt_of_lt_of_le lB j2.size
  go_wp2_with fail
  go_ret
  exact ⟨rfl, t2⟩

set_option maxRecDepth 100000 in
set_option maxHeartbeats 8000000 in
theorem fits_c (s wo : Int) (ak : Option Addr) (ks : List (Int × Int × Int)) (ck : Nat) (ad : Option Addr) (ds : List Int) (cd : Nat) (ac : Option Addr) (codes : List Int) (cc : Nat) (ag : Option Addr) (gs : List (Int × Int)) (cg : Nat) (x : Int) (w : World) (hk : Recs3At w ak ks) (hd : IntsAt w ad ds) (nd : ad = none → cd = 0) (hc : IntsAt w ac codes) (nc : ac = none → cc = 0) (hg : Recs2At w ag gs) (hT : (decide (ks.length ≤ 8) && decide (ds.length ≤ 11)) = true) (h13 : (codes.length : Int) ≤ 13) (h9 : 9 < (gs.length : Int)) :
    Calls Try.prog 12 #[.agg #[.int .i64 s, .int .i64 wo, .slice ak ks.length ck, .slice ad ds.length cd], .slice ac codes.length cc, .slice ag gs.length cg, .int .i64 x] w fun e w' => e = .returned (.bool true) ∧ Below w.heap.size w w' := by

  have lk : ks.length ≤ 1000 := by simp at hT; omega
  have ld : ds.length ≤ 1000 := by simp at hT; omega
  have HT := Lib.hid hT
  clear hT
  have d13 : decide (13 < (codes.length : Int)) = false := by simp; omega
  have d9 : decide (9 < (gs.length : Int)) = true := by simpa using h9
  go_enter Try.func12, Try.ntmps12
  go_wp2_with fail
  go_at_call 16
  refine (thin_eq s wo ak ks.length ck ad ds.length cd true HT _).mono ?_
  rintro e w1 ⟨rfl, b1⟩
  have t1 : Below w.heap.size w w1 := by (repeat (first | exact Below.refl _ _ | refine Below.alloc ?_ (by first | omega | (simp; done) | (simp; omega)) _ | refine Below.drew ?_ | refine Below.setCell ?_ (by first | omega | (simp; done) | (simp; omega)) _ | refine Below.trans ?_ (Below.mono (by assumption) (by first | omega | (simp; done) | (simp; omega)))))
  replace hk := hk.below t1
  replace hd := hd.below t1
  replace hc := hc.below t1
  replace hg := hg.below t1
  obtain ⟨q0, q1, q2, q3⟩ := BookAt.of (b1.mono (by simp))
  have lB := cell_lt q0
  simp only at lB
  go_wp2_with fail
  go_at_call 17
  refine (awake_any _).mono ?_
  rintro e w2 ⟨rfl, b2⟩
  have j2 : Below w1.heap.size w1 w2 := by (repeat (first | exact Below.refl _ _ | refine Below.alloc ?_ (by first | omega | (simp; done) | (simp; omega)) _ | refine Below.drew ?_ | refine Below.setCell ?_ (by first | omega | (simp; done) | (simp; omega)) _ | refine Below.trans ?_ (Below.mono (by assumption) (by first | omega | (simp; done) | (simp; omega)))))
  have t2 : Below w.heap.size w w2 := t1.trans (j2.mono t1.size)
  replace hk := hk.below j2
  replace hd := hd.below j2
  replace hc := hc.below j2
  replace hg := hg.below j2
  replace q0 := below_cell j2 q0
  replace q1 := below_cell j2 q1
  replace q2 := below_cell j2 q2
  replace q3 := below_cell j2 q3
  replace lB := Nat.lt_of_lt_of_le lB j2.size
  go_wp2_with fail
  go_ret
  exact ⟨rfl, t2⟩

set_option maxRecDepth 100000 in
set_option maxHeartbeats 8000000 in
theorem fits_d (s wo : Int) (ak : Option Addr) (ks : List (Int × Int × Int)) (ck : Nat) (ad : Option Addr) (ds : List Int) (cd : Nat) (ac : Option Addr) (codes : List Int) (cc : Nat) (ag : Option Addr) (gs : List (Int × Int)) (cg : Nat) (x : Int) (w : World) (hk : Recs3At w ak ks) (hd : IntsAt w ad ds) (nd : ad = none → cd = 0) (hc : IntsAt w ac codes) (nc : ac = none → cc = 0) (hg : Recs2At w ag gs) (hT : (decide (ks.length ≤ 8) && decide (ds.length ≤ 11)) = true) (h13 : (codes.length : Int) ≤ 13) (h9 : (gs.length : Int) ≤ 9) (HF : Hid (bookErr s wo ks ds = 0)) (h23 : 23 < s) :
    Calls Try.prog 12 #[.agg #[.int .i64 s, .int .i64 wo, .slice ak ks.length ck, .slice ad ds.length cd], .slice ac codes.length cc, .slice ag gs.length cg, .int .i64 x] w fun e w' => e = .returned (.bool true) ∧ Below w.heap.size w w' := by

  have lk : ks.length ≤ 1000 := by simp at hT; omega
  have ld : ds.length ≤ 1000 := by simp at hT; omega
  have HT := Lib.hid hT
  clear hT
  have d13 : decide (13 < (codes.length : Int)) = false := by simp; omega
  have d9 : decide (9 < (gs.length : Int)) = false := by simp; omega
  have d23 : decide (23 < s) = true := by simpa using h23
  go_enter Try.func12, Try.ntmps12
  go_wp2_with fail
  go_at_call 16
  refine (thin_eq s wo ak ks.length ck ad ds.length cd true HT _).mono ?_
  rintro e w1 ⟨rfl, b1⟩
  have t1 : Below w.heap.size w w1 := by (repeat (first | exact Below.refl _ _ | refine Below.alloc ?_ (by first | omega | (simp; done) | (simp; omega)) _ | refine Below.drew ?_ | refine Below.setCell ?_ (by first | omega | (simp; done) | (simp; omega)) _ | refine Below.trans ?_ (Below.mono (by assumption) (by first | omega | (simp; done) | (simp; omega)))))
  replace hk := hk.below t1
  replace hd := hd.below t1
  replace hc := hc.below t1
  replace hg := hg.below t1
  obtain ⟨q0, q1, q2, q3⟩ := BookAt.of (b1.mono (by simp))
  have lB := cell_lt q0
  simp only at lB
  go_wp2_with fail
  go_at_call 22
  refine (fault_eq s wo ak ks ck ad ds cd 0 HF _ hk hd lk ld).mono ?_
  rintro e w2 ⟨rfl, b2⟩
  have j2 : Below w1.heap.size w1 w2 := by (repeat (first | exact Below.refl _ _ | refine Below.alloc ?_ (by first | omega | (simp; done) | (simp; omega)) _ | refine Below.drew ?_ | refine Below.setCell ?_ (by first | omega | (simp; done) | (simp; omega)) _ | refine Below.trans ?_ (Below.mono (by assumption) (by first | omega | (simp; done) | (simp; omega)))))
  have t2 : Below w.heap.size w w2 := t1.trans (j2.mono t1.size)
  replace hk := hk.below j2
  replace hd := hd.below j2
  replace hc := hc.below j2
  replace hg := hg.below j2
  replace q0 := below_cell j2 q0
  replace q1 := below_cell j2 q1
  replace q2 := below_cell j2 q2
  replace q3 := below_cell j2 q3
  replace lB := Nat.lt_of_lt_of_le lB j2.size
  go_wp2_with fail
  go_at_call 17
  refine (awake_any _).mono ?_
  rintro e w3 ⟨rfl, b3⟩
  have j3 : Below w2.heap.size w2 w3 := by (repeat (first | exact Below.refl _ _ | refine Below.alloc ?_ (by first | omega | (simp; done) | (simp; omega)) _ | refine Below.drew ?_ | refine Below.setCell ?_ (by first | omega | (simp; done) | (simp; omega)) _ | refine Below.trans ?_ (Below.mono (by assumption) (by first | omega | (simp; done) | (simp; omega)))))
  have t3 : Below w.heap.size w w3 := t2.trans (j3.mono t2.size)
  replace hk := hk.below j3
  replace hd := hd.below j3
  replace hc := hc.below j3
  replace hg := hg.below j3
  replace q0 := below_cell j3 q0
  replace q1 := below_cell j3 q1
  replace q2 := below_cell j3 q2
  replace q3 := below_cell j3 q3
  replace lB := Nat.lt_of_lt_of_le lB j3.size
  go_wp2_with fail
  go_ret
  exact ⟨rfl, t3⟩

set_option maxRecDepth 100000 in
set_option maxHeartbeats 8000000 in
theorem fits_e (s wo : Int) (ak : Option Addr) (ks : List (Int × Int × Int)) (ck : Nat) (ad : Option Addr) (ds : List Int) (cd : Nat) (ac : Option Addr) (codes : List Int) (cc : Nat) (ag : Option Addr) (gs : List (Int × Int)) (cg : Nat) (x : Int) (w : World) (hk : Recs3At w ak ks) (hd : IntsAt w ad ds) (nd : ad = none → cd = 0) (hc : IntsAt w ac codes) (nc : ac = none → cc = 0) (hg : Recs2At w ag gs) (hT : (decide (ks.length ≤ 8) && decide (ds.length ≤ 11)) = true) (h13 : (codes.length : Int) ≤ 13) (h9 : (gs.length : Int) ≤ 9) (A : Int) (HF : Hid (bookErr s wo ks ds = A)) (hA0 : A ≠ 0) (HA : Hid (askErr s wo ks ds codes gs = A)) (HN : Hid (fitsN s wo ks ds codes gs = 0)) (HE : Hid (fitsErr s wo ks ds codes gs = A)) (HL : Hid (possL s wo ks ds codes gs x = [])) (HPE : Hid (possErr s wo ks ds codes gs x = A)) :
    Calls Try.prog 12 #[.agg #[.int .i64 s, .int .i64 wo, .slice ak ks.length ck, .slice ad ds.length cd], .slice ac codes.length cc, .slice ag gs.length cg, .int .i64 x] w fun e w' => e = .returned (.bool true) ∧ Below w.heap.size w w' := by

  have lk : ks.length ≤ 1000 := by simp at hT; omega
  have ld : ds.length ≤ 1000 := by simp at hT; omega
  have HT := Lib.hid hT
  clear hT
  have d13 : decide (13 < (codes.length : Int)) = false := by simp; omega
  have d9 : decide (9 < (gs.length : Int)) = false := by simp; omega
  have dA0 : (A == 0) = false := by simpa using hA0
  have dA1 : (A != 0) = true := by simpa using hA0
  clear hA0
  obtain ⟨L, hL⟩ : ∃ L : List Int, L = [] := ⟨_, rfl⟩
  rw [← hL] at HL
  have hLl : L.length = 0 := by rw [hL]; rfl
  clear hL
  go_enter Try.func12, Try.ntmps12
  go_wp2_with fail
  go_at_call 16
  refine (thin_eq s wo ak ks.length ck ad ds.length cd true HT _).mono ?_
  rintro e w1 ⟨rfl, b1⟩
  have t1 : Below w.heap.size w w1 := by (repeat (first | exact Below.refl _ _ | refine Below.alloc ?_ (by first | omega | (simp; done) | (simp; omega)) _ | refine Below.drew ?_ | refine Below.setCell ?_ (by first | omega | (simp; done) | (simp; omega)) _ | refine Below.trans ?_ (Below.mono (by assumption) (by first | omega | (simp; done) | (simp; omega)))))
  replace hk := hk.below t1
  replace hd := hd.below t1
  replace hc := hc.below t1
  replace hg := hg.below t1
  obtain ⟨q0, q1, q2, q3⟩ := BookAt.of (b1.mono (by simp))
  have lB := cell_lt q0
  simp only at lB
  go_wp2_with fail
  go_at_call 22
  refine (fault_eq s wo ak ks ck ad ds cd A HF _ hk hd lk ld).mono ?_
  rintro e w2 ⟨rfl, b2⟩
  have j2 : Below w1.heap.size w1 w2 := by (repeat (first | exact Below.refl _ _ | refine Below.alloc ?_ (by first | omega | (simp; done) | (simp; omega)) _ | refine Below.drew ?_ | refine Below.setCell ?_ (by first | omega | (simp; done) | (simp; omega)) _ | refine Below.trans ?_ (Below.mono (by assumption) (by first | omega | (simp; done) | (simp; omega)))))
  have t2 : Below w.heap.size w w2 := t1.trans (j2.mono t1.size)
  replace hk := hk.below j2
  replace hd := hd.below j2
  replace hc := hc.below j2
  replace hg := hg.below j2
  replace q0 := below_cell j2 q0
  replace q1 := below_cell j2 q1
  replace q2 := below_cell j2 q2
  replace q3 := below_cell j2 q3
  replace lB := Nat.lt_of_lt_of_le lB j2.size
  go_wp2_with fail
  go_at_call 19
  refine (bookConv_at s wo ak ks ck ad ds cd _ hk hd lk ld nd).mono ?_
  rintro e w3 ⟨⟨akA, ckA, adA, cdA, rfl, kA, dA⟩, b3⟩
  have j3 : Below w2.heap.size w2 w3 := by (repeat (first | exact Below.refl _ _ | refine Below.alloc ?_ (by first | omega | (simp; done) | (simp; omega)) _ | refine Below.drew ?_ | refine Below.setCell ?_ (by first | omega | (simp; done) | (simp; omega)) _ | refine Below.trans ?_ (Below.mono (by assumption) (by first | omega | (simp; done) | (simp; omega)))))
  have t3 : Below w.heap.size w w3 := t2.trans (j3.mono t2.size)
  replace hk := hk.below j3
  replace hd := hd.below j3
  replace hc := hc.below j3
  replace hg := hg.below j3
  replace q0 := below_cell j3 q0
  replace q1 := below_cell j3 q1
  replace q2 := below_cell j3 q2
  replace q3 := below_cell j3 q3
  replace lB := Nat.lt_of_lt_of_le lB j3.size
  go_wp2_with fail
  go_at_call 21
  refine (list_at ac codes cc _ hc (by omega) nc).mono ?_
  rintro e w4 ⟨⟨aC, cC, rfl, iC, _⟩, b4⟩
  have j4 : Below w3.heap.size w3 w4 := by (repeat (first | exact Below.refl _ _ | refine Below.alloc ?_ (by first | omega | (simp; done) | (simp; omega)) _ | refine Below.drew ?_ | refine Below.setCell ?_ (by first | omega | (simp; done) | (simp; omega)) _ | refine Below.trans ?_ (Below.mono (by assumption) (by first | omega | (simp; done) | (simp; omega)))))
  have t4 : Below w.heap.size w w4 := t3.trans (j4.mono t3.size)
  replace hk := hk.below j4
  replace hd := hd.below j4
  replace hc := hc.below j4
  replace hg := hg.below j4
  replace q0 := below_cell j4 q0
  replace q1 := below_cell j4 q1
  replace q2 := below_cell j4 q2
  replace q3 := below_cell j4 q3
  replace lB := Nat.lt_of_lt_of_le lB j4.size
  replace kA := kA.below j4
  replace dA := dA.below j4
  go_wp2_with fail
  go_at_call 41
  refine (guessesConv_at ag gs cg _ hg (by omega)).mono ?_
  rintro e w5 ⟨⟨aG, cG, rfl, iG, _⟩, b5⟩
  have j5 : Below w4.heap.size w4 w5 := by (repeat (first | exact Below.refl _ _ | refine Below.alloc ?_ (by first | omega | (simp; done) | (simp; omega)) _ | refine Below.drew ?_ | refine Below.setCell ?_ (by first | omega | (simp; done) | (simp; omega)) _ | refine Below.trans ?_ (Below.mono (by assumption) (by first | omega | (simp; done) | (simp; omega)))))
  have t5 : Below w.heap.size w w5 := t4.trans (j5.mono t4.size)
  replace hk := hk.below j5
  replace hd := hd.below j5
  replace hc := hc.below j5
  replace hg := hg.below j5
  replace q0 := below_cell j5 q0
  replace q1 := below_cell j5 q1
  replace q2 := below_cell j5 q2
  replace q3 := below_cell j5 q3
  replace lB := Nat.lt_of_lt_of_le lB j5.size
  replace kA := kA.below j5
  replace dA := dA.below j5
  replace iC := iC.below j5
  go_wp2_with fail
  go_at_call 40
  refine (fits_eq s wo akA ks ckA adA ds cdA aC codes cC aG gs cG 0 A HN HE _ kA dA lk ld iC (by omega) iG (by omega)).mono ?_
  rintro e w6 ⟨rfl, b6⟩
  have j6 : Below w5.heap.size w5 w6 := by (repeat (first | exact Below.refl _ _ | refine Below.alloc ?_ (by first | omega | (simp; done) | (simp; omega)) _ | refine Below.drew ?_ | refine Below.setCell ?_ (by first | omega | (simp; done) | (simp; omega)) _ | refine Below.trans ?_ (Below.mono (by assumption) (by first | omega | (simp; done) | (simp; omega)))))
  have t6 : Below w.heap.size w w6 := t5.trans (j6.mono t5.size)
  replace hk := hk.below j6
  replace hd := hd.below j6
  replace hc := hc.below j6
  replace hg := hg.below j6
  replace q0 := below_cell j6 q0
  replace q1 := below_cell j6 q1
  replace q2 := below_cell j6 q2
  replace q3 := below_cell j6 q3
  replace lB := Nat.lt_of_lt_of_le lB j6.size
  replace kA := kA.below j6
  replace dA := dA.below j6
  replace iC := iC.below j6
  replace iG := iG.below j6
  clear kA dA iC iG
  go_wp2_with fail
  go_at_call 19
  refine (bookConv_at s wo ak ks ck ad ds cd _ hk hd lk ld nd).mono ?_
  rintro e w7 ⟨⟨akA, ckA, adA, cdA, rfl, kA, dA⟩, b7⟩
  have j7 : Below w6.heap.size w6 w7 := by (repeat (first | exact Below.refl _ _ | refine Below.alloc ?_ (by first | omega | (simp; done) | (simp; omega)) _ | refine Below.drew ?_ | refine Below.setCell ?_ (by first | omega | (simp; done) | (simp; omega)) _ | refine Below.trans ?_ (Below.mono (by assumption) (by first | omega | (simp; done) | (simp; omega)))))
  have t7 : Below w.heap.size w w7 := t6.trans (j7.mono t6.size)
  replace hk := hk.below j7
  replace hd := hd.below j7
  replace hc := hc.below j7
  replace hg := hg.below j7
  replace q0 := below_cell j7 q0
  replace q1 := below_cell j7 q1
  replace q2 := below_cell j7 q2
  replace q3 := below_cell j7 q3
  replace lB := Nat.lt_of_lt_of_le lB j7.size
  go_wp2_with fail
  go_at_call 21
  refine (list_at ac codes cc _ hc (by omega) nc).mono ?_
  rintro e w8 ⟨⟨aC, cC, rfl, iC, _⟩, b8⟩
  have j8 : Below w7.heap.size w7 w8 := by (repeat (first | exact Below.refl _ _ | refine Below.alloc ?_ (by first | omega | (simp; done) | (simp; omega)) _ | refine Below.drew ?_ | refine Below.setCell ?_ (by first | omega | (simp; done) | (simp; omega)) _ | refine Below.trans ?_ (Below.mono (by assumption) (by first | omega | (simp; done) | (simp; omega)))))
  have t8 : Below w.heap.size w w8 := t7.trans (j8.mono t7.size)
  replace hk := hk.below j8
  replace hd := hd.below j8
  replace hc := hc.below j8
  replace hg := hg.below j8
  replace q0 := below_cell j8 q0
  replace q1 := below_cell j8 q1
  replace q2 := below_cell j8 q2
  replace q3 := below_cell j8 q3
  replace lB := Nat.lt_of_lt_of_le lB j8.size
  replace kA := kA.below j8
  replace dA := dA.below j8
  go_wp2_with fail
  go_at_call 41
  refine (guessesConv_at ag gs cg _ hg (by omega)).mono ?_
  rintro e w9 ⟨⟨aG, cG, rfl, iG, _⟩, b9⟩
  have j9 : Below w8.heap.size w8 w9 := by (repeat (first | exact Below.refl _ _ | refine Below.alloc ?_ (by first | omega | (simp; done) | (simp; omega)) _ | refine Below.drew ?_ | refine Below.setCell ?_ (by first | omega | (simp; done) | (simp; omega)) _ | refine Below.trans ?_ (Below.mono (by assumption) (by first | omega | (simp; done) | (simp; omega)))))
  have t9 : Below w.heap.size w w9 := t8.trans (j9.mono t8.size)
  replace hk := hk.below j9
  replace hd := hd.below j9
  replace hc := hc.below j9
  replace hg := hg.below j9
  replace q0 := below_cell j9 q0
  replace q1 := below_cell j9 q1
  replace q2 := below_cell j9 q2
  replace q3 := below_cell j9 q3
  replace lB := Nat.lt_of_lt_of_le lB j9.size
  replace kA := kA.below j9
  replace dA := dA.below j9
  replace iC := iC.below j9
  go_wp2_with fail
  go_at_call 42
  refine (poss_at s wo akA ks ckA adA ds cdA aC codes cC aG gs cG x L A HL HPE _ kA dA lk ld iC (by omega) iG (by omega)).mono ?_
  rintro e w10 ⟨⟨aL, cL, rfl, iL⟩, b10⟩
  have j10 : Below w9.heap.size w9 w10 := by (repeat (first | exact Below.refl _ _ | refine Below.alloc ?_ (by first | omega | (simp; done) | (simp; omega)) _ | refine Below.drew ?_ | refine Below.setCell ?_ (by first | omega | (simp; done) | (simp; omega)) _ | refine Below.trans ?_ (Below.mono (by assumption) (by first | omega | (simp; done) | (simp; omega)))))
  have t10 : Below w.heap.size w w10 := t9.trans (j10.mono t9.size)
  replace hk := hk.below j10
  replace hd := hd.below j10
  replace hc := hc.below j10
  replace hg := hg.below j10
  replace q0 := below_cell j10 q0
  replace q1 := below_cell j10 q1
  replace q2 := below_cell j10 q2
  replace q3 := below_cell j10 q3
  replace lB := Nat.lt_of_lt_of_le lB j10.size
  replace kA := kA.below j10
  replace dA := dA.below j10
  replace iC := iC.below j10
  replace iG := iG.below j10
  clear kA dA iC iG
  go_wp2_with fail
  go_at_call 43
  refine (askedLaw_any s wo ak ks ck ad ds cd ac codes cc ag gs cg A HA _ hk hd lk ld hc (by omega) hg (by omega)).mono ?_
  rintro e w11 ⟨rfl, b11⟩
  have j11 : Below w10.heap.size w10 w11 := by (repeat (first | exact Below.refl _ _ | refine Below.alloc ?_ (by first | omega | (simp; done) | (simp; omega)) _ | refine Below.drew ?_ | refine Below.setCell ?_ (by first | omega | (simp; done) | (simp; omega)) _ | refine Below.trans ?_ (Below.mono (by assumption) (by first | omega | (simp; done) | (simp; omega)))))
  have t11 : Below w.heap.size w w11 := t10.trans (j11.mono t10.size)
  replace hk := hk.below j11
  replace hd := hd.below j11
  replace hc := hc.below j11
  replace hg := hg.below j11
  replace q0 := below_cell j11 q0
  replace q1 := below_cell j11 q1
  replace q2 := below_cell j11 q2
  replace q3 := below_cell j11 q3
  replace lB := Nat.lt_of_lt_of_le lB j11.size
  replace iL := iL.below j11
  go_wp2_with fail
  go_at_call 17
  refine (awake_any _).mono ?_
  rintro e w12 ⟨rfl, b12⟩
  have j12 : Below w11.heap.size w11 w12 := by (repeat (first | exact Below.refl _ _ | refine Below.alloc ?_ (by first | omega | (simp; done) | (simp; omega)) _ | refine Below.drew ?_ | refine Below.setCell ?_ (by first | omega | (simp; done) | (simp; omega)) _ | refine Below.trans ?_ (Below.mono (by assumption) (by first | omega | (simp; done) | (simp; omega)))))
  have t12 : Below w.heap.size w w12 := t11.trans (j12.mono t11.size)
  replace hk := hk.below j12
  replace hd := hd.below j12
  replace hc := hc.below j12
  replace hg := hg.below j12
  replace q0 := below_cell j12 q0
  replace q1 := below_cell j12 q1
  replace q2 := below_cell j12 q2
  replace q3 := below_cell j12 q3
  replace lB := Nat.lt_of_lt_of_le lB j12.size
  replace iL := iL.below j12
  go_wp2_with fail
  go_ret
  exact ⟨rfl, t12⟩

set_option maxRecDepth 100000 in
set_option maxHeartbeats 8000000 in
theorem fits_f (s wo : Int) (ak : Option Addr) (ks : List (Int × Int × Int)) (ck : Nat) (ad : Option Addr) (ds : List Int) (cd : Nat) (ac : Option Addr) (codes : List Int) (cc : Nat) (ag : Option Addr) (gs : List (Int × Int)) (cg : Nat) (x : Int) (w : World) (hk : Recs3At w ak ks) (hd : IntsAt w ad ds) (nd : ad = none → cd = 0) (hc : IntsAt w ac codes) (nc : ac = none → cc = 0) (hg : Recs2At w ag gs) (hT : (decide (ks.length ≤ 8) && decide (ds.length ≤ 11)) = true) (h13 : (codes.length : Int) ≤ 13) (h9 : (gs.length : Int) ≤ 9) (A : Int) (HF : Hid (bookErr s wo ks ds = 0)) (h23 : s ≤ 23) (hA0 : A ≠ 0) (HA : Hid (askErr s wo ks ds codes gs = A)) (HN : Hid (fitsN s wo ks ds codes gs = 0)) (HE : Hid (fitsErr s wo ks ds codes gs = A)) (HL : Hid (possL s wo ks ds codes gs x = [])) (HPE : Hid (possErr s wo ks ds codes gs x = A)) :
    Calls Try.prog 12 #[.agg #[.int .i64 s, .int .i64 wo, .slice ak ks.length ck, .slice ad ds.length cd], .slice ac codes.length cc, .slice ag gs.length cg, .int .i64 x] w fun e w' => e = .returned (.bool true) ∧ Below w.heap.size w w' := by

  have lk : ks.length ≤ 1000 := by simp at hT; omega
  have ld : ds.length ≤ 1000 := by simp at hT; omega
  have HT := Lib.hid hT
  clear hT
  have d13 : decide (13 < (codes.length : Int)) = false := by simp; omega
  have d9 : decide (9 < (gs.length : Int)) = false := by simp; omega
  have dA0 : (A == 0) = false := by simpa using hA0
  have dA1 : (A != 0) = true := by simpa using hA0
  clear hA0
  have d23 : decide (23 < s) = false := by simp; omega
  obtain ⟨L, hL⟩ : ∃ L : List Int, L = [] := ⟨_, rfl⟩
  rw [← hL] at HL
  have hLl : L.length = 0 := by rw [hL]; rfl
  clear hL
  go_enter Try.func12, Try.ntmps12
  go_wp2_with fail
  go_at_call 16
  refine (thin_eq s wo ak ks.length ck ad ds.length cd true HT _).mono ?_
  rintro e w1 ⟨rfl, b1⟩
  have t1 : Below w.heap.size w w1 := by (repeat (first | exact Below.refl _ _ | refine Below.alloc ?_ (by first | omega | (simp; done) | (simp; omega)) _ | refine Below.drew ?_ | refine Below.setCell ?_ (by first | omega | (simp; done) | (simp; omega)) _ | refine Below.trans ?_ (Below.mono (by assumption) (by first | omega | (simp; done) | (simp; omega)))))
  replace hk := hk.below t1
  replace hd := hd.below t1
  replace hc := hc.below t1
  replace hg := hg.below t1
  obtain ⟨q0, q1, q2, q3⟩ := BookAt.of (b1.mono (by simp))
  have lB := cell_lt q0
  simp only at lB
  go_wp2_with fail
  go_at_call 22
  refine (fault_eq s wo ak ks ck ad ds cd 0 HF _ hk hd lk ld).mono ?_
  rintro e w2 ⟨rfl, b2⟩
  have j2 : Below w1.heap.size w1 w2 := by (repeat (first | exact Below.refl _ _ | refine Below.alloc ?_ (by first | omega | (simp; done) | (simp; omega)) _ | refine Below.drew ?_ | refine Below.setCell ?_ (by first | omega | (simp; done) | (simp; omega)) _ | refine Below.trans ?_ (Below.mono (by assumption) (by first | omega | (simp; done) | (simp; omega)))))
  have t2 : Below w.heap.size w w2 := t1.trans (j2.mono t1.size)
  replace hk := hk.below j2
  replace hd := hd.below j2
  replace hc := hc.below j2
  replace hg := hg.below j2
  replace q0 := below_cell j2 q0
  replace q1 := below_cell j2 q1
  replace q2 := below_cell j2 q2
  replace q3 := below_cell j2 q3
  replace lB := Nat.lt_of_lt_of_le lB j2.size
  go_wp2_with fail
  go_at_call 19
  refine (bookConv_at s wo ak ks ck ad ds cd _ hk hd lk ld nd).mono ?_
  rintro e w3 ⟨⟨akA, ckA, adA, cdA, rfl, kA, dA⟩, b3⟩
  have j3 : Below w2.heap.size w2 w3 := by (repeat (first | exact Below.refl _ _ | refine Below.alloc ?_ (by first | omega | (simp; done) | (simp; omega)) _ | refine Below.drew ?_ | refine Below.setCell ?_ (by first | omega | (simp; done) | (simp; omega)) _ | refine Below.trans ?_ (Below.mono (by assumption) (by first | omega | (simp; done) | (simp; omega)))))
  have t3 : Below w.heap.size w w3 := t2.trans (j3.mono t2.size)
  replace hk := hk.below j3
  replace hd := hd.below j3
  replace hc := hc.below j3
  replace hg := hg.below j3
  replace q0 := below_cell j3 q0
  replace q1 := below_cell j3 q1
  replace q2 := below_cell j3 q2
  replace q3 := below_cell j3 q3
  replace lB := Nat.lt_of_lt_of_le lB j3.size
  go_wp2_with fail
  go_at_call 21
  refine (list_at ac codes cc _ hc (by omega) nc).mono ?_
  rintro e w4 ⟨⟨aC, cC, rfl, iC, _⟩, b4⟩
  have j4 : Below w3.heap.size w3 w4 := by (repeat (first | exact Below.refl _ _ | refine Below.alloc ?_ (by first | omega | (simp; done) | (simp; omega)) _ | refine Below.drew ?_ | refine Below.setCell ?_ (by first | omega | (simp; done) | (simp; omega)) _ | refine Below.trans ?_ (Below.mono (by assumption) (by first | omega | (simp; done) | (simp; omega)))))
  have t4 : Below w.heap.size w w4 := t3.trans (j4.mono t3.size)
  replace hk := hk.below j4
  replace hd := hd.below j4
  replace hc := hc.below j4
  replace hg := hg.below j4
  replace q0 := below_cell j4 q0
  replace q1 := below_cell j4 q1
  replace q2 := below_cell j4 q2
  replace q3 := below_cell j4 q3
  replace lB := Nat.lt_of_lt_of_le lB j4.size
  replace kA := kA.below j4
  replace dA := dA.below j4
  go_wp2_with fail
  go_at_call 41
  refine (guessesConv_at ag gs cg _ hg (by omega)).mono ?_
  rintro e w5 ⟨⟨aG, cG, rfl, iG, _⟩, b5⟩
  have j5 : Below w4.heap.size w4 w5 := by (repeat (first | exact Below.refl _ _ | refine Below.alloc ?_ (by first | omega | (simp; done) | (simp; omega)) _ | refine Below.drew ?_ | refine Below.setCell ?_ (by first | omega | (simp; done) | (simp; omega)) _ | refine Below.trans ?_ (Below.mono (by assumption) (by first | omega | (simp; done) | (simp; omega)))))
  have t5 : Below w.heap.size w w5 := t4.trans (j5.mono t4.size)
  replace hk := hk.below j5
  replace hd := hd.below j5
  replace hc := hc.below j5
  replace hg := hg.below j5
  replace q0 := below_cell j5 q0
  replace q1 := below_cell j5 q1
  replace q2 := below_cell j5 q2
  replace q3 := below_cell j5 q3
  replace lB := Nat.lt_of_lt_of_le lB j5.size
  replace kA := kA.below j5
  replace dA := dA.below j5
  replace iC := iC.below j5
  go_wp2_with fail
  go_at_call 40
  refine (fits_eq s wo akA ks ckA adA ds cdA aC codes cC aG gs cG 0 A HN HE _ kA dA lk ld iC (by omega) iG (by omega)).mono ?_
  rintro e w6 ⟨rfl, b6⟩
  have j6 : Below w5.heap.size w5 w6 := by (repeat (first | exact Below.refl _ _ | refine Below.alloc ?_ (by first | omega | (simp; done) | (simp; omega)) _ | refine Below.drew ?_ | refine Below.setCell ?_ (by first | omega | (simp; done) | (simp; omega)) _ | refine Below.trans ?_ (Below.mono (by assumption) (by first | omega | (simp; done) | (simp; omega)))))
  have t6 : Below w.heap.size w w6 := t5.trans (j6.mono t5.size)
  replace hk := hk.below j6
  replace hd := hd.below j6
  replace hc := hc.below j6
  replace hg := hg.below j6
  replace q0 := below_cell j6 q0
  replace q1 := below_cell j6 q1
  replace q2 := below_cell j6 q2
  replace q3 := below_cell j6 q3
  replace lB := Nat.lt_of_lt_of_le lB j6.size
  replace kA := kA.below j6
  replace dA := dA.below j6
  replace iC := iC.below j6
  replace iG := iG.below j6
  clear kA dA iC iG
  go_wp2_with fail
  go_at_call 19
  refine (bookConv_at s wo ak ks ck ad ds cd _ hk hd lk ld nd).mono ?_
  rintro e w7 ⟨⟨akA, ckA, adA, cdA, rfl, kA, dA⟩, b7⟩
  have j7 : Below w6.heap.size w6 w7 := by (repeat (first | exact Below.refl _ _ | refine Below.alloc ?_ (by first | omega | (simp; done) | (simp; omega)) _ | refine Below.drew ?_ | refine Below.setCell ?_ (by first | omega | (simp; done) | (simp; omega)) _ | refine Below.trans ?_ (Below.mono (by assumption) (by first | omega | (simp; done) | (simp; omega)))))
  have t7 : Below w.heap.size w w7 := t6.trans (j7.mono t6.size)
  replace hk := hk.below j7
  replace hd := hd.below j7
  replace hc := hc.below j7
  replace hg := hg.below j7
  replace q0 := below_cell j7 q0
  replace q1 := below_cell j7 q1
  replace q2 := below_cell j7 q2
  replace q3 := below_cell j7 q3
  replace lB := Nat.lt_of_lt_of_le lB j7.size
  go_wp2_with fail
  go_at_call 21
  refine (list_at ac codes cc _ hc (by omega) nc).mono ?_
  rintro e w8 ⟨⟨aC, cC, rfl, iC, _⟩, b8⟩
  have j8 : Below w7.heap.size w7 w8 := by (repeat (first | exact Below.refl _ _ | refine Below.alloc ?_ (by first | omega | (simp; done) | (simp; omega)) _ | refine Below.drew ?_ | refine Below.setCell ?_ (by first | omega | (simp; done) | (simp; omega)) _ | refine Below.trans ?_ (Below.mono (by assumption) (by first | omega | (simp; done) | (simp; omega)))))
  have t8 : Below w.heap.size w w8 := t7.trans (j8.mono t7.size)
  replace hk := hk.below j8
  replace hd := hd.below j8
  replace hc := hc.below j8
  replace hg := hg.below j8
  replace q0 := below_cell j8 q0
  replace q1 := below_cell j8 q1
  replace q2 := below_cell j8 q2
  replace q3 := below_cell j8 q3
  replace lB := Nat.lt_of_lt_of_le lB j8.size
  replace kA := kA.below j8
  replace dA := dA.below j8
  go_wp2_with fail
  go_at_call 41
  refine (guessesConv_at ag gs cg _ hg (by omega)).mono ?_
  rintro e w9 ⟨⟨aG, cG, rfl, iG, _⟩, b9⟩
  have j9 : Below w8.heap.size w8 w9 := by (repeat (first | exact Below.refl _ _ | refine Below.alloc ?_ (by first | omega | (simp; done) | (simp; omega)) _ | refine Below.drew ?_ | refine Below.setCell ?_ (by first | omega | (simp; done) | (simp; omega)) _ | refine Below.trans ?_ (Below.mono (by assumption) (by first | omega | (simp; done) | (simp; omega)))))
  have t9 : Below w.heap.size w w9 := t8.trans (j9.mono t8.size)
  replace hk := hk.below j9
  replace hd := hd.below j9
  replace hc := hc.below j9
  replace hg := hg.below j9
  replace q0 := below_cell j9 q0
  replace q1 := below_cell j9 q1
  replace q2 := below_cell j9 q2
  replace q3 := below_cell j9 q3
  replace lB := Nat.lt_of_lt_of_le lB j9.size
  replace kA := kA.below j9
  replace dA := dA.below j9
  replace iC := iC.below j9
  go_wp2_with fail
  go_at_call 42
  refine (poss_at s wo akA ks ckA adA ds cdA aC codes cC aG gs cG x L A HL HPE _ kA dA lk ld iC (by omega) iG (by omega)).mono ?_
  rintro e w10 ⟨⟨aL, cL, rfl, iL⟩, b10⟩
  have j10 : Below w9.heap.size w9 w10 := by (repeat (first | exact Below.refl _ _ | refine Below.alloc ?_ (by first | omega | (simp; done) | (simp; omega)) _ | refine Below.drew ?_ | refine Below.setCell ?_ (by first | omega | (simp; done) | (simp; omega)) _ | refine Below.trans ?_ (Below.mono (by assumption) (by first | omega | (simp; done) | (simp; omega)))))
  have t10 : Below w.heap.size w w10 := t9.trans (j10.mono t9.size)
  replace hk := hk.below j10
  replace hd := hd.below j10
  replace hc := hc.below j10
  replace hg := hg.below j10
  replace q0 := below_cell j10 q0
  replace q1 := below_cell j10 q1
  replace q2 := below_cell j10 q2
  replace q3 := below_cell j10 q3
  replace lB := Nat.lt_of_lt_of_le lB j10.size
  replace kA := kA.below j10
  replace dA := dA.below j10
  replace iC := iC.below j10
  replace iG := iG.below j10
  clear kA dA iC iG
  go_wp2_with fail
  go_at_call 43
  refine (askedLaw_any s wo ak ks ck ad ds cd ac codes cc ag gs cg A HA _ hk hd lk ld hc (by omega) hg (by omega)).mono ?_
  rintro e w11 ⟨rfl, b11⟩
  have j11 : Below w10.heap.size w10 w11 := by (repeat (first | exact Below.refl _ _ | refine Below.alloc ?_ (by first | omega | (simp; done) | (simp; omega)) _ | refine Below.drew ?_ | refine Below.setCell ?_ (by first | omega | (simp; done) | (simp; omega)) _ | refine Below.trans ?_ (Below.mono (by assumption) (by first | omega | (simp; done) | (simp; omega)))))
  have t11 : Below w.heap.size w w11 := t10.trans (j11.mono t10.size)
  replace hk := hk.below j11
  replace hd := hd.below j11
  replace hc := hc.below j11
  replace hg := hg.below j11
  replace q0 := below_cell j11 q0
  replace q1 := below_cell j11 q1
  replace q2 := below_cell j11 q2
  replace q3 := below_cell j11 q3
  replace lB := Nat.lt_of_lt_of_le lB j11.size
  replace iL := iL.below j11
  go_wp2_with fail
  go_at_call 17
  refine (awake_any _).mono ?_
  rintro e w12 ⟨rfl, b12⟩
  have j12 : Below w11.heap.size w11 w12 := by (repeat (first | exact Below.refl _ _ | refine Below.alloc ?_ (by first | omega | (simp; done) | (simp; omega)) _ | refine Below.drew ?_ | refine Below.setCell ?_ (by first | omega | (simp; done) | (simp; omega)) _ | refine Below.trans ?_ (Below.mono (by assumption) (by first | omega | (simp; done) | (simp; omega)))))
  have t12 : Below w.heap.size w w12 := t11.trans (j12.mono t11.size)
  replace hk := hk.below j12
  replace hd := hd.below j12
  replace hc := hc.below j12
  replace hg := hg.below j12
  replace q0 := below_cell j12 q0
  replace q1 := below_cell j12 q1
  replace q2 := below_cell j12 q2
  replace q3 := below_cell j12 q3
  replace lB := Nat.lt_of_lt_of_le lB j12.size
  replace iL := iL.below j12
  go_wp2_with fail
  go_ret
  exact ⟨rfl, t12⟩

set_option maxRecDepth 100000 in
set_option maxHeartbeats 8000000 in
theorem fits_iz (s wo : Int) (ak : Option Addr) (ks : List (Int × Int × Int)) (ck : Nat) (ad : Option Addr) (ds : List Int) (cd : Nat) (ac : Option Addr) (codes : List Int) (cc : Nat) (ag : Option Addr) (gs : List (Int × Int)) (cg : Nat) (x : Int) (w : World) (hk : Recs3At w ak ks) (hd : IntsAt w ad ds) (nd : ad = none → cd = 0) (hc : IntsAt w ac codes) (nc : ac = none → cc = 0) (hg : Recs2At w ag gs) (hT : (decide (ks.length ≤ 8) && decide (ds.length ≤ 11)) = true) (h13 : (codes.length : Int) ≤ 13) (h9 : (gs.length : Int) ≤ 9) (hF : bookErr s wo ks ds = 0) (h23 : s ≤ 23) (HA : Hid (askErr s wo ks ds codes gs = 0)) (hco : codes.all (plainOk s) = true) (hgo : gs.all (guessOk s codes.length) = true) (N : Int) (hN : (N == 0) = true) (HN : Hid (fitsN s wo ks ds codes gs = N)) (HE : Hid (fitsErr s wo ks ds codes gs = 11)) (L : List Int) (lL : L.length ≤ 1000) (HL : Hid (possL s wo ks ds codes gs x = L)) (HPE : Hid (possErr s wo ks ds codes gs x = 11)) (HN2 : Hid (((refKeys s codes gs).length : Int) = N)) (y : Nat) (hxy : x = y) (hy : y < codes.length) (HL2 : Hid (possK s (codes.getD y 0) y (refKeys s codes gs) 41 = L)) :
    Calls Try.prog 12 #[.agg #[.int .i64 s, .int .i64 wo, .slice ak ks.length ck, .slice ad ds.length cd], .slice ac codes.length cc, .slice ag gs.length cg, .int .i64 x] w fun e w' => e = .returned (.bool true) ∧ Below w.heap.size w w' := by

  have lk : ks.length ≤ 1000 := by simp at hT; omega
  have ld : ds.length ≤ 1000 := by simp at hT; omega
  have HT := Lib.hid hT
  clear hT
  have d13 : decide (13 < (codes.length : Int)) = false := by simp; omega
  have d9 : decide (9 < (gs.length : Int)) = false := by simp; omega
  have HF := Lib.hid hF
  have Hco := Lib.hid hco
  have Hgo := Lib.hid hgo
  clear hF hco hgo
  have d23 : decide (23 < s) = false := by simp; omega
  subst hxy
  have HX : Hid ((decide ((0 : Int) ≤ (y : Int)) && decide ((y : Int) ≤ (codes.length : Int) - 1)) = true) := Lib.hid (by simp; omega)
  go_enter Try.func12, Try.ntmps12
  go_wp2_with fail
  go_at_call 16
  refine (thin_eq s wo ak ks.length ck ad ds.length cd true HT _).mono ?_
  rintro e w1 ⟨rfl, b1⟩
  have t1 : Below w.heap.size w w1 := by (repeat (first | exact Below.refl _ _ | refine Below.alloc ?_ (by first | omega | (simp; done) | (simp; omega)) _ | refine Below.drew ?_ | refine Below.setCell ?_ (by first | omega | (simp; done) | (simp; omega)) _ | refine Below.trans ?_ (Below.mono (by assumption) (by first | omega | (simp; done) | (simp; omega)))))
  replace hk := hk.below t1
  replace hd := hd.below t1
  replace hc := hc.below t1
  replace hg := hg.below t1
  obtain ⟨q0, q1, q2, q3⟩ := BookAt.of (b1.mono (by simp))
  have lB := cell_lt q0
  simp only at lB
  go_wp2_with fail
  go_at_call 22
  refine (fault_eq s wo ak ks ck ad ds cd 0 HF _ hk hd lk ld).mono ?_
  rintro e w2 ⟨rfl, b2⟩
  have j2 : Below w1.heap.size w1 w2 := by (repeat (first | exact Below.refl _ _ | refine Below.alloc ?_ (by first | omega | (simp; done) | (simp; omega)) _ | refine Below.drew ?_ | refine Below.setCell ?_ (by first | omega | (simp; done) | (simp; omega)) _ | refine Below.trans ?_ (Below.mono (by assumption) (by first | omega | (simp; done) | (simp; omega)))))
  have t2 : Below w.heap.size w w2 := t1.trans (j2.mono t1.size)
  replace hk := hk.below j2
  replace hd := hd.below j2
  replace hc := hc.below j2
  replace hg := hg.below j2
  replace q0 := below_cell j2 q0
  replace q1 := below_cell j2 q1
  replace q2 := below_cell j2 q2
  replace q3 := below_cell j2 q3
  replace lB := Nat.lt_of_lt_of_le lB j2.size
  go_wp2_with fail
  go_at_call 19
  refine (bookConv_at s wo ak ks ck ad ds cd _ hk hd lk ld nd).mono ?_
  rintro e w3 ⟨⟨akA, ckA, adA, cdA, rfl, kA, dA⟩, b3⟩
  have j3 : Below w2.heap.size w2 w3 := by (repeat (first | exact Below.refl _ _ | refine Below.alloc ?_ (by first | omega | (simp; done) | (simp; omega)) _ | refine Below.drew ?_ | refine Below.setCell ?_ (by first | omega | (simp; done) | (simp; omega)) _ | refine Below.trans ?_ (Below.mono (by assumption) (by first | omega | (simp; done) | (simp; omega)))))
  have t3 : Below w.heap.size w w3 := t2.trans (j3.mono t2.size)
  replace hk := hk.below j3
  replace hd := hd.below j3
  replace hc := hc.below j3
  replace hg := hg.below j3
  replace q0 := below_cell j3 q0
  replace q1 := below_cell j3 q1
  replace q2 := below_cell j3 q2
  replace q3 := below_cell j3 q3
  replace lB := Nat.lt_of_lt_of_le lB j3.size
  go_wp2_with fail
  go_at_call 21
  refine (list_at ac codes cc _ hc (by omega) nc).mono ?_
  rintro e w4 ⟨⟨aC, cC, rfl, iC, _⟩, b4⟩
  have j4 : Below w3.heap.size w3 w4 := by (repeat (first | exact Below.refl _ _ | refine Below.alloc ?_ (by first | omega | (simp; done) | (simp; omega)) _ | refine Below.drew ?_ | refine Below.setCell ?_ (by first | omega | (simp; done) | (simp; omega)) _ | refine Below.trans ?_ (Below.mono (by assumption) (by first | omega | (simp; done) | (simp; omega)))))
  have t4 : Below w.heap.size w w4 := t3.trans (j4.mono t3.size)
  replace hk := hk.below j4
  replace hd := hd.below j4
  replace hc := hc.below j4
  replace hg := hg.below j4
  replace q0 := below_cell j4 q0
  replace q1 := below_cell j4 q1
  replace q2 := below_cell j4 q2
  replace q3 := below_cell j4 q3
  replace lB := Nat.lt_of_lt_of_le lB j4.size
  replace kA := kA.below j4
  replace dA := dA.below j4
  go_wp2_with fail
  go_at_call 41
  refine (guessesConv_at ag gs cg _ hg (by omega)).mono ?_
  rintro e w5 ⟨⟨aG, cG, rfl, iG, _⟩, b5⟩
  have j5 : Below w4.heap.size w4 w5 := by (repeat (first | exact Below.refl _ _ | refine Below.alloc ?_ (by first | omega | (simp; done) | (simp; omega)) _ | refine Below.drew ?_ | refine Below.setCell ?_ (by first | omega | (simp; done) | (simp; omega)) _ | refine Below.trans ?_ (Below.mono (by assumption) (by first | omega | (simp; done) | (simp; omega)))))
  have t5 : Below w.heap.size w w5 := t4.trans (j5.mono t4.size)
  replace hk := hk.below j5
  replace hd := hd.below j5
  replace hc := hc.below j5
  replace hg := hg.below j5
  replace q0 := below_cell j5 q0
  replace q1 := below_cell j5 q1
  replace q2 := below_cell j5 q2
  replace q3 := below_cell j5 q3
  replace lB := Nat.lt_of_lt_of_le lB j5.size
  replace kA := kA.below j5
  replace dA := dA.below j5
  replace iC := iC.below j5
  go_wp2_with fail
  go_at_call 40
  refine (fits_eq s wo akA ks ckA adA ds cdA aC codes cC aG gs cG N 11 HN HE _ kA dA lk ld iC (by omega) iG (by omega)).mono ?_
  rintro e w6 ⟨rfl, b6⟩
  have j6 : Below w5.heap.size w5 w6 := by (repeat (first | exact Below.refl _ _ | refine Below.alloc ?_ (by first | omega | (simp; done) | (simp; omega)) _ | refine Below.drew ?_ | refine Below.setCell ?_ (by first | omega | (simp; done) | (simp; omega)) _ | refine Below.trans ?_ (Below.mono (by assumption) (by first | omega | (simp; done) | (simp; omega)))))
  have t6 : Below w.heap.size w w6 := t5.trans (j6.mono t5.size)
  replace hk := hk.below j6
  replace hd := hd.below j6
  replace hc := hc.below j6
  replace hg := hg.below j6
  replace q0 := below_cell j6 q0
  replace q1 := below_cell j6 q1
  replace q2 := below_cell j6 q2
  replace q3 := below_cell j6 q3
  replace lB := Nat.lt_of_lt_of_le lB j6.size
  replace kA := kA.below j6
  replace dA := dA.below j6
  replace iC := iC.below j6
  replace iG := iG.below j6
  clear kA dA iC iG
  go_wp2_with fail
  go_at_call 19
  refine (bookConv_at s wo ak ks ck ad ds cd _ hk hd lk ld nd).mono ?_
  rintro e w7 ⟨⟨akA, ckA, adA, cdA, rfl, kA, dA⟩, b7⟩
  have j7 : Below w6.heap.size w6 w7 := by (repeat (first | exact Below.refl _ _ | refine Below.alloc ?_ (by first | omega | (simp; done) | (simp; omega)) _ | refine Below.drew ?_ | refine Below.setCell ?_ (by first | omega | (simp; done) | (simp; omega)) _ | refine Below.trans ?_ (Below.mono (by assumption) (by first | omega | (simp; done) | (simp; omega)))))
  have t7 : Below w.heap.size w w7 := t6.trans (j7.mono t6.size)
  replace hk := hk.below j7
  replace hd := hd.below j7
  replace hc := hc.below j7
  replace hg := hg.below j7
  replace q0 := below_cell j7 q0
  replace q1 := below_cell j7 q1
  replace q2 := below_cell j7 q2
  replace q3 := below_cell j7 q3
  replace lB := Nat.lt_of_lt_of_le lB j7.size
  go_wp2_with fail
  go_at_call 21
  refine (list_at ac codes cc _ hc (by omega) nc).mono ?_
  rintro e w8 ⟨⟨aC, cC, rfl, iC, _⟩, b8⟩
  have j8 : Below w7.heap.size w7 w8 := by (repeat (first | exact Below.refl _ _ | refine Below.alloc ?_ (by first | omega | (simp; done) | (simp; omega)) _ | refine Below.drew ?_ | refine Below.setCell ?_ (by first | omega | (simp; done) | (simp; omega)) _ | refine Below.trans ?_ (Below.mono (by assumption) (by first | omega | (simp; done) | (simp; omega)))))
  have t8 : Below w.heap.size w w8 := t7.trans (j8.mono t7.size)
  replace hk := hk.below j8
  replace hd := hd.below j8
  replace hc := hc.below j8
  replace hg := hg.below j8
  replace q0 := below_cell j8 q0
  replace q1 := below_cell j8 q1
  replace q2 := below_cell j8 q2
  replace q3 := below_cell j8 q3
  replace lB := Nat.lt_of_lt_of_le lB j8.size
  replace kA := kA.below j8
  replace dA := dA.below j8
  go_wp2_with fail
  go_at_call 41
  refine (guessesConv_at ag gs cg _ hg (by omega)).mono ?_
  rintro e w9 ⟨⟨aG, cG, rfl, iG, _⟩, b9⟩
  have j9 : Below w8.heap.size w8 w9 := by (repeat (first | exact Below.refl _ _ | refine Below.alloc ?_ (by first | omega | (simp; done) | (simp; omega)) _ | refine Below.drew ?_ | refine Below.setCell ?_ (by first | omega | (simp; done) | (simp; omega)) _ | refine Below.trans ?_ (Below.mono (by assumption) (by first | omega | (simp; done) | (simp; omega)))))
  have t9 : Below w.heap.size w w9 := t8.trans (j9.mono t8.size)
  replace hk := hk.below j9
  replace hd := hd.below j9
  replace hc := hc.below j9
  replace hg := hg.below j9
  replace q0 := below_cell j9 q0
  replace q1 := below_cell j9 q1
  replace q2 := below_cell j9 q2
  replace q3 := below_cell j9 q3
  replace lB := Nat.lt_of_lt_of_le lB j9.size
  replace kA := kA.below j9
  replace dA := dA.below j9
  replace iC := iC.below j9
  go_wp2_with fail
  go_at_call 42
  refine (poss_at s wo akA ks ckA adA ds cdA aC codes cC aG gs cG y L 11 HL HPE _ kA dA lk ld iC (by omega) iG (by omega)).mono ?_
  rintro e w10 ⟨⟨aL, cL, rfl, iL⟩, b10⟩
  have j10 : Below w9.heap.size w9 w10 := by (repeat (first | exact Below.refl _ _ | refine Below.alloc ?_ (by first | omega | (simp; done) | (simp; omega)) _ | refine Below.drew ?_ | refine Below.setCell ?_ (by first | omega | (simp; done) | (simp; omega)) _ | refine Below.trans ?_ (Below.mono (by assumption) (by first | omega | (simp; done) | (simp; omega)))))
  have t10 : Below w.heap.size w w10 := t9.trans (j10.mono t9.size)
  replace hk := hk.below j10
  replace hd := hd.below j10
  replace hc := hc.below j10
  replace hg := hg.below j10
  replace q0 := below_cell j10 q0
  replace q1 := below_cell j10 q1
  replace q2 := below_cell j10 q2
  replace q3 := below_cell j10 q3
  replace lB := Nat.lt_of_lt_of_le lB j10.size
  replace kA := kA.below j10
  replace dA := dA.below j10
  replace iC := iC.below j10
  replace iG := iG.below j10
  clear kA dA iC iG
  go_wp2_with fail
  go_at_call 43
  refine (askedLaw_any s wo ak ks ck ad ds cd ac codes cc ag gs cg 0 HA _ hk hd lk ld hc (by omega) hg (by omega)).mono ?_
  rintro e w11 ⟨rfl, b11⟩
  have j11 : Below w10.heap.size w10 w11 := by (repeat (first | exact Below.refl _ _ | refine Below.alloc ?_ (by first | omega | (simp; done) | (simp; omega)) _ | refine Below.drew ?_ | refine Below.setCell ?_ (by first | omega | (simp; done) | (simp; omega)) _ | refine Below.trans ?_ (Below.mono (by assumption) (by first | omega | (simp; done) | (simp; omega)))))
  have t11 : Below w.heap.size w w11 := t10.trans (j11.mono t10.size)
  replace hk := hk.below j11
  replace hd := hd.below j11
  replace hc := hc.below j11
  replace hg := hg.below j11
  replace q0 := below_cell j11 q0
  replace q1 := below_cell j11 q1
  replace q2 := below_cell j11 q2
  replace q3 := below_cell j11 q3
  replace lB := Nat.lt_of_lt_of_le lB j11.size
  replace iL := iL.below j11
  go_wp2_with fail
  go_at_call 44
  refine (refFits_in s wo ak ks ck ad ds cd ac codes cc ag gs cg y _ hk hd lk ld hc (by omega) hg (by omega) HF.out Hco.out Hgo.out hy N HN2 L HL2).mono ?_
  rintro e w12 ⟨⟨aD, cD, rfl, iD⟩, b12⟩
  have j12 : Below w11.heap.size w11 w12 := by (repeat (first | exact Below.refl _ _ | refine Below.alloc ?_ (by first | omega | (simp; done) | (simp; omega)) _ | refine Below.drew ?_ | refine Below.setCell ?_ (by first | omega | (simp; done) | (simp; omega)) _ | refine Below.trans ?_ (Below.mono (by assumption) (by first | omega | (simp; done) | (simp; omega)))))
  have t12 : Below w.heap.size w w12 := t11.trans (j12.mono t11.size)
  replace hk := hk.below j12
  replace hd := hd.below j12
  replace hc := hc.below j12
  replace hg := hg.below j12
  replace q0 := below_cell j12 q0
  replace q1 := below_cell j12 q1
  replace q2 := below_cell j12 q2
  replace q3 := below_cell j12 q3
  replace lB := Nat.lt_of_lt_of_le lB j12.size
  replace iL := iL.below j12
  go_wp2_with fail
  go_at_call 23
  refine (in_eq y 0 ((codes.length : Int) - 1) true HX _).mono ?_
  rintro e _ ⟨rfl, rfl⟩
  go_wp2_with fail
  go_at_call 25
  refine (same_eq aL L cL aD cD _ iL iD (by omega)).mono ?_
  rintro e w13 ⟨rfl, b13⟩
  have j13 : Below w12.heap.size w12 w13 := by (repeat (first | exact Below.refl _ _ | refine Below.alloc ?_ (by first | omega | (simp; done) | (simp; omega)) _ | refine Below.drew ?_ | refine Below.setCell ?_ (by first | omega | (simp; done) | (simp; omega)) _ | refine Below.trans ?_ (Below.mono (by assumption) (by first | omega | (simp; done) | (simp; omega)))))
  have t13 : Below w.heap.size w w13 := t12.trans (j13.mono t12.size)
  replace hk := hk.below j13
  replace hd := hd.below j13
  replace hc := hc.below j13
  replace hg := hg.below j13
  replace q0 := below_cell j13 q0
  replace q1 := below_cell j13 q1
  replace q2 := below_cell j13 q2
  replace q3 := below_cell j13 q3
  replace lB := Nat.lt_of_lt_of_le lB j13.size
  replace iL := iL.below j13
  replace iD := iD.below j13
  go_wp2_with fail
  go_at_call 17
  refine (awake_any _).mono ?_
  rintro e w14 ⟨rfl, b14⟩
  have j14 : Below w13.heap.size w13 w14 := by (repeat (first | exact Below.refl _ _ | refine Below.alloc ?_ (by first | omega | (simp; done) | (simp; omega)) _ | refine Below.drew ?_ | refine Below.setCell ?_ (by first | omega | (simp; done) | (simp; omega)) _ | refine Below.trans ?_ (Below.mono (by assumption) (by first | omega | (simp; done) | (simp; omega)))))
  have t14 : Below w.heap.size w w14 := t13.trans (j14.mono t13.size)
  replace hk := hk.below j14
  replace hd := hd.below j14
  replace hc := hc.below j14
  replace hg := hg.below j14
  replace q0 := below_cell j14 q0
  replace q1 := below_cell j14 q1
  replace q2 := below_cell j14 q2
  replace q3 := below_cell j14 q3
  replace lB := Nat.lt_of_lt_of_le lB j14.size
  replace iL := iL.below j14
  replace iD := iD.below j14
  go_wp2_with fail
  go_ret
  exact ⟨rfl, t14⟩

set_option maxRecDepth 100000 in
set_option maxHeartbeats 8000000 in
theorem fits_in (s wo : Int) (ak : Option Addr) (ks : List (Int × Int × Int)) (ck : Nat) (ad : Option Addr) (ds : List Int) (cd : Nat) (ac : Option Addr) (codes : List Int) (cc : Nat) (ag : Option Addr) (gs : List (Int × Int)) (cg : Nat) (x : Int) (w : World) (hk : Recs3At w ak ks) (hd : IntsAt w ad ds) (nd : ad = none → cd = 0) (hc : IntsAt w ac codes) (nc : ac = none → cc = 0) (hg : Recs2At w ag gs) (hT : (decide (ks.length ≤ 8) && decide (ds.length ≤ 11)) = true) (h13 : (codes.length : Int) ≤ 13) (h9 : (gs.length : Int) ≤ 9) (hF : bookErr s wo ks ds = 0) (h23 : s ≤ 23) (HA : Hid (askErr s wo ks ds codes gs = 0)) (hco : codes.all (plainOk s) = true) (hgo : gs.all (guessOk s codes.length) = true) (N : Int) (hN : (N == 0) = false) (HN : Hid (fitsN s wo ks ds codes gs = N)) (HE : Hid (fitsErr s wo ks ds codes gs = 0)) (L : List Int) (lL : L.length ≤ 1000) (HL : Hid (possL s wo ks ds codes gs x = L)) (HPE : Hid (possErr s wo ks ds codes gs x = 0)) (HN2 : Hid (((refKeys s codes gs).length : Int) = N)) (y : Nat) (hxy : x = y) (hy : y < codes.length) (HL2 : Hid (possK s (codes.getD y 0) y (refKeys s codes gs) 41 = L)) :
    Calls Try.prog 12 #[.agg #[.int .i64 s, .int .i64 wo, .slice ak ks.length ck, .slice ad ds.length cd], .slice ac codes.length cc, .slice ag gs.length cg, .int .i64 x] w fun e w' => e = .returned (.bool true) ∧ Below w.heap.size w w' := by

  have lk : ks.length ≤ 1000 := by simp at hT; omega
  have ld : ds.length ≤ 1000 := by simp at hT; omega
  have HT := Lib.hid hT
  clear hT
  have d13 : decide (13 < (codes.length : Int)) = false := by simp; omega
  have d9 : decide (9 < (gs.length : Int)) = false := by simp; omega
  have HF := Lib.hid hF
  have Hco := Lib.hid hco
  have Hgo := Lib.hid hgo
  clear hF hco hgo
  have d23 : decide (23 < s) = false := by simp; omega
  subst hxy
  have HX : Hid ((decide ((0 : Int) ≤ (y : Int)) && decide ((y : Int) ≤ (codes.length : Int) - 1)) = true) := Lib.hid (by simp; omega)
  go_enter Try.func12, Try.ntmps12
  go_wp2_with fail
  go_at_call 16
  refine (thin_eq s wo ak ks.length ck ad ds.length cd true HT _).mono ?_
  rintro e w1 ⟨rfl, b1⟩
  have t1 : Below w.heap.size w w1 := by (repeat (first | exact Below.refl _ _ | refine Below.alloc ?_ (by first | omega | (simp; done) | (simp; omega)) _ | refine Below.drew ?_ | refine Below.setCell ?_ (by first | omega | (simp; done) | (simp; omega)) _ | refine Below.trans ?_ (Below.mono (by assumption) (by first | omega | (simp; done) | (simp; omega)))))
  replace hk := hk.below t1
  replace hd := hd.below t1
  replace hc := hc.below t1
  replace hg := hg.below t1
  obtain ⟨q0, q1, q2, q3⟩ := BookAt.of (b1.mono (by simp))
  have lB := cell_lt q0
  simp only at lB
  go_wp2_with fail
  go_at_call 22
  refine (fault_eq s wo ak ks ck ad ds cd 0 HF _ hk hd lk ld).mono ?_
  rintro e w2 ⟨rfl, b2⟩
  have j2 : Below w1.heap.size w1 w2 := by (repeat (first | exact Below.refl _ _ | refine Below.alloc ?_ (by first | omega | (simp; done) | (simp; omega)) _ | refine Below.drew ?_ | refine Below.setCell ?_ (by first | omega | (simp; done) | (simp; omega)) _ | refine Below.trans ?_ (Below.mono (by assumption) (by first | omega | (simp; done) | (simp; omega)))))
  have t2 : Below w.heap.size w w2 := t1.trans (j2.mono t1.size)
  replace hk := hk.below j2
  replace hd := hd.below j2
  replace hc := hc.below j2
  replace hg := hg.below j2
  replace q0 := below_cell j2 q0
  replace q1 := below_cell j2 q1
  replace q2 := below_cell j2 q2
  replace q3 := below_cell j2 q3
  replace lB := Nat.lt_of_lt_of_le lB j2.size
  go_wp2_with fail
  go_at_call 19
  refine (bookConv_at s wo ak ks ck ad ds cd _ hk hd lk ld nd).mono ?_
  rintro e w3 ⟨⟨akA, ckA, adA, cdA, rfl, kA, dA⟩, b3⟩
  have j3 : Below w2.heap.size w2 w3 := by (repeat (first | exact Below.refl _ _ | refine Below.alloc ?_ (by first | omega | (simp; done) | (simp; omega)) _ | refine Below.drew ?_ | refine Below.setCell ?_ (by first | omega | (simp; done) | (simp; omega)) _ | refine Below.trans ?_ (Below.mono (by assumption) (by first | omega | (simp; done) | (simp; omega)))))
  have t3 : Below w.heap.size w w3 := t2.trans (j3.mono t2.size)
  replace hk := hk.below j3
  replace hd := hd.below j3
  replace hc := hc.below j3
  replace hg := hg.below j3
  replace q0 := below_cell j3 q0
  replace q1 := below_cell j3 q1
  replace q2 := below_cell j3 q2
  replace q3 := below_cell j3 q3
  replace lB := Nat.lt_of_lt_of_le lB j3.size
  go_wp2_with fail
  go_at_call 21
  refine (list_at ac codes cc _ hc (by omega) nc).mono ?_
  rintro e w4 ⟨⟨aC, cC, rfl, iC, _⟩, b4⟩
  have j4 : Below w3.heap.size w3 w4 := by (repeat (first | exact Below.refl _ _ | refine Below.alloc ?_ (by first | omega | (simp; done) | (simp; omega)) _ | refine Below.drew ?_ | refine Below.setCell ?_ (by first | omega | (simp; done) | (simp; omega)) _ | refine Below.trans ?_ (Below.mono (by assumption) (by first | omega | (simp; done) | (simp; omega)))))
  have t4 : Below w.heap.size w w4 := t3.trans (j4.mono t3.size)
  replace hk := hk.below j4
  replace hd := hd.below j4
  replace hc := hc.below j4
  replace hg := hg.below j4
  replace q0 := below_cell j4 q0
  replace q1 := below_cell j4 q1
  replace q2 := below_cell j4 q2
  replace q3 := below_cell j4 q3
  replace lB := Nat.lt_of_lt_of_le lB j4.size
  replace kA := kA.below j4
  replace dA := dA.below j4
  go_wp2_with fail
  go_at_call 41
  refine (guessesConv_at ag gs cg _ hg (by omega)).mono ?_
  rintro e w5 ⟨⟨aG, cG, rfl, iG, _⟩, b5⟩
  have j5 : Below w4.heap.size w4 w5 := by (repeat (first | exact Below.refl _ _ | refine Below.alloc ?_ (by first | omega | (simp; done) | (simp; omega)) _ | refine Below.drew ?_ | refine Below.setCell ?_ (by first | omega | (simp; done) | (simp; omega)) _ | refine Below.trans ?_ (Below.mono (by assumption) (by first | omega | (simp; done) | (simp; omega)))))
  have t5 : Below w.heap.size w w5 := t4.trans (j5.mono t4.size)
  replace hk := hk.below j5
  replace hd := hd.below j5
  replace hc := hc.below j5
  replace hg := hg.below j5
  replace q0 := below_cell j5 q0
  replace q1 := below_cell j5 q1
  replace q2 := below_cell j5 q2
  replace q3 := below_cell j5 q3
  replace lB := Nat.lt_of_lt_of_le lB j5.size
  replace kA := kA.below j5
  replace dA := dA.below j5
  replace iC := iC.below j5
  go_wp2_with fail
  go_at_call 40
  refine (fits_eq s wo akA ks ckA adA ds cdA aC codes cC aG gs cG N 0 HN HE _ kA dA lk ld iC (by omega) iG (by omega)).mono ?_
  rintro e w6 ⟨rfl, b6⟩
  have j6 : Below w5.heap.size w5 w6 := by (repeat (first | exact Below.refl _ _ | refine Below.alloc ?_ (by first | omega | (simp; done) | (simp; omega)) _ | refine Below.drew ?_ | refine Below.setCell ?_ (by first | omega | (simp; done) | (simp; omega)) _ | refine Below.trans ?_ (Below.mono (by assumption) (by first | omega | (simp; done) | (simp; omega)))))
  have t6 : Below w.heap.size w w6 := t5.trans (j6.mono t5.size)
  replace hk := hk.below j6
  replace hd := hd.below j6
  replace hc := hc.below j6
  replace hg := hg.below j6
  replace q0 := below_cell j6 q0
  replace q1 := below_cell j6 q1
  replace q2 := below_cell j6 q2
  replace q3 := below_cell j6 q3
  replace lB := Nat.lt_of_lt_of_le lB j6.size
  replace kA := kA.below j6
  replace dA := dA.below j6
  replace iC := iC.below j6
  replace iG := iG.below j6
  clear kA dA iC iG
  go_wp2_with fail
  go_at_call 19
  refine (bookConv_at s wo ak ks ck ad ds cd _ hk hd lk ld nd).mono ?_
  rintro e w7 ⟨⟨akA, ckA, adA, cdA, rfl, kA, dA⟩, b7⟩
  have j7 : Below w6.heap.size w6 w7 := by (repeat (first | exact Below.refl _ _ | refine Below.alloc ?_ (by first | omega | (simp; done) | (simp; omega)) _ | refine Below.drew ?_ | refine Below.setCell ?_ (by first | omega | (simp; done) | (simp; omega)) _ | refine Below.trans ?_ (Below.mono (by assumption) (by first | omega | (simp; done) | (simp; omega)))))
  have t7 : Below w.heap.size w w7 := t6.trans (j7.mono t6.size)
  replace hk := hk.below j7
  replace hd := hd.below j7
  replace hc := hc.below j7
  replace hg := hg.below j7
  replace q0 := below_cell j7 q0
  replace q1 := below_cell j7 q1
  replace q2 := below_cell j7 q2
  replace q3 := below_cell j7 q3
  replace lB := Nat.lt_of_lt_of_le lB j7.size
  go_wp2_with fail
  go_at_call 21
  refine (list_at ac codes cc _ hc (by omega) nc).mono ?_
  rintro e w8 ⟨⟨aC, cC, rfl, iC, _⟩, b8⟩
  have j8 : Below w7.heap.size w7 w8 := by (repeat (first | exact Below.refl _ _ | refine Below.alloc ?_ (by first | omega | (simp; done) | (simp; omega)) _ | refine Below.drew ?_ | refine Below.setCell ?_ (by first | omega | (simp; done) | (simp; omega)) _ | refine Below.trans ?_ (Below.mono (by assumption) (by first | omega | (simp; done) | (simp; omega)))))
  have t8 : Below w.heap.size w w8 := t7.trans (j8.mono t7.size)
  replace hk := hk.below j8
  replace hd := hd.below j8
  replace hc := hc.below j8
  replace hg := hg.below j8
  replace q0 := below_cell j8 q0
  replace q1 := below_cell j8 q1
  replace q2 := below_cell j8 q2
  replace q3 := below_cell j8 q3
  replace lB := Nat.lt_of_lt_of_le lB j8.size
  replace kA := kA.below j8
  replace dA := dA.below j8
  go_wp2_with fail
  go_at_call 41
  refine (guessesConv_at ag gs cg _ hg (by omega)).mono ?_
  rintro e w9 ⟨⟨aG, cG, rfl, iG, _⟩, b9⟩
  have j9 : Below w8.heap.size w8 w9 := by (repeat (first | exact Below.refl _ _ | refine Below.alloc ?_ (by first | omega | (simp; done) | (simp; omega)) _ | refine Below.drew ?_ | refine Below.setCell ?_ (by first | omega | (simp; done) | (simp; omega)) _ | refine Below.trans ?_ (Below.mono (by assumption) (by first | omega | (simp; done) | (simp; omega)))))
  have t9 : Below w.heap.size w w9 := t8.trans (j9.mono t8.size)
  replace hk := hk.below j9
  replace hd := hd.below j9
  replace hc := hc.below j9
  replace hg := hg.below j9
  replace q0 := below_cell j9 q0
  replace q1 := below_cell j9 q1
  replace q2 := below_cell j9 q2
  replace q3 := below_cell j9 q3
  replace lB := Nat.lt_of_lt_of_le lB j9.size
  replace kA := kA.below j9
  replace dA := dA.below j9
  replace iC := iC.below j9
  go_wp2_with fail
  go_at_call 42
  refine (poss_at s wo akA ks ckA adA ds cdA aC codes cC aG gs cG y L 0 HL HPE _ kA dA lk ld iC (by omega) iG (by omega)).mono ?_
  rintro e w10 ⟨⟨aL, cL, rfl, iL⟩, b10⟩
  have j10 : Below w9.heap.size w9 w10 := by (repeat (first | exact Below.refl _ _ | refine Below.alloc ?_ (by first | omega | (simp; done) | (simp; omega)) _ | refine Below.drew ?_ | refine Below.setCell ?_ (by first | omega | (simp; done) | (simp; omega)) _ | refine Below.trans ?_ (Below.mono (by assumption) (by first | omega | (simp; done) | (simp; omega)))))
  have t10 : Below w.heap.size w w10 := t9.trans (j10.mono t9.size)
  replace hk := hk.below j10
  replace hd := hd.below j10
  replace hc := hc.below j10
  replace hg := hg.below j10
  replace q0 := below_cell j10 q0
  replace q1 := below_cell j10 q1
  replace q2 := below_cell j10 q2
  replace q3 := below_cell j10 q3
  replace lB := Nat.lt_of_lt_of_le lB j10.size
  replace kA := kA.below j10
  replace dA := dA.below j10
  replace iC := iC.below j10
  replace iG := iG.below j10
  clear kA dA iC iG
  go_wp2_with fail
  go_at_call 43
  refine (askedLaw_any s wo ak ks ck ad ds cd ac codes cc ag gs cg 0 HA _ hk hd lk ld hc (by omega) hg (by omega)).mono ?_
  rintro e w11 ⟨rfl, b11⟩
  have j11 : Below w10.heap.size w10 w11 := by (repeat (first | exact Below.refl _ _ | refine Below.alloc ?_ (by first | omega | (simp; done) | (simp; omega)) _ | refine Below.drew ?_ | refine Below.setCell ?_ (by first | omega | (simp; done) | (simp; omega)) _ | refine Below.trans ?_ (Below.mono (by assumption) (by first | omega | (simp; done) | (simp; omega)))))
  have t11 : Below w.heap.size w w11 := t10.trans (j11.mono t10.size)
  replace hk := hk.below j11
  replace hd := hd.below j11
  replace hc := hc.below j11
  replace hg := hg.below j11
  replace q0 := below_cell j11 q0
  replace q1 := below_cell j11 q1
  replace q2 := below_cell j11 q2
  replace q3 := below_cell j11 q3
  replace lB := Nat.lt_of_lt_of_le lB j11.size
  replace iL := iL.below j11
  go_wp2_with fail
  go_at_call 44
  refine (refFits_in s wo ak ks ck ad ds cd ac codes cc ag gs cg y _ hk hd lk ld hc (by omega) hg (by omega) HF.out Hco.out Hgo.out hy N HN2 L HL2).mono ?_
  rintro e w12 ⟨⟨aD, cD, rfl, iD⟩, b12⟩
  have j12 : Below w11.heap.size w11 w12 := by (repeat (first | exact Below.refl _ _ | refine Below.alloc ?_ (by first | omega | (simp; done) | (simp; omega)) _ | refine Below.drew ?_ | refine Below.setCell ?_ (by first | omega | (simp; done) | (simp; omega)) _ | refine Below.trans ?_ (Below.mono (by assumption) (by first | omega | (simp; done) | (simp; omega)))))
  have t12 : Below w.heap.size w w12 := t11.trans (j12.mono t11.size)
  replace hk := hk.below j12
  replace hd := hd.below j12
  replace hc := hc.below j12
  replace hg := hg.below j12
  replace q0 := below_cell j12 q0
  replace q1 := below_cell j12 q1
  replace q2 := below_cell j12 q2
  replace q3 := below_cell j12 q3
  replace lB := Nat.lt_of_lt_of_le lB j12.size
  replace iL := iL.below j12
  go_wp2_with fail
  go_at_call 23
  refine (in_eq y 0 ((codes.length : Int) - 1) true HX _).mono ?_
  rintro e _ ⟨rfl, rfl⟩
  go_wp2_with fail
  go_at_call 25
  refine (same_eq aL L cL aD cD _ iL iD (by omega)).mono ?_
  rintro e w13 ⟨rfl, b13⟩
  have j13 : Below w12.heap.size w12 w13 := by (repeat (first | exact Below.refl _ _ | refine Below.alloc ?_ (by first | omega | (simp; done) | (simp; omega)) _ | refine Below.drew ?_ | refine Below.setCell ?_ (by first | omega | (simp; done) | (simp; omega)) _ | refine Below.trans ?_ (Below.mono (by assumption) (by first | omega | (simp; done) | (simp; omega)))))
  have t13 : Below w.heap.size w w13 := t12.trans (j13.mono t12.size)
  replace hk := hk.below j13
  replace hd := hd.below j13
  replace hc := hc.below j13
  replace hg := hg.below j13
  replace q0 := below_cell j13 q0
  replace q1 := below_cell j13 q1
  replace q2 := below_cell j13 q2
  replace q3 := below_cell j13 q3
  replace lB := Nat.lt_of_lt_of_le lB j13.size
  replace iL := iL.below j13
  replace iD := iD.below j13
  go_wp2_with fail
  go_at_call 17
  refine (awake_any _).mono ?_
  rintro e w14 ⟨rfl, b14⟩
  have j14 : Below w13.heap.size w13 w14 := by (repeat (first | exact Below.refl _ _ | refine Below.alloc ?_ (by first | omega | (simp; done) | (simp; omega)) _ | refine Below.drew ?_ | refine Below.setCell ?_ (by first | omega | (simp; done) | (simp; omega)) _ | refine Below.trans ?_ (Below.mono (by assumption) (by first | omega | (simp; done) | (simp; omega)))))
  have t14 : Below w.heap.size w w14 := t13.trans (j14.mono t13.size)
  replace hk := hk.below j14
  replace hd := hd.below j14
  replace hc := hc.below j14
  replace hg := hg.below j14
  replace q0 := below_cell j14 q0
  replace q1 := below_cell j14 q1
  replace q2 := below_cell j14 q2
  replace q3 := below_cell j14 q3
  replace lB := Nat.lt_of_lt_of_le lB j14.size
  replace iL := iL.below j14
  replace iD := iD.below j14
  go_wp2_with fail
  go_ret
  exact ⟨rfl, t14⟩

set_option maxRecDepth 100000 in
set_option maxHeartbeats 8000000 in
theorem fits_oz (s wo : Int) (ak : Option Addr) (ks : List (Int × Int × Int)) (ck : Nat) (ad : Option Addr) (ds : List Int) (cd : Nat) (ac : Option Addr) (codes : List Int) (cc : Nat) (ag : Option Addr) (gs : List (Int × Int)) (cg : Nat) (x : Int) (w : World) (hk : Recs3At w ak ks) (hd : IntsAt w ad ds) (nd : ad = none → cd = 0) (hc : IntsAt w ac codes) (nc : ac = none → cc = 0) (hg : Recs2At w ag gs) (hT : (decide (ks.length ≤ 8) && decide (ds.length ≤ 11)) = true) (h13 : (codes.length : Int) ≤ 13) (h9 : (gs.length : Int) ≤ 9) (hF : bookErr s wo ks ds = 0) (h23 : s ≤ 23) (HA : Hid (askErr s wo ks ds codes gs = 0)) (hco : codes.all (plainOk s) = true) (hgo : gs.all (guessOk s codes.length) = true) (N : Int) (hN : (N == 0) = true) (HN : Hid (fitsN s wo ks ds codes gs = N)) (HE : Hid (fitsErr s wo ks ds codes gs = 11)) (L : List Int) (lL : L.length ≤ 1000) (HL : Hid (possL s wo ks ds codes gs x = L)) (HPE : Hid (possErr s wo ks ds codes gs x = 2)) (HN2 : Hid (((refKeys s codes gs).length : Int) = N)) (hx : (decide (0 ≤ x) && decide (x ≤ (codes.length : Int) - 1)) = false) (HL2 : Hid (([] : List Int) = L)) :
    Calls Try.prog 12 #[.agg #[.int .i64 s, .int .i64 wo, .slice ak ks.length ck, .slice ad ds.length cd], .slice ac codes.length cc, .slice ag gs.length cg, .int .i64 x] w fun e w' => e = .returned (.bool true) ∧ Below w.heap.size w w' := by

  have lk : ks.length ≤ 1000 := by simp at hT; omega
  have ld : ds.length ≤ 1000 := by simp at hT; omega
  have HT := Lib.hid hT
  clear hT
  have d13 : decide (13 < (codes.length : Int)) = false := by simp; omega
  have d9 : decide (9 < (gs.length : Int)) = false := by simp; omega
  have HF := Lib.hid hF
  have Hco := Lib.hid hco
  have Hgo := Lib.hid hgo
  clear hF hco hgo
  have d23 : decide (23 < s) = false := by simp; omega
  have HX := Lib.hid hx
  clear hx
  go_enter Try.func12, Try.ntmps12
  go_wp2_with fail
  go_at_call 16
  refine (thin_eq s wo ak ks.length ck ad ds.length cd true HT _).mono ?_
  rintro e w1 ⟨rfl, b1⟩
  have t1 : Below w.heap.size w w1 := by (repeat (first | exact Below.refl _ _ | refine Below.alloc ?_ (by first | omega | (simp; done) | (simp; omega)) _ | refine Below.drew ?_ | refine Below.setCell ?_ (by first | omega | (simp; done) | (simp; omega)) _ | refine Below.trans ?_ (Below.mono (by assumption) (by first | omega | (simp; done) | (simp; omega)))))
  replace hk := hk.below t1
  replace hd := hd.below t1
  replace hc := hc.below t1
  replace hg := hg.below t1
  obtain ⟨q0, q1, q2, q3⟩ := BookAt.of (b1.mono (by simp))
  have lB := cell_lt q0
  simp only at lB
  go_wp2_with fail
  go_at_call 22
  refine (fault_eq s wo ak ks ck ad ds cd 0 HF _ hk hd lk ld).mono ?_
  rintro e w2 ⟨rfl, b2⟩
  have j2 : Below w1.heap.size w1 w2 := by (repeat (first | exact Below.refl _ _ | refine Below.alloc ?_ (by first | omega | (simp; done) | (simp; omega)) _ | refine Below.drew ?_ | refine Below.setCell ?_ (by first | omega | (simp; done) | (simp; omega)) _ | refine Below.trans ?_ (Below.mono (by assumption) (by first | omega | (simp; done) | (simp; omega)))))
  have t2 : Below w.heap.size w w2 := t1.trans (j2.mono t1.size)
  replace hk := hk.below j2
  replace hd := hd.below j2
  replace hc := hc.below j2
  replace hg := hg.below j2
  replace q0 := below_cell j2 q0
  replace q1 := below_cell j2 q1
  replace q2 := below_cell j2 q2
  replace q3 := below_cell j2 q3
  replace lB := Nat.lt_of_lt_of_le lB j2.size
  go_wp2_with fail
  go_at_call 19
  refine (bookConv_at s wo ak ks ck ad ds cd _ hk hd lk ld nd).mono ?_
  rintro e w3 ⟨⟨akA, ckA, adA, cdA, rfl, kA, dA⟩, b3⟩
  have j3 : Below w2.heap.size w2 w3 := by (repeat (first | exact Below.refl _ _ | refine Below.alloc ?_ (by first | omega | (simp; done) | (simp; omega)) _ | refine Below.drew ?_ | refine Below.setCell ?_ (by first | omega | (simp; done) | (simp; omega)) _ | refine Below.trans ?_ (Below.mono (by assumption) (by first | omega | (simp; done) | (simp; omega)))))
  have t3 : Below w.heap.size w w3 := t2.trans (j3.mono t2.size)
  replace hk := hk.below j3
  replace hd := hd.below j3
  replace hc := hc.below j3
  replace hg := hg.below j3
  replace q0 := below_cell j3 q0
  replace q1 := below_cell j3 q1
  replace q2 := below_cell j3 q2
  replace q3 := below_cell j3 q3
  replace lB := Nat.lt_of_lt_of_le lB j3.size
  go_wp2_with fail
  go_at_call 21
  refine (list_at ac codes cc _ hc (by omega) nc).mono ?_
  rintro e w4 ⟨⟨aC, cC, rfl, iC, _⟩, b4⟩
  have j4 : Below w3.heap.size w3 w4 := by (repeat (first | exact Below.refl _ _ | refine Below.alloc ?_ (by first | omega | (simp; done) | (simp; omega)) _ | refine Below.drew ?_ | refine Below.setCell ?_ (by first | omega | (simp; done) | (simp; omega)) _ | refine Below.trans ?_ (Below.mono (by assumption) (by first | omega | (simp; done) | (simp; omega)))))
  have t4 : Below w.heap.size w w4 := t3.trans (j4.mono t3.size)
  replace hk := hk.below j4
  replace hd := hd.below j4
  replace hc := hc.below j4
  replace hg := hg.below j4
  replace q0 := below_cell j4 q0
  replace q1 := below_cell j4 q1
  replace q2 := below_cell j4 q2
  replace q3 := below_cell j4 q3
  replace lB := Nat.lt_of_lt_of_le lB j4.size
  replace kA := kA.below j4
  replace dA := dA.below j4
  go_wp2_with fail
  go_at_call 41
  refine (guessesConv_at ag gs cg _ hg (by omega)).mono ?_
  rintro e w5 ⟨⟨aG, cG, rfl, iG, _⟩, b5⟩
  have j5 : Below w4.heap.size w4 w5 := by (repeat (first | exact Below.refl _ _ | refine Below.alloc ?_ (by first | omega | (simp; done) | (simp; omega)) _ | refine Below.drew ?_ | refine Below.setCell ?_ (by first | omega | (simp; done) | (simp; omega)) _ | refine Below.trans ?_ (Below.mono (by assumption) (by first | omega | (simp; done) | (simp; omega)))))
  have t5 : Below w.heap.size w w5 := t4.trans (j5.mono t4.size)
  replace hk := hk.below j5
  replace hd := hd.below j5
  replace hc := hc.below j5
  replace hg := hg.below j5
  replace q0 := below_cell j5 q0
  replace q1 := below_cell j5 q1
  replace q2 := below_cell j5 q2
  replace q3 := below_cell j5 q3
  replace lB := Nat.lt_of_lt_of_le lB j5.size
  replace kA := kA.below j5
  replace dA := dA.below j5
  replace iC := iC.below j5
  go_wp2_with fail
  go_at_call 40
  refine (fits_eq s wo akA ks ckA adA ds cdA aC codes cC aG gs cG N 11 HN HE _ kA dA lk ld iC (by omega) iG (by omega)).mono ?_
  rintro e w6 ⟨rfl, b6⟩
  have j6 : Below w5.heap.size w5 w6 := by (repeat (first | exact Below.refl _ _ | refine Below.alloc ?_ (by first | omega | (simp; done) | (simp; omega)) _ | refine Below.drew ?_ | refine Below.setCell ?_ (by first | omega | (simp; done) | (simp; omega)) _ | refine Below.trans ?_ (Below.mono (by assumption) (by first | omega | (simp; done) | (simp; omega)))))
  have t6 : Below w.heap.size w w6 := t5.trans (j6.mono t5.size)
  replace hk := hk.below j6
  replace hd := hd.below j6
  replace hc := hc.below j6
  replace hg := hg.below j6
  replace q0 := below_cell j6 q0
  replace q1 := below_cell j6 q1
  replace q2 := below_cell j6 q2
  replace q3 := below_cell j6 q3
  replace lB := Nat.lt_of_lt_of_le lB j6.size
  replace kA := kA.below j6
  replace dA := dA.below j6
  replace iC := iC.below j6
  replace iG := iG.below j6
  clear kA dA iC iG
  go_wp2_with fail
  go_at_call 19
  refine (bookConv_at s wo ak ks ck ad ds cd _ hk hd lk ld nd).mono ?_
  rintro e w7 ⟨⟨akA, ckA, adA, cdA, rfl, kA, dA⟩, b7⟩
  have j7 : Below w6.heap.size w6 w7 := by (repeat (first | exact Below.refl _ _ | refine Below.alloc ?_ (by first | omega | (simp; done) | (simp; omega)) _ | refine Below.drew ?_ | refine Below.setCell ?_ (by first | omega | (simp; done) | (simp; omega)) _ | refine Below.trans ?_ (Below.mono (by assumption) (by first | omega | (simp; done) | (simp; omega)))))
  have t7 : Below w.heap.size w w7 := t6.trans (j7.mono t6.size)
  replace hk := hk.below j7
  replace hd := hd.below j7
  replace hc := hc.below j7
  replace hg := hg.below j7
  replace q0 := below_cell j7 q0
  replace q1 := below_cell j7 q1
  replace q2 := below_cell j7 q2
  replace q3 := below_cell j7 q3
  replace lB := Nat.lt_of_lt_of_le lB j7.size
  go_wp2_with fail
  go_at_call 21
  refine (list_at ac codes cc _ hc (by omega) nc).mono ?_
  rintro e w8 ⟨⟨aC, cC, rfl, iC, _⟩, b8⟩
  have j8 : Below w7.heap.size w7 w8 := by (repeat (first | exact Below.refl _ _ | refine Below.alloc ?_ (by first | omega | (simp; done) | (simp; omega)) _ | refine Below.drew ?_ | refine Below.setCell ?_ (by first | omega | (simp; done) | (simp; omega)) _ | refine Below.trans ?_ (Below.mono (by assumption) (by first | omega | (simp; done) | (simp; omega)))))
  have t8 : Below w.heap.size w w8 := t7.trans (j8.mono t7.size)
  replace hk := hk.below j8
  replace hd := hd.below j8
  replace hc := hc.below j8
  replace hg := hg.below j8
  replace q0 := below_cell j8 q0
  replace q1 := below_cell j8 q1
  replace q2 := below_cell j8 q2
  replace q3 := below_cell j8 q3
  replace lB := Nat.lt_of_lt_of_le lB j8.size
  replace kA := kA.below j8
  replace dA := dA.below j8
  go_wp2_with fail
  go_at_call 41
  refine (guessesConv_at ag gs cg _ hg (by omega)).mono ?_
  rintro e w9 ⟨⟨aG, cG, rfl, iG, _⟩, b9⟩
  have j9 : Below w8.heap.size w8 w9 := by (repeat (first | exact Below.refl _ _ | refine Below.alloc ?_ (by first | omega | (simp; done) | (simp; omega)) _ | refine Below.drew ?_ | refine Below.setCell ?_ (by first | omega | (simp; done) | (simp; omega)) _ | refine Below.trans ?_ (Below.mono (by assumption) (by first | omega | (simp; done) | (simp; omega)))))
  have t9 : Below w.heap.size w w9 := t8.trans (j9.mono t8.size)
  replace hk := hk.below j9
  replace hd := hd.below j9
  replace hc := hc.below j9
  replace hg := hg.below j9
  replace q0 := below_cell j9 q0
  replace q1 := below_cell j9 q1
  replace q2 := below_cell j9 q2
  replace q3 := below_cell j9 q3
  replace lB := Nat.lt_of_lt_of_le lB j9.size
  replace kA := kA.below j9
  replace dA := dA.below j9
  replace iC := iC.below j9
  go_wp2_with fail
  go_at_call 42
  refine (poss_at s wo akA ks ckA adA ds cdA aC codes cC aG gs cG x L 2 HL HPE _ kA dA lk ld iC (by omega) iG (by omega)).mono ?_
  rintro e w10 ⟨⟨aL, cL, rfl, iL⟩, b10⟩
  have j10 : Below w9.heap.size w9 w10 := by (repeat (first | exact Below.refl _ _ | refine Below.alloc ?_ (by first | omega | (simp; done) | (simp; omega)) _ | refine Below.drew ?_ | refine Below.setCell ?_ (by first | omega | (simp; done) | (simp; omega)) _ | refine Below.trans ?_ (Below.mono (by assumption) (by first | omega | (simp; done) | (simp; omega)))))
  have t10 : Below w.heap.size w w10 := t9.trans (j10.mono t9.size)
  replace hk := hk.below j10
  replace hd := hd.below j10
  replace hc := hc.below j10
  replace hg := hg.below j10
  replace q0 := below_cell j10 q0
  replace q1 := below_cell j10 q1
  replace q2 := below_cell j10 q2
  replace q3 := below_cell j10 q3
  replace lB := Nat.lt_of_lt_of_le lB j10.size
  replace kA := kA.below j10
  replace dA := dA.below j10
  replace iC := iC.below j10
  replace iG := iG.below j10
  clear kA dA iC iG
  go_wp2_with fail
  go_at_call 43
  refine (askedLaw_any s wo ak ks ck ad ds cd ac codes cc ag gs cg 0 HA _ hk hd lk ld hc (by omega) hg (by omega)).mono ?_
  rintro e w11 ⟨rfl, b11⟩
  have j11 : Below w10.heap.size w10 w11 := by (repeat (first | exact Below.refl _ _ | refine Below.alloc ?_ (by first | omega | (simp; done) | (simp; omega)) _ | refine Below.drew ?_ | refine Below.setCell ?_ (by first | omega | (simp; done) | (simp; omega)) _ | refine Below.trans ?_ (Below.mono (by assumption) (by first | omega | (simp; done) | (simp; omega)))))
  have t11 : Below w.heap.size w w11 := t10.trans (j11.mono t10.size)
  replace hk := hk.below j11
  replace hd := hd.below j11
  replace hc := hc.below j11
  replace hg := hg.below j11
  replace q0 := below_cell j11 q0
  replace q1 := below_cell j11 q1
  replace q2 := below_cell j11 q2
  replace q3 := below_cell j11 q3
  replace lB := Nat.lt_of_lt_of_le lB j11.size
  replace iL := iL.below j11
  go_wp2_with fail
  go_at_call 44
  refine (refFits_out s wo ak ks ck ad ds cd ac codes cc ag gs cg x _ hk hd lk ld hc (by omega) hg (by omega) HF.out Hco.out Hgo.out HX.out N HN2 L HL2).mono ?_
  rintro e w12 ⟨⟨aD, cD, rfl, iD⟩, b12⟩
  have j12 : Below w11.heap.size w11 w12 := by (repeat (first | exact Below.refl _ _ | refine Below.alloc ?_ (by first | omega | (simp; done) | (simp; omega)) _ | refine Below.drew ?_ | refine Below.setCell ?_ (by first | omega | (simp; done) | (simp; omega)) _ | refine Below.trans ?_ (Below.mono (by assumption) (by first | omega | (simp; done) | (simp; omega)))))
  have t12 : Below w.heap.size w w12 := t11.trans (j12.mono t11.size)
  replace hk := hk.below j12
  replace hd := hd.below j12
  replace hc := hc.below j12
  replace hg := hg.below j12
  replace q0 := below_cell j12 q0
  replace q1 := below_cell j12 q1
  replace q2 := below_cell j12 q2
  replace q3 := below_cell j12 q3
  replace lB := Nat.lt_of_lt_of_le lB j12.size
  replace iL := iL.below j12
  go_wp2_with fail
  go_at_call 23
  refine (in_eq x 0 ((codes.length : Int) - 1) false HX _).mono ?_
  rintro e _ ⟨rfl, rfl⟩
  go_wp2_with fail
  go_at_call 25
  refine (same_eq aL L cL aD cD _ iL iD (by omega)).mono ?_
  rintro e w13 ⟨rfl, b13⟩
  have j13 : Below w12.heap.size w12 w13 := by (repeat (first | exact Below.refl _ _ | refine Below.alloc ?_ (by first | omega | (simp; done) | (simp; omega)) _ | refine Below.drew ?_ | refine Below.setCell ?_ (by first | omega | (simp; done) | (simp; omega)) _ | refine Below.trans ?_ (Below.mono (by assumption) (by first | omega | (simp; done) | (simp; omega)))))
  have t13 : Below w.heap.size w w13 := t12.trans (j13.mono t12.size)
  replace hk := hk.below j13
  replace hd := hd.below j13
  replace hc := hc.below j13
  replace hg := hg.below j13
  replace q0 := below_cell j13 q0
  replace q1 := below_cell j13 q1
  replace q2 := below_cell j13 q2
  replace q3 := below_cell j13 q3
  replace lB := Nat.lt_of_lt_of_le lB j13.size
  replace iL := iL.below j13
  replace iD := iD.below j13
  go_wp2_with fail
  go_at_call 17
  refine (awake_any _).mono ?_
  rintro e w14 ⟨rfl, b14⟩
  have j14 : Below w13.heap.size w13 w14 := by (repeat (first | exact Below.refl _ _ | refine Below.alloc ?_ (by first | omega | (simp; done) | (simp; omega)) _ | refine Below.drew ?_ | refine Below.setCell ?_ (by first | omega | (simp; done) | (simp; omega)) _ | refine Below.trans ?_ (Below.mono (by assumption) (by first | omega | (simp; done) | (simp; omega)))))
  have t14 : Below w.heap.size w w14 := t13.trans (j14.mono t13.size)
  replace hk := hk.below j14
  replace hd := hd.below j14
  replace hc := hc.below j14
  replace hg := hg.below j14
  replace q0 := below_cell j14 q0
  replace q1 := below_cell j14 q1
  replace q2 := below_cell j14 q2
  replace q3 := below_cell j14 q3
  replace lB := Nat.lt_of_lt_of_le lB j14.size
  replace iL := iL.below j14
  replace iD := iD.below j14
  go_wp2_with fail
  go_ret
  exact ⟨rfl, t14⟩

set_option maxRecDepth 100000 in
set_option maxHeartbeats 8000000 in
theorem fits_on (s wo : Int) (ak : Option Addr) (ks : List (Int × Int × Int)) (ck : Nat) (ad : Option Addr) (ds : List Int) (cd : Nat) (ac : Option Addr) (codes : List Int) (cc : Nat) (ag : Option Addr) (gs : List (Int × Int)) (cg : Nat) (x : Int) (w : World) (hk : Recs3At w ak ks) (hd : IntsAt w ad ds) (nd : ad = none → cd = 0) (hc : IntsAt w ac codes) (nc : ac = none → cc = 0) (hg : Recs2At w ag gs) (hT : (decide (ks.length ≤ 8) && decide (ds.length ≤ 11)) = true) (h13 : (codes.length : Int) ≤ 13) (h9 : (gs.length : Int) ≤ 9) (hF : bookErr s wo ks ds = 0) (h23 : s ≤ 23) (HA : Hid (askErr s wo ks ds codes gs = 0)) (hco : codes.all (plainOk s) = true) (hgo : gs.all (guessOk s codes.length) = true) (N : Int) (hN : (N == 0) = false) (HN : Hid (fitsN s wo ks ds codes gs = N)) (HE : Hid (fitsErr s wo ks ds codes gs = 0)) (L : List Int) (lL : L.length ≤ 1000) (HL : Hid (possL s wo ks ds codes gs x = L)) (HPE : Hid (possErr s wo ks ds codes gs x = 2)) (HN2 : Hid (((refKeys s codes gs).length : Int) = N)) (hx : (decide (0 ≤ x) && decide (x ≤ (codes.length : Int) - 1)) = false) (HL2 : Hid (([] : List Int) = L)) :
    Calls Try.prog 12 #[.agg #[.int .i64 s, .int .i64 wo, .slice ak ks.length ck, .slice ad ds.length cd], .slice ac codes.length cc, .slice ag gs.length cg, .int .i64 x] w fun e w' => e = .returned (.bool true) ∧ Below w.heap.size w w' := by

  have lk : ks.length ≤ 1000 := by simp at hT; omega
  have ld : ds.length ≤ 1000 := by simp at hT; omega
  have HT := Lib.hid hT
  clear hT
  have d13 : decide (13 < (codes.length : Int)) = false := by simp; omega
  have d9 : decide (9 < (gs.length : Int)) = false := by simp; omega
  have HF := Lib.hid hF
  have Hco := Lib.hid hco
  have Hgo := Lib.hid hgo
  clear hF hco hgo
  have d23 : decide (23 < s) = false := by simp; omega
  have HX := Lib.hid hx
  clear hx
  go_enter Try.func12, Try.ntmps12
  go_wp2_with fail
  go_at_call 16
  refine (thin_eq s wo ak ks.length ck ad ds.length cd true HT _).mono ?_
  rintro e w1 ⟨rfl, b1⟩
  have t1 : Below w.heap.size w w1 := by (repeat (first | exact Below.refl _ _ | refine Below.alloc ?_ (by first | omega | (simp; done) | (simp; omega)) _ | refine Below.drew ?_ | refine Below.setCell ?_ (by first | omega | (simp; done) | (simp; omega)) _ | refine Below.trans ?_ (Below.mono (by assumption) (by first | omega | (simp; done) | (simp; omega)))))
  replace hk := hk.below t1
  replace hd := hd.below t1
  replace hc := hc.below t1
  replace hg := hg.below t1
  obtain ⟨q0, q1, q2, q3⟩ := BookAt.of (b1.mono (by simp))
  have lB := cell_lt q0
  simp only at lB
  go_wp2_with fail
  go_at_call 22
  refine (fault_eq s wo ak ks ck ad ds cd 0 HF _ hk hd lk ld).mono ?_
  rintro e w2 ⟨rfl, b2⟩
  have j2 : Below w1.heap.size w1 w2 := by (repeat (first | exact Below.refl _ _ | refine Below.alloc ?_ (by first | omega | (simp; done) | (simp; omega)) _ | refine Below.drew ?_ | refine Below.setCell ?_ (by first | omega | (simp; done) | (simp; omega)) _ | refine Below.trans ?_ (Below.mono (by assumption) (by first | omega | (simp; done) | (simp; omega)))))
  have t2 : Below w.heap.size w w2 := t1.trans (j2.mono t1.size)
  replace hk := hk.below j2
  replace hd := hd.below j2
  replace hc := hc.below j2
  replace hg := hg.below j2
  replace q0 := below_cell j2 q0
  replace q1 := below_cell j2 q1
  replace q2 := below_cell j2 q2
  replace q3 := below_cell j2 q3
  replace lB := Nat.lt_of_lt_of_le lB j2.size
  go_wp2_with fail
  go_at_call 19
  refine (bookConv_at s wo ak ks ck ad ds cd _ hk hd lk ld nd).mono ?_
  rintro e w3 ⟨⟨akA, ckA, adA, cdA, rfl, kA, dA⟩, b3⟩
  have j3 : Below w2.heap.size w2 w3 := by (repeat (first | exact Below.refl _ _ | refine Below.alloc ?_ (by first | omega | (simp; done) | (simp; omega)) _ | refine Below.drew ?_ | refine Below.setCell ?_ (by first | omega | (simp; done) | (simp; omega)) _ | refine Below.trans ?_ (Below.mono (by assumption) (by first | omega | (simp; done) | (simp; omega)))))
  have t3 : Below w.heap.size w w3 := t2.trans (j3.mono t2.size)
  replace hk := hk.below j3
  replace hd := hd.below j3
  replace hc := hc.below j3
  replace hg := hg.below j3
  replace q0 := below_cell j3 q0
  replace q1 := below_cell j3 q1
  replace q2 := below_cell j3 q2
  replace q3 := below_cell j3 q3
  replace lB := Nat.lt_of_lt_of_le lB j3.size
  go_wp2_with fail
  go_at_call 21
  refine (list_at ac codes cc _ hc (by omega) nc).mono ?_
  rintro e w4 ⟨⟨aC, cC, rfl, iC, _⟩, b4⟩
  have j4 : Below w3.heap.size w3 w4 := by (repeat (first | exact Below.refl _ _ | refine Below.alloc ?_ (by first | omega | (simp; done) | (simp; omega)) _ | refine Below.drew ?_ | refine Below.setCell ?_ (by first | omega | (simp; done) | (simp; omega)) _ | refine Below.trans ?_ (Below.mono (by assumption) (by first | omega | (simp; done) | (simp; omega)))))
  have t4 : Below w.heap.size w w4 := t3.trans (j4.mono t3.size)
  replace hk := hk.below j4
  replace hd := hd.below j4
  replace hc := hc.below j4
  replace hg := hg.below j4
  replace q0 := below_cell j4 q0
  replace q1 := below_cell j4 q1
  replace q2 := below_cell j4 q2
  replace q3 := below_cell j4 q3
  replace lB := Nat.lt_of_lt_of_le lB j4.size
  replace kA := kA.below j4
  replace dA := dA.below j4
  go_wp2_with fail
  go_at_call 41
  refine (guessesConv_at ag gs cg _ hg (by omega)).mono ?_
  rintro e w5 ⟨⟨aG, cG, rfl, iG, _⟩, b5⟩
  have j5 : Below w4.heap.size w4 w5 := by (repeat (first | exact Below.refl _ _ | refine Below.alloc ?_ (by first | omega | (simp; done) | (simp; omega)) _ | refine Below.drew ?_ | refine Below.setCell ?_ (by first | omega | (simp; done) | (simp; omega)) _ | refine Below.trans ?_ (Below.mono (by assumption) (by first | omega | (simp; done) | (simp; omega)))))
  have t5 : Below w.heap.size w w5 := t4.trans (j5.mono t4.size)
  replace hk := hk.below j5
  replace hd := hd.below j5
  replace hc := hc.below j5
  replace hg := hg.below j5
  replace q0 := below_cell j5 q0
  replace q1 := below_cell j5 q1
  replace q2 := below_cell j5 q2
  replace q3 := below_cell j5 q3
  replace lB := Nat.lt_of_lt_of_le lB j5.size
  replace kA := kA.below j5
  replace dA := dA.below j5
  replace iC := iC.below j5
  go_wp2_with fail
  go_at_call 40
  refine (fits_eq s wo akA ks ckA adA ds cdA aC codes cC aG gs cG N 0 HN HE _ kA dA lk ld iC (by omega) iG (by omega)).mono ?_
  rintro e w6 ⟨rfl, b6⟩
  have j6 : Below w5.heap.size w5 w6 := by (repeat (first | exact Below.refl _ _ | refine Below.alloc ?_ (by first | omega | (simp; done) | (simp; omega)) _ | refine Below.drew ?_ | refine Below.setCell ?_ (by first | omega | (simp; done) | (simp; omega)) _ | refine Below.trans ?_ (Below.mono (by assumption) (by first | omega | (simp; done) | (simp; omega)))))
  have t6 : Below w.heap.size w w6 := t5.trans (j6.mono t5.size)
  replace hk := hk.below j6
  replace hd := hd.below j6
  replace hc := hc.below j6
  replace hg := hg.below j6
  replace q0 := below_cell j6 q0
  replace q1 := below_cell j6 q1
  replace q2 := below_cell j6 q2
  replace q3 := below_cell j6 q3
  replace lB := Nat.lt_of_lt_of_le lB j6.size
  replace kA := kA.below j6
  replace dA := dA.below j6
  replace iC := iC.below j6
  replace iG := iG.below j6
  clear kA dA iC iG
  go_wp2_with fail
  go_at_call 19
  refine (bookConv_at s wo ak ks ck ad ds cd _ hk hd lk ld nd).mono ?_
  rintro e w7 ⟨⟨akA, ckA, adA, cdA, rfl, kA, dA⟩, b7⟩
  have j7 : Below w6.heap.size w6 w7 := by (repeat (first | exact Below.refl _ _ | refine Below.alloc ?_ (by first | omega | (simp; done) | (simp; omega)) _ | refine Below.drew ?_ | refine Below.setCell ?_ (by first | omega | (simp; done) | (simp; omega)) _ | refine Below.trans ?_ (Below.mono (by assumption) (by first | omega | (simp; done) | (simp; omega)))))
  have t7 : Below w.heap.size w w7 := t6.trans (j7.mono t6.size)
  replace hk := hk.below j7
  replace hd := hd.below j7
  replace hc := hc.below j7
  replace hg := hg.below j7
  replace q0 := below_cell j7 q0
  replace q1 := below_cell j7 q1
  replace q2 := below_cell j7 q2
  replace q3 := below_cell j7 q3
  replace lB := Nat.lt_of_lt_of_le lB j7.size
  go_wp2_with fail
  go_at_call 21
  refine (list_at ac codes cc _ hc (by omega) nc).mono ?_
  rintro e w8 ⟨⟨aC, cC, rfl, iC, _⟩, b8⟩
  have j8 : Below w7.heap.size w7 w8 := by (repeat (first | exact Below.refl _ _ | refine Below.alloc ?_ (by first | omega | (simp; done) | (simp; omega)) _ | refine Below.drew ?_ | refine Below.setCell ?_ (by first | omega | (simp; done) | (simp; omega)) _ | refine Below.trans ?_ (Below.mono (by assumption) (by first | omega | (simp; done) | (simp; omega)))))
  have t8 : Below w.heap.size w w8 := t7.trans (j8.mono t7.size)
  replace hk := hk.below j8
  replace hd := hd.below j8
  replace hc := hc.below j8
  replace hg := hg.below j8
  replace q0 := below_cell j8 q0
  replace q1 := below_cell j8 q1
  replace q2 := below_cell j8 q2
  replace q3 := below_cell j8 q3
  replace lB := Nat.lt_of_lt_of_le lB j8.size
  replace kA := kA.below j8
  replace dA := dA.below j8
  go_wp2_with fail
  go_at_call 41
  refine (guessesConv_at ag gs cg _ hg (by omega)).mono ?_
  rintro e w9 ⟨⟨aG, cG, rfl, iG, _⟩, b9⟩
  have j9 : Below w8.heap.size w8 w9 := by (repeat (first | exact Below.refl _ _ | refine Below.alloc ?_ (by first | omega | (simp; done) | (simp; omega)) _ | refine Below.drew ?_ | refine Below.setCell ?_ (by first | omega | (simp; done) | (simp; omega)) _ | refine Below.trans ?_ (Below.mono (by assumption) (by first | omega | (simp; done) | (simp; omega)))))
  have t9 : Below w.heap.size w w9 := t8.trans (j9.mono t8.size)
  replace hk := hk.below j9
  replace hd := hd.below j9
  replace hc := hc.below j9
  replace hg := hg.below j9
  replace q0 := below_cell j9 q0
  replace q1 := below_cell j9 q1
  replace q2 := below_cell j9 q2
  replace q3 := below_cell j9 q3
  replace lB := Nat.lt_of_lt_of_le lB j9.size
  replace kA := kA.below j9
  replace dA := dA.below j9
  replace iC := iC.below j9
  go_wp2_with fail
  go_at_call 42
  refine (poss_at s wo akA ks ckA adA ds cdA aC codes cC aG gs cG x L 2 HL HPE _ kA dA lk ld iC (by omega) iG (by omega)).mono ?_
  rintro e w10 ⟨⟨aL, cL, rfl, iL⟩, b10⟩
  have j10 : Below w9.heap.size w9 w10 := by (repeat (first | exact Below.refl _ _ | refine Below.alloc ?_ (by first | omega | (simp; done) | (simp; omega)) _ | refine Below.drew ?_ | refine Below.setCell ?_ (by first | omega | (simp; done) | (simp; omega)) _ | refine Below.trans ?_ (Below.mono (by assumption) (by first | omega | (simp; done) | (simp; omega)))))
  have t10 : Below w.heap.size w w10 := t9.trans (j10.mono t9.size)
  replace hk := hk.below j10
  replace hd := hd.below j10
  replace hc := hc.below j10
  replace hg := hg.below j10
  replace q0 := below_cell j10 q0
  replace q1 := below_cell j10 q1
  replace q2 := below_cell j10 q2
  replace q3 := below_cell j10 q3
  replace lB := Nat.lt_of_lt_of_le lB j10.size
  replace kA := kA.below j10
  replace dA := dA.below j10
  replace iC := iC.below j10
  replace iG := iG.below j10
  clear kA dA iC iG
  go_wp2_with fail
  go_at_call 43
  refine (askedLaw_any s wo ak ks ck ad ds cd ac codes cc ag gs cg 0 HA _ hk hd lk ld hc (by omega) hg (by omega)).mono ?_
  rintro e w11 ⟨rfl, b11⟩
  have j11 : Below w10.heap.size w10 w11 := by (repeat (first | exact Below.refl _ _ | refine Below.alloc ?_ (by first | omega | (simp; done) | (simp; omega)) _ | refine Below.drew ?_ | refine Below.setCell ?_ (by first | omega | (simp; done) | (simp; omega)) _ | refine Below.trans ?_ (Below.mono (by assumption) (by first | omega | (simp; done) | (simp; omega)))))
  have t11 : Below w.heap.size w w11 := t10.trans (j11.mono t10.size)
  replace hk := hk.below j11
  replace hd := hd.below j11
  replace hc := hc.below j11
  replace hg := hg.below j11
  replace q0 := below_cell j11 q0
  replace q1 := below_cell j11 q1
  replace q2 := below_cell j11 q2
  replace q3 := below_cell j11 q3
  replace lB := Nat.lt_of_lt_of_le lB j11.size
  replace iL := iL.below j11
  go_wp2_with fail
  go_at_call 44
  refine (refFits_out s wo ak ks ck ad ds cd ac codes cc ag gs cg x _ hk hd lk ld hc (by omega) hg (by omega) HF.out Hco.out Hgo.out HX.out N HN2 L HL2).mono ?_
  rintro e w12 ⟨⟨aD, cD, rfl, iD⟩, b12⟩
  have j12 : Below w11.heap.size w11 w12 := by (repeat (first | exact Below.refl _ _ | refine Below.alloc ?_ (by first | omega | (simp; done) | (simp; omega)) _ | refine Below.drew ?_ | refine Below.setCell ?_ (by first | omega | (simp; done) | (simp; omega)) _ | refine Below.trans ?_ (Below.mono (by assumption) (by first | omega | (simp; done) | (simp; omega)))))
  have t12 : Below w.heap.size w w12 := t11.trans (j12.mono t11.size)
  replace hk := hk.below j12
  replace hd := hd.below j12
  replace hc := hc.below j12
  replace hg := hg.below j12
  replace q0 := below_cell j12 q0
  replace q1 := below_cell j12 q1
  replace q2 := below_cell j12 q2
  replace q3 := below_cell j12 q3
  replace lB := Nat.lt_of_lt_of_le lB j12.size
  replace iL := iL.below j12
  go_wp2_with fail
  go_at_call 23
  refine (in_eq x 0 ((codes.length : Int) - 1) false HX _).mono ?_
  rintro e _ ⟨rfl, rfl⟩
  go_wp2_with fail
  go_at_call 25
  refine (same_eq aL L cL aD cD _ iL iD (by omega)).mono ?_
  rintro e w13 ⟨rfl, b13⟩
  have j13 : Below w12.heap.size w12 w13 := by (repeat (first | exact Below.refl _ _ | refine Below.alloc ?_ (by first | omega | (simp; done) | (simp; omega)) _ | refine Below.drew ?_ | refine Below.setCell ?_ (by first | omega | (simp; done) | (simp; omega)) _ | refine Below.trans ?_ (Below.mono (by assumption) (by first | omega | (simp; done) | (simp; omega)))))
  have t13 : Below w.heap.size w w13 := t12.trans (j13.mono t12.size)
  replace hk := hk.below j13
  replace hd := hd.below j13
  replace hc := hc.below j13
  replace hg := hg.below j13
  replace q0 := below_cell j13 q0
  replace q1 := below_cell j13 q1
  replace q2 := below_cell j13 q2
  replace q3 := below_cell j13 q3
  replace lB := Nat.lt_of_lt_of_le lB j13.size
  replace iL := iL.below j13
  replace iD := iD.below j13
  go_wp2_with fail
  go_at_call 17
  refine (awake_any _).mono ?_
  rintro e w14 ⟨rfl, b14⟩
  have j14 : Below w13.heap.size w13 w14 := by (repeat (first | exact Below.refl _ _ | refine Below.alloc ?_ (by first | omega | (simp; done) | (simp; omega)) _ | refine Below.drew ?_ | refine Below.setCell ?_ (by first | omega | (simp; done) | (simp; omega)) _ | refine Below.trans ?_ (Below.mono (by assumption) (by first | omega | (simp; done) | (simp; omega)))))
  have t14 : Below w.heap.size w w14 := t13.trans (j14.mono t13.size)
  replace hk := hk.below j14
  replace hd := hd.below j14
  replace hc := hc.below j14
  replace hg := hg.below j14
  replace q0 := below_cell j14 q0
  replace q1 := below_cell j14 q1
  replace q2 := below_cell j14 q2
  replace q3 := below_cell j14 q3
  replace lB := Nat.lt_of_lt_of_le lB j14.size
  replace iL := iL.below j14
  replace iD := iD.below j14
  go_wp2_with fail
  go_ret
  exact ⟨rfl, t14⟩


theorem fits_walk (s wo : Int) (ak : Option Addr) (ks : List (Int × Int × Int)) (ck : Nat) (ad : Option Addr) (ds : List Int) (cd : Nat) (ac : Option Addr) (codes : List Int) (cc : Nat) (ag : Option Addr) (gs : List (Int × Int)) (cg : Nat) (x : Int) (w : World) (hk : Recs3At w ak ks) (hd : IntsAt w ad ds) (nd : ad = none → cd = 0) (hc : IntsAt w ac codes) (nc : ac = none → cc = 0) (hg : Recs2At w ag gs) (ng : ag = none → cg = 0) :
    Calls Try.prog 12 #[.agg #[.int .i64 s, .int .i64 wo, .slice ak ks.length ck, .slice ad ds.length cd], .slice ac codes.length cc, .slice ag gs.length cg, .int .i64 x] w fun e w' => e = .returned (.bool true) ∧ Below w.heap.size w w' := by
  cases hT : (decide (ks.length ≤ 8) && decide (ds.length ≤ 11))
  · exact fits_a s wo ak ks ck ad ds cd ac codes cc ag gs cg x w hk hd nd hc nc hg hT
  by_cases h13 : 13 < (codes.length : Int)
  · exact fits_b s wo ak ks ck ad ds cd ac codes cc ag gs cg x w hk hd nd hc nc hg hT h13
  by_cases h9 : 9 < (gs.length : Int)
  · exact fits_c s wo ak ks ck ad ds cd ac codes cc ag gs cg x w hk hd nd hc nc hg hT (by omega) h9
  by_cases hA : askErr s wo ks ds codes gs = 0
  · obtain ⟨hF, _, _, hco, hgo⟩ := askErr_ok hA
    obtain ⟨_, _, s0, s1, _⟩ := bookErr_ok hF
    by_cases h23 : 23 < s
    · exact fits_d s wo ak ks ck ad ds cd ac codes cc ag gs cg x w hk hd nd hc nc hg hT (by omega) (by omega) (Lib.hid hF) h23
    have hs : 0 < s := by omega
    have hN : fitsN s wo ks ds codes gs = ((keysN s codes gs).length : Int) := if_pos hA
    have hE : fitsErr s wo ks ds codes gs = if (keysN s codes gs).length = 0 then 11 else 0 := if_neg (by simp [hA])
    have hN2 : ((refKeys s codes gs).length : Int) = ((keysN s codes gs).length : Int) := by rw [keys_len hs hco hgo]
    by_cases hx : 0 ≤ x ∧ x ≤ (codes.length : Int) - 1
    · obtain ⟨y, rfl⟩ := Int.eq_ofNat_of_zero_le hx.1
      have hL : possL s wo ks ds codes gs y = possK s (codes.getD y 0) y (keysN s codes gs) s.toNat := by unfold possL; rw [if_pos ⟨hA, hx⟩]; simp
      have hL2 := poss_eq hs s1 hco hgo (codes.getD y 0) y
      have hPE : possErr s wo ks ds codes gs y = if (keysN s codes gs).length = 0 then 11 else 0 := by
        unfold possErr
        rw [if_neg (by simp [hA]), if_neg (by simpa using hx), hL]
        have := poss_none hs (codes.getD y 0) y (keysN s codes gs)
        by_cases h : (keysN s codes gs).length = 0
        · rw [if_pos h, if_pos (this.2 h)]
        · rw [if_neg h, if_neg (fun h2 => h (this.1 h2))]
      have hlen := possK_len s (codes.getD y 0) y (keysN s codes gs) s.toNat
      by_cases h0 : (keysN s codes gs).length = 0
      · exact fits_iz s wo ak ks ck ad ds cd ac codes cc ag gs cg y w hk hd nd hc nc hg hT (by omega) (by omega) hF (by omega) (Lib.hid hA) hco hgo _ (by rw [h0]; rfl) (Lib.hid hN) (Lib.hid (by rw [hE, if_pos h0])) _ (by omega) (Lib.hid hL) (Lib.hid (by rw [hPE, if_pos h0])) (Lib.hid hN2) y rfl (by omega) (Lib.hid hL2)
      · exact fits_in s wo ak ks ck ad ds cd ac codes cc ag gs cg y w hk hd nd hc nc hg hT (by omega) (by omega) hF (by omega) (Lib.hid hA) hco hgo _ (by simp; intro h; exact h0 (by rw [h]; rfl)) (Lib.hid hN) (Lib.hid (by rw [hE, if_neg h0])) _ (by omega) (Lib.hid hL) (Lib.hid (by rw [hPE, if_neg h0])) (Lib.hid hN2) y rfl (by omega) (Lib.hid hL2)
    · have hL : possL s wo ks ds codes gs x = [] := by unfold possL; rw [if_neg (fun h => hx h.2)]
      have hPE : possErr s wo ks ds codes gs x = 2 := by unfold possErr; rw [if_neg (by simp [hA]), if_pos hx]
      have hw : (decide (0 ≤ x) && decide (x ≤ (codes.length : Int) - 1)) = false := by
        cases h : (decide (0 ≤ x) && decide (x ≤ (codes.length : Int) - 1))
        · rfl
        · simp only [Bool.and_eq_true, decide_eq_true_eq] at h; exact absurd h hx
      by_cases h0 : (keysN s codes gs).length = 0
      · exact fits_oz s wo ak ks ck ad ds cd ac codes cc ag gs cg x w hk hd nd hc nc hg hT (by omega) (by omega) hF (by omega) (Lib.hid hA) hco hgo _ (by rw [h0]; rfl) (Lib.hid hN) (Lib.hid (by rw [hE, if_pos h0])) [] (by simp) (Lib.hid hL) (Lib.hid hPE) (Lib.hid hN2) hw (Lib.hid rfl)
      · exact fits_on s wo ak ks ck ad ds cd ac codes cc ag gs cg x w hk hd nd hc nc hg hT (by omega) (by omega) hF (by omega) (Lib.hid hA) hco hgo _ (by simp; intro h; exact h0 (by rw [h]; rfl)) (Lib.hid hN) (Lib.hid (by rw [hE, if_neg h0])) [] (by simp) (Lib.hid hL) (Lib.hid hPE) (Lib.hid hN2) hw (Lib.hid rfl)
  · have hN : fitsN s wo ks ds codes gs = 0 := if_neg hA
    have hE : fitsErr s wo ks ds codes gs = askErr s wo ks ds codes gs := if_pos hA
    have hL : possL s wo ks ds codes gs x = [] := by unfold possL; rw [if_neg (fun h => hA h.1)]
    have hPE : possErr s wo ks ds codes gs x = askErr s wo ks ds codes gs := by unfold possErr; rw [if_pos hA]
    by_cases hF : bookErr s wo ks ds = 0
    · by_cases h23 : 23 < s
      · exact fits_d s wo ak ks ck ad ds cd ac codes cc ag gs cg x w hk hd nd hc nc hg hT (by omega) (by omega) (Lib.hid hF) h23
      · exact fits_f s wo ak ks ck ad ds cd ac codes cc ag gs cg x w hk hd nd hc nc hg hT (by omega) (by omega) _ (Lib.hid hF) (by omega) hA (Lib.hid rfl) (Lib.hid hN) (Lib.hid hE) (Lib.hid hL) (Lib.hid hPE)
    · have hAF : askErr s wo ks ds codes gs = bookErr s wo ks ds := by unfold askErr; rw [if_pos hF]
      exact fits_e s wo ak ks ck ad ds cd ac codes cc ag gs cg x w hk hd nd hc nc hg hT (by omega) (by omega) _ (Lib.hid hAF.symm) hA (Lib.hid rfl) (Lib.hid hN) (Lib.hid hE) (Lib.hid hL) (Lib.hid hPE)
end Go.Proofs.Ytmplgcefhpobgaa
