/- CipherKept: the walk -/
import Derived.Test.YtmplgcefhpobgaaLe
import Derived.Test.YtmplgcefhpobgaaDm
import Derived.Test.YtmplgcefhpobgaaMd
import Derived.Test.YtmplgcefhpobgaaMb
import Derived.Deep.Cut
namespace Go.Proofs.Ytmplgcefhpobgaa
set_option linter.unusedVariables false
set_option linter.unusedSimpArgs false
set_option linter.unnecessarySimpa false
open Go.RowKit Go.Flow

def LossV (lost : List (Int × Int)) (v : Value) (w : World) : Prop := ∃ a c, v = .slice a lost.length c ∧ Recs2At w a lost
theorem LossV.kept {lost : List (Int × Int)} {v : Value} {w w' : World} (h : LossV lost v w) (hb : Below w.heap.size w w') : LossV lost v w' := let ⟨a, c, h1, h2⟩ := h; ⟨a, c, h1, h2.below hb⟩
def TupV (l : List Int) (v : Value) (w : World) : Prop := ∃ a c, v = .tuple #[.slice a l.length c, .int .i64 0] ∧ IntsAt w a l
theorem TupV.kept {l : List Int} {v : Value} {w w' : World} (h : TupV l v w) (hb : Below w.heap.size w w') : TupV l v w' := let ⟨a, c, h1, h2⟩ := h; ⟨a, c, h1, h2.below hb⟩
def SlV (l : List Int) (v : Value) (w : World) : Prop := ∃ a c, v = .slice a l.length c ∧ IntsAt w a l
theorem SlV.kept {l : List Int} {v : Value} {w w' : World} (h : SlV l v w) (hb : Below w.heap.size w w') : SlV l v w' := let ⟨a, c, h1, h2⟩ := h; ⟨a, c, h1, h2.below hb⟩
def ZeroV (v : Value) (w : World) : Prop := v = .int .i64 0
theorem ZeroV.kept {v : Value} {w w' : World} (h : ZeroV v w) (hb : Below w.heap.size w w') : ZeroV v w' := h
theorem plan_at (s wo : Int) (ak : Option Addr) (ks : List (Int × Int × Int)) (ck : Nat) (ad : Option Addr) (ds : List Int) (cd : Nat) (al : Option Addr) (lost : List (Int × Int)) (cl : Nat) (most : Int) (O : List Int) (n E : Int) (hO : Hid (planDays s wo ks ds lost most = O)) (hN : Hid (planCh s wo ks ds lost most = n)) (hE : Hid (planErr s wo ks ds lost most = E)) (w : World) (hk : Recs3At w ak ks) (hd : IntsAt w ad ds) (lk : ks.length ≤ 1000) (ld : ds.length ≤ 1000) (hl : Recs2At w al lost) (ll : lost.length ≤ 1000) :
    Calls Try.prog 35 #[.agg #[.int .i64 s, .int .i64 wo, .slice ak ks.length ck, .slice ad ds.length cd], .slice al lost.length cl, .int .i64 most] w fun e w' => (∃ a c, e = .returned (.tuple #[.slice a O.length c, .int .i64 n, .int .i64 E]) ∧ IntsAt w' a O ∧ (a = none → c = 0)) ∧ Below w.heap.size w w' := by
  rw [← hE.out, ← hN.out, ← hO.out]
  exact (plan_full s wo ak ks ck ad ds cd al lost cl most w hk hd lk ld hl ll).mono fun _ _ ⟨⟨a, c, h1, h2⟩, h3⟩ => ⟨⟨a, c, h1, h2.ints.1, fun h => by subst h; exact h2.isnil.2⟩, h3⟩

set_option maxRecDepth 100000 in
set_option maxHeartbeats 2000000 in
theorem kept_a (s wo : Int) (ak : Option Addr) (ks : List (Int × Int × Int)) (ck : Nat) (ad : Option Addr) (ds : List Int) (cd : Nat) (ap : Option Addr) (lost : List (Int × Int)) (cp : Nat) (A : Nat) (w : World) (hk : Recs3At w ak ks) (hd : IntsAt w ad ds) (nd : ad = none → cd = 0) (hp : Recs2At w ap lost) (hA : A ≤ 255) (hR : lossedB s wo ks ds lost = false) :
    Calls Try.prog 10 #[.agg #[.int .i64 s, .int .i64 wo, .slice ak ks.length ck, .slice ad ds.length cd], .slice ap lost.length cp, .int .u8 A] w fun e w' => e = .returned (.bool true) ∧ Below w.heap.size w w' := by

  have HR := Lib.hid hR
  clear hR
  go_enter Try.func10, Try.ntmps10
  go_wp2_with fail
  go_at_call 34
  refine (lossed_eq s wo ak ks ck ad ds cd ap lost cp false HR _ (hk.below (by (repeat (first | exact Below.refl _ _ | refine Below.alloc ?_ (by first | omega | (simp; done) | (simp; omega)) _ | refine Below.drew ?_ | refine Below.setCell ?_ (by first | omega | (simp; done) | (simp; omega)) _ | refine Below.trans ?_ (Below.mono (by assumption) (by first | omega | (simp; done) | (simp; omega))))))) (hd.below (by (repeat (first | exact Below.refl _ _ | refine Below.alloc ?_ (by first | omega | (simp; done) | (simp; omega)) _ | refine Below.drew ?_ | refine Below.setCell ?_ (by first | omega | (simp; done) | (simp; omega)) _ | refine Below.trans ?_ (Below.mono (by assumption) (by first | omega | (simp; done) | (simp; omega))))))) (hp.below (by (repeat (first | exact Below.refl _ _ | refine Below.alloc ?_ (by first | omega | (simp; done) | (simp; omega)) _ | refine Below.drew ?_ | refine Below.setCell ?_ (by first | omega | (simp; done) | (simp; omega)) _ | refine Below.trans ?_ (Below.mono (by assumption) (by first | omega | (simp; done) | (simp; omega)))))))).mono ?_
  rintro e w1 ⟨rfl, b1⟩
  have t1 : Below w.heap.size w w1 := by (repeat (first | exact Below.refl _ _ | refine Below.alloc ?_ (by first | omega | (simp; done) | (simp; omega)) _ | refine Below.drew ?_ | refine Below.setCell ?_ (by first | omega | (simp; done) | (simp; omega)) _ | refine Below.trans ?_ (Below.mono (by assumption) (by first | omega | (simp; done) | (simp; omega)))))
  replace hk := hk.below t1
  replace hd := hd.below t1
  replace hp := hp.below t1
  obtain ⟨q0, q1, q2, q3⟩ := BookAt.of (b1.mono (by simp))
  have lB := cell_lt q0
  simp only at lB
  go_wp2_with fail
  go_at_call 17
  refine (awake_any _).mono ?_
  rintro e w2 ⟨rfl, b2⟩
  have j2 : Below w1.heap.size w1 w2 := by (repeat (first | exact Below.refl _ _ | refine Below.alloc ?_ (by first | omega | (simp; done) | (simp; omega)) _ | refine Below.drew ?_ | refine Below.setCell ?_ (by first | omega | (simp; done) | (simp; omega)) _ | refine Below.trans ?_ (Below.mono (by assumption) (by first | omega | (simp; done) | (simp; omega)))))
  have t2 : Below w.heap.size w w2 := t1.trans (j2.mono t1.size)
  replace hk := hk.below j2
  replace hd := hd.below j2
  replace hp := hp.below j2
  replace q0 := below_cell j2 q0
  replace q1 := below_cell j2 q1
  replace q2 := below_cell j2 q2
  replace q3 := below_cell j2 q3
  replace lB := Nat.lt_of_lt_of_le lB j2.size
  go_wp2_with fail
  go_ret
  exact ⟨rfl, t2⟩

set_option maxRecDepth 100000 in
set_option maxHeartbeats 2000000 in
theorem kept_b (s wo : Int) (ak : Option Addr) (ks : List (Int × Int × Int)) (ck : Nat) (ad : Option Addr) (ds : List Int) (cd : Nat) (ap : Option Addr) (lost : List (Int × Int)) (cp : Nat) (A : Nat) (w : World) (hk : Recs3At w ak ks) (hd : IntsAt w ad ds) (nd : ad = none → cd = 0) (hp : Recs2At w ap lost) (hA : A ≤ 255) (hR : lossedB s wo ks ds lost = true) (most : Int) (hmost : (A : Int) % 9 = most) (O : List Int) (n : Int) (HO : Hid (planDays s wo ks ds lost most = O)) (HN : Hid (planCh s wo ks ds lost most = n)) (HE : Hid (planErr s wo ks ds lost most = 10)) :
    Calls Try.prog 10 #[.agg #[.int .i64 s, .int .i64 wo, .slice ak ks.length ck, .slice ad ds.length cd], .slice ap lost.length cp, .int .u8 A] w fun e w' => e = .returned (.bool true) ∧ Below w.heap.size w w' := by

  have HR := Lib.hid hR
  obtain ⟨hl9, hle⟩ := lossedB_ok hR
  obtain ⟨hbk, _, _⟩ := lossErr_ok hle
  obtain ⟨lk5, ld8, s0, s1, _, wo1, _, k0, dd0, _⟩ := bookErr_ok hbk
  have lk : ks.length ≤ 1000 := by omega
  have ld : ds.length ≤ 1000 := by omega
  clear hR hbk hle
  go_enter Try.func10, Try.ntmps10
  go_wp2_with fail
  go_at_call 34
  refine (lossed_eq s wo ak ks ck ad ds cd ap lost cp true HR _ (hk.below (by (repeat (first | exact Below.refl _ _ | refine Below.alloc ?_ (by first | omega | (simp; done) | (simp; omega)) _ | refine Below.drew ?_ | refine Below.setCell ?_ (by first | omega | (simp; done) | (simp; omega)) _ | refine Below.trans ?_ (Below.mono (by assumption) (by first | omega | (simp; done) | (simp; omega))))))) (hd.below (by (repeat (first | exact Below.refl _ _ | refine Below.alloc ?_ (by first | omega | (simp; done) | (simp; omega)) _ | refine Below.drew ?_ | refine Below.setCell ?_ (by first | omega | (simp; done) | (simp; omega)) _ | refine Below.trans ?_ (Below.mono (by assumption) (by first | omega | (simp; done) | (simp; omega))))))) (hp.below (by (repeat (first | exact Below.refl _ _ | refine Below.alloc ?_ (by first | omega | (simp; done) | (simp; omega)) _ | refine Below.drew ?_ | refine Below.setCell ?_ (by first | omega | (simp; done) | (simp; omega)) _ | refine Below.trans ?_ (Below.mono (by assumption) (by first | omega | (simp; done) | (simp; omega)))))))).mono ?_
  rintro e w1 ⟨rfl, b1⟩
  have t1 : Below w.heap.size w w1 := by (repeat (first | exact Below.refl _ _ | refine Below.alloc ?_ (by first | omega | (simp; done) | (simp; omega)) _ | refine Below.drew ?_ | refine Below.setCell ?_ (by first | omega | (simp; done) | (simp; omega)) _ | refine Below.trans ?_ (Below.mono (by assumption) (by first | omega | (simp; done) | (simp; omega)))))
  replace hk := hk.below t1
  replace hd := hd.below t1
  replace hp := hp.below t1
  obtain ⟨q0, q1, q2, q3⟩ := BookAt.of (b1.mono (by simp))
  have lB := cell_lt q0
  simp only at lB
  go_wp2_with fail
  go_at_call 19
  refine (bookConv_at s wo ak ks ck ad ds cd _ hk hd lk ld nd).mono ?_
  rintro e w2 ⟨⟨akA, ckA, adA, cdA, rfl, kA, dA⟩, b2⟩
  have j2 : Below w1.heap.size w1 w2 := by (repeat (first | exact Below.refl _ _ | refine Below.alloc ?_ (by first | omega | (simp; done) | (simp; omega)) _ | refine Below.drew ?_ | refine Below.setCell ?_ (by first | omega | (simp; done) | (simp; omega)) _ | refine Below.trans ?_ (Below.mono (by assumption) (by first | omega | (simp; done) | (simp; omega)))))
  have t2 : Below w.heap.size w w2 := t1.trans (j2.mono t1.size)
  replace hk := hk.below j2
  replace hd := hd.below j2
  replace hp := hp.below j2
  replace q0 := below_cell j2 q0
  replace q1 := below_cell j2 q1
  replace q2 := below_cell j2 q2
  replace q3 := below_cell j2 q3
  replace lB := Nat.lt_of_lt_of_le lB j2.size
  go_wp2_with fail
  go_at_call 30
  refine (lossesConv_at ap lost cp _ hp (by omega)).mono ?_
  rintro e w3 ⟨⟨aP, cP, rfl, iP, _⟩, b3⟩
  have j3 : Below w2.heap.size w2 w3 := by (repeat (first | exact Below.refl _ _ | refine Below.alloc ?_ (by first | omega | (simp; done) | (simp; omega)) _ | refine Below.drew ?_ | refine Below.setCell ?_ (by first | omega | (simp; done) | (simp; omega)) _ | refine Below.trans ?_ (Below.mono (by assumption) (by first | omega | (simp; done) | (simp; omega)))))
  have t3 : Below w.heap.size w w3 := t2.trans (j3.mono t2.size)
  replace hk := hk.below j3
  replace hd := hd.below j3
  replace hp := hp.below j3
  replace q0 := below_cell j3 q0
  replace q1 := below_cell j3 q1
  replace q2 := below_cell j3 q2
  replace q3 := below_cell j3 q3
  replace lB := Nat.lt_of_lt_of_le lB j3.size
  replace kA := kA.below j3
  replace dA := dA.below j3
  go_wp2_with fail
  go_at_call 35
  refine (plan_at s wo akA ks ckA adA ds cdA aP lost cP most O n 10 HO HN HE _ kA dA lk ld iP (by omega)).mono ?_
  rintro e w4 ⟨⟨aL, cL, rfl, iL, nL⟩, b4⟩
  have j4 : Below w3.heap.size w3 w4 := by (repeat (first | exact Below.refl _ _ | refine Below.alloc ?_ (by first | omega | (simp; done) | (simp; omega)) _ | refine Below.drew ?_ | refine Below.setCell ?_ (by first | omega | (simp; done) | (simp; omega)) _ | refine Below.trans ?_ (Below.mono (by assumption) (by first | omega | (simp; done) | (simp; omega)))))
  have t4 : Below w.heap.size w w4 := t3.trans (j4.mono t3.size)
  replace hk := hk.below j4
  replace hd := hd.below j4
  replace hp := hp.below j4
  replace q0 := below_cell j4 q0
  replace q1 := below_cell j4 q1
  replace q2 := below_cell j4 q2
  replace q3 := below_cell j4 q3
  replace lB := Nat.lt_of_lt_of_le lB j4.size
  replace kA := kA.below j4
  replace dA := dA.below j4
  replace iP := iP.below j4
  clear kA dA iP iL
  go_wp2_with fail
  go_at_call 17
  refine (awake_any _).mono ?_
  rintro e w5 ⟨rfl, b5⟩
  have j5 : Below w4.heap.size w4 w5 := by (repeat (first | exact Below.refl _ _ | refine Below.alloc ?_ (by first | omega | (simp; done) | (simp; omega)) _ | refine Below.drew ?_ | refine Below.setCell ?_ (by first | omega | (simp; done) | (simp; omega)) _ | refine Below.trans ?_ (Below.mono (by assumption) (by first | omega | (simp; done) | (simp; omega)))))
  have t5 : Below w.heap.size w w5 := t4.trans (j5.mono t4.size)
  replace hk := hk.below j5
  replace hd := hd.below j5
  replace hp := hp.below j5
  replace q0 := below_cell j5 q0
  replace q1 := below_cell j5 q1
  replace q2 := below_cell j5 q2
  replace q3 := below_cell j5 q3
  replace lB := Nat.lt_of_lt_of_le lB j5.size
  go_wp2_with fail
  go_ret
  exact ⟨rfl, t5⟩

set_option maxRecDepth 100000 in
set_option maxHeartbeats 2000000 in
theorem kept_c (s wo : Int) (ak : Option Addr) (ks : List (Int × Int × Int)) (ck : Nat) (ad : Option Addr) (ds : List Int) (cd : Nat) (ap : Option Addr) (lost : List (Int × Int)) (cp : Nat) (A : Nat) (w : World) (hk : Recs3At w ak ks) (hd : IntsAt w ad ds) (nd : ad = none → cd = 0) (hp : Recs2At w ap lost) (hA : A ≤ 255) (hR : lossedB s wo ks ds lost = true) (most : Int) (hmost : (A : Int) % 9 = most) (O : List Int) (n : Int) (HO : Hid (planDays s wo ks ds lost most = O)) (HN : Hid (planCh s wo ks ds lost most = n)) (HE : Hid (planErr s wo ks ds lost most = 0)) (hOl : O.length = ds.length) (HX : Hid (lossErr s wo ks O lost = 0)) (R : List Int) (HR2 : Hid (expOut s wo ks O lost = R)) (HRl : Hid (R.length = O.length)) (HD : Hid (∀ (d : Nat) (h : d < R.length), R[d] ≠ d)) :
    Calls Try.prog 10 #[.agg #[.int .i64 s, .int .i64 wo, .slice ak ks.length ck, .slice ad ds.length cd], .slice ap lost.length cp, .int .u8 A] w fun e w' => e = .returned (.bool true) ∧ Below w.heap.size w w' := by

  have HR := Lib.hid hR
  obtain ⟨hl9, hle⟩ := lossedB_ok hR
  obtain ⟨hbk, _, _⟩ := lossErr_ok hle
  obtain ⟨lk5, ld8, s0, s1, _, wo1, _, k0, dd0, _⟩ := bookErr_ok hbk
  have lk : ks.length ≤ 1000 := by omega
  have ld : ds.length ≤ 1000 := by omega
  have lO : O.length ≤ 1000 := by omega
  have hlen : ((O.length : Int) != (ds.length : Int)) = false := by simp; omega
  have HOl := Lib.hid hOl
  clear hR hbk hle hOl
  go_enter Try.func10, Try.ntmps10
  go_wp2_with fail
  go_at_call 34
  refine (lossed_eq s wo ak ks ck ad ds cd ap lost cp true HR _ (hk.below (by (repeat (first | exact Below.refl _ _ | refine Below.alloc ?_ (by first | omega | (simp; done) | (simp; omega)) _ | refine Below.drew ?_ | refine Below.setCell ?_ (by first | omega | (simp; done) | (simp; omega)) _ | refine Below.trans ?_ (Below.mono (by assumption) (by first | omega | (simp; done) | (simp; omega))))))) (hd.below (by (repeat (first | exact Below.refl _ _ | refine Below.alloc ?_ (by first | omega | (simp; done) | (simp; omega)) _ | refine Below.drew ?_ | refine Below.setCell ?_ (by first | omega | (simp; done) | (simp; omega)) _ | refine Below.trans ?_ (Below.mono (by assumption) (by first | omega | (simp; done) | (simp; omega))))))) (hp.below (by (repeat (first | exact Below.refl _ _ | refine Below.alloc ?_ (by first | omega | (simp; done) | (simp; omega)) _ | refine Below.drew ?_ | refine Below.setCell ?_ (by first | omega | (simp; done) | (simp; omega)) _ | refine Below.trans ?_ (Below.mono (by assumption) (by first | omega | (simp; done) | (simp; omega)))))))).mono ?_
  rintro e w1 ⟨rfl, b1⟩
  have t1 : Below w.heap.size w w1 := by (repeat (first | exact Below.refl _ _ | refine Below.alloc ?_ (by first | omega | (simp; done) | (simp; omega)) _ | refine Below.drew ?_ | refine Below.setCell ?_ (by first | omega | (simp; done) | (simp; omega)) _ | refine Below.trans ?_ (Below.mono (by assumption) (by first | omega | (simp; done) | (simp; omega)))))
  replace hk := hk.below t1
  replace hd := hd.below t1
  replace hp := hp.below t1
  obtain ⟨q0, q1, q2, q3⟩ := BookAt.of (b1.mono (by simp))
  have lB := cell_lt q0
  simp only at lB
  go_wp2_with fail
  go_at_call 19
  refine (bookConv_at s wo ak ks ck ad ds cd _ hk hd lk ld nd).mono ?_
  rintro e w2 ⟨⟨akA, ckA, adA, cdA, rfl, kA, dA⟩, b2⟩
  have j2 : Below w1.heap.size w1 w2 := by (repeat (first | exact Below.refl _ _ | refine Below.alloc ?_ (by first | omega | (simp; done) | (simp; omega)) _ | refine Below.drew ?_ | refine Below.setCell ?_ (by first | omega | (simp; done) | (simp; omega)) _ | refine Below.trans ?_ (Below.mono (by assumption) (by first | omega | (simp; done) | (simp; omega)))))
  have t2 : Below w.heap.size w w2 := t1.trans (j2.mono t1.size)
  replace hk := hk.below j2
  replace hd := hd.below j2
  replace hp := hp.below j2
  replace q0 := below_cell j2 q0
  replace q1 := below_cell j2 q1
  replace q2 := below_cell j2 q2
  replace q3 := below_cell j2 q3
  replace lB := Nat.lt_of_lt_of_le lB j2.size
  go_wp2_with fail
  go_at_call 30
  refine (lossesConv_at ap lost cp _ hp (by omega)).mono ?_
  rintro e w3 ⟨⟨aP, cP, rfl, iP, _⟩, b3⟩
  have j3 : Below w2.heap.size w2 w3 := by (repeat (first | exact Below.refl _ _ | refine Below.alloc ?_ (by first | omega | (simp; done) | (simp; omega)) _ | refine Below.drew ?_ | refine Below.setCell ?_ (by first | omega | (simp; done) | (simp; omega)) _ | refine Below.trans ?_ (Below.mono (by assumption) (by first | omega | (simp; done) | (simp; omega)))))
  have t3 : Below w.heap.size w w3 := t2.trans (j3.mono t2.size)
  replace hk := hk.below j3
  replace hd := hd.below j3
  replace hp := hp.below j3
  replace q0 := below_cell j3 q0
  replace q1 := below_cell j3 q1
  replace q2 := below_cell j3 q2
  replace q3 := below_cell j3 q3
  replace lB := Nat.lt_of_lt_of_le lB j3.size
  replace kA := kA.below j3
  replace dA := dA.below j3
  go_wp2_with fail
  go_at_call 35
  refine (plan_at s wo akA ks ckA adA ds cdA aP lost cP most O n 0 HO HN HE _ kA dA lk ld iP (by omega)).mono ?_
  rintro e w4 ⟨⟨aL, cL, rfl, iL, nL⟩, b4⟩
  have j4 : Below w3.heap.size w3 w4 := by (repeat (first | exact Below.refl _ _ | refine Below.alloc ?_ (by first | omega | (simp; done) | (simp; omega)) _ | refine Below.drew ?_ | refine Below.setCell ?_ (by first | omega | (simp; done) | (simp; omega)) _ | refine Below.trans ?_ (Below.mono (by assumption) (by first | omega | (simp; done) | (simp; omega)))))
  have t4 : Below w.heap.size w w4 := t3.trans (j4.mono t3.size)
  replace hk := hk.below j4
  replace hd := hd.below j4
  replace hp := hp.below j4
  replace q0 := below_cell j4 q0
  replace q1 := below_cell j4 q1
  replace q2 := below_cell j4 q2
  replace q3 := below_cell j4 q3
  replace lB := Nat.lt_of_lt_of_le lB j4.size
  replace kA := kA.below j4
  replace dA := dA.below j4
  replace iP := iP.below j4
  clear kA dA iP
  go_wp2_with fail
  go_at_call 19
  refine (bookConv_at s wo ak ks ck ad ds cd _ hk hd lk ld nd).mono ?_
  rintro e w5 ⟨⟨akB, ckB, adB, cdB, rfl, kB, dB⟩, b5⟩
  have j5 : Below w4.heap.size w4 w5 := by (repeat (first | exact Below.refl _ _ | refine Below.alloc ?_ (by first | omega | (simp; done) | (simp; omega)) _ | refine Below.drew ?_ | refine Below.setCell ?_ (by first | omega | (simp; done) | (simp; omega)) _ | refine Below.trans ?_ (Below.mono (by assumption) (by first | omega | (simp; done) | (simp; omega)))))
  have t5 : Below w.heap.size w w5 := t4.trans (j5.mono t4.size)
  replace hk := hk.below j5
  replace hd := hd.below j5
  replace hp := hp.below j5
  replace q0 := below_cell j5 q0
  replace q1 := below_cell j5 q1
  replace q2 := below_cell j5 q2
  replace q3 := below_cell j5 q3
  replace lB := Nat.lt_of_lt_of_le lB j5.size
  replace iL := iL.below j5
  clear dB
  go_upto_region 9 with fail
  have C6 := Cells.new w5 #[.int .i64 s, .int .i64 wo, .slice akB ks.length ckB, .slice adB ds.length cdB] 32
  have bX6 : Below w5.heap.size w5 (w5.alloc (.cells #[.int .i64 s, .int .i64 wo, .slice akB ks.length ckB, .slice adB ds.length cdB] 32)) := (Below.refl _ _).alloc (Nat.le_refl _) _
  obtain ⟨x6, hx6⟩ : ∃ x : World, x = w5.alloc (.cells #[.int .i64 s, .int .i64 wo, .slice akB ks.length ckB, .slice adB ds.length cdB] 32) := ⟨_, rfl⟩
  rw [← hx6] at C6 bX6 ⊢
  clear hx6
  obtain ⟨g, hg⟩ : ∃ g, w5.heap.size = g := ⟨_, rfl⟩
  have hg0 : w5.heap.size ≤ g := by omega
  rw [hg] at C6 ⊢
  have lg6 := C6.lt
  go_wp2_with fail
  go_at_call 21
  refine (list_own aL O cL _ (iL.below bX6) (by omega) nL (by have := HOl.out; omega)).mono ?_
  rintro e x7 ⟨⟨gM, cM, rfl, gM0, gM1, oM⟩, bx7⟩
  have C7 := C6.below bx7
  have bX7 : Below w5.heap.size w5 x7 := bX6.trans (bx7.mono bX6.size)
  have lg7 := C7.lt
  have fr7 := C7.frozen 3
  have ce7 := C7.cell 3
  simp at ce7
  go_upto_region 10 with fail
  have C8 := C7.set 3 (.slice (some ⟨gM, 0, none⟩) O.length cM)
  have bX8 := bX7.setCell (p := ⟨g, 3, none⟩) hg0 (.slice (some ⟨gM, 0, none⟩) O.length cM)
  have iM8 : IntsAt (x7.setCell ⟨g, 3, none⟩ (.slice (some ⟨gM, 0, none⟩) O.length cM)) (some ⟨gM, 0, none⟩) O := (own_other oM (p := ⟨g, 3, none⟩) (show g ≠ gM by omega) _).ints.1
  obtain ⟨x8, hx8⟩ : ∃ x : World, x = x7.setCell ⟨g, 3, none⟩ (.slice (some ⟨gM, 0, none⟩) O.length cM) := ⟨_, rfl⟩
  rw [← hx8] at C8 bX8 iM8 ⊢
  clear hx8 C7 C6 fr7 ce7 bx7 bX7 bX6
  have e0 := C8.cell 0
  have e1 := C8.cell 1
  have e2 := C8.cell 2
  have e3 := C8.cell 3
  simp at e0 e1 e2 e3
  have lg8 := C8.lt
  (refine wp_region_seq 9 [] [] 78 [true, true, false, false, false, false, false, false, false] [LossV lost, TupV R, TupV R, SlV R, ZeroV, SlV R, ZeroV] (by kernel_rfl) (by kernel_rfl) rfl (mono_cons (fun v w w' h hb => h.kept hb) (mono_cons (fun v w w' h hb => h.kept hb) (mono_cons (fun v w w' h hb => h.kept hb) (mono_cons (fun v w w' h hb => h.kept hb) (mono_cons (fun v w w' h hb => h.kept hb) (mono_cons (fun v w w' h hb => h.kept hb) (mono_cons (fun v w w' h hb => h.kept hb) mono_nil))))))) ?_; simp only [pickOps, List.filterMap_cons, List.filterMap_nil, List.getElem?_toArray, List.getElem?_cons_succ, List.getElem?_cons_zero]; (repeat (refine wpFl_step _ rfl (fun w => (by go_simp; rfl)) ?_)); refine wpFl_nil ?_; simp only [maskOps, dummy, Act.put, List.setIfInBounds_toArray, List.set_cons_zero, List.set_cons_succ, List.take_succ_cons, List.take_zero, List.drop_succ_cons, List.drop_zero]; (repeat (refine wpQB_step (fun K hK => ?_); go_simp; first | (refine hK _ ?_; clear hK K) | (apply Exists.intro; refine ⟨fun ex => ?_, hK _ ?_⟩; (fail); clear hK K))); refine wpQB_nil ?_; simp only [relObl2, under, relEnd, and_true, List.nil_append, List.cons_append])
  refine ⟨⟨fun e => ?_, fun e v1 h1 => ?_, fun e v1 h1 v2 h2 => ?_, fun e v1 h1 v2 h2 v3 h3 => ?_, fun e v1 h1 v2 h2 v3 h3 v4 h4 => ?_, fun e v1 h1 v2 h2 v3 h3 v4 h4 v5 h5 => ?_, fun e v1 h1 v2 h2 v3 h3 v4 h4 v5 h5 v6 h6 => ?_⟩, fun e => ?_⟩
  · go_simp
    refine (lossesConv_at ap lost cp e.to (hp.below (bX8.trans (e.below.mono bX8.size))) (by omega)).mono ?_
    rintro _ _ ⟨⟨a, c, rfl, i, _⟩, b⟩
    exact ⟨b, a, c, rfl, i⟩
  · obtain ⟨a, c, rfl, i⟩ := h1 (by kernel_rfl)
    go_simp
    refine (exposed_at s wo akB ks ckB (some ⟨gM, 0, none⟩) O cM a lost c R 0 HR2 HX e.to (kB.below (bX8.trans (e.below.mono bX8.size))) (iM8.below e.below) lk lO i (by omega)).mono ?_
    rintro _ _ ⟨⟨a, c, rfl, i⟩, b⟩
    exact ⟨b, a, c, rfl, i⟩
  · obtain ⟨a, c, rfl, i⟩ := h2 (by kernel_rfl)
    go_simp
    exact ⟨Below.refl _ _, a, c, rfl, i⟩
  · obtain ⟨a, c, rfl, i⟩ := h3 (by kernel_rfl)
    go_simp
    exact ⟨Below.refl _ _, a, c, rfl, i⟩
  · obtain ⟨a, c, rfl, i⟩ := h3 (by kernel_rfl)
    go_simp
    exact ⟨Below.refl _ _, rfl⟩
  · obtain ⟨a, c, rfl, i⟩ := h4 (by kernel_rfl)
    go_simp
    exact ⟨Below.refl _ _, a, c, rfl, i⟩
  · obtain rfl := h5 (by kernel_rfl)
    go_simp
    exact ⟨Below.refl _ _, rfl⟩
  rintro v1 _ v2 _ v3 _ v4 _ v5 _ v6 ⟨aR, cR, rfl, iR⟩ v7 h7
  obtain rfl : v7 = .int .i64 0 := h7
  simp only [Act.put, List.setIfInBounds_toArray, List.set_cons_zero, List.set_cons_succ]
  obtain ⟨x9, hx9⟩ : ∃ x : World, x = e.to := ⟨_, rfl⟩
  have b9 := e.below
  rw [← hx9] at iR b9 ⊢
  clear hx9 e0 e1 e2 e3
  have t6 := t5.trans ((bX8.trans (b9.mono bX8.size)).mono t5.size)
  have hRO : ((R.length : Int) != (O.length : Int)) = false := by simp; have := HRl.out; omega
  have lR : R.length ≤ 1000 := by have := HRl.out; omega
  go_wp2_with fail
  go_loop [13] (fun i => ∃ k : Nat, k ≤ R.length ∧ i = .int .i64 k) (fun i => R.length - (intOf i).toNat)
  case atStart => exact ⟨0, Nat.zero_le _, rfl⟩
  case round =>
    obtain ⟨k, hk, rfl⟩ := hrel
    have hRl := HRl.out
    by_cases hlt : k < R.length
    · obtain ⟨b, off, rfl, lb, ck⟩ := iR k hlt
      have hdk : (R[k] == (k : Int)) = false := by have := HD.out k hlt; simpa using this
      have ck' : x9.cell? ⟨b, off + k, none⟩ = some (.int .i64 R[k]) := by rw [ck]; simp [hlt]
      obtain ⟨r, hr⟩ : ∃ r, R[k] = r := ⟨_, rfl⟩
      rw [hr] at hdk ck'
      clear hr ck hRl
      go_wp2_with fail
      go_round
      case rel => exact ⟨k + 1, by omega, by go_num⟩
      case measure => simp [intOf]; omega
    · have hkR : k = R.length := by omega
      clear hRl
      have Hk := Lib.hid hkR
      clear hkR
      go_wp2_with fail
      go_at_call 17
      refine (awake_any _).mono ?_
      rintro e w7 ⟨rfl, b7⟩
      go_wp2_with fail
      go_ret
      exact ⟨rfl, t6.trans (b7.mono t6.size)⟩


theorem kept_walk (s wo : Int) (ak : Option Addr) (ks : List (Int × Int × Int)) (ck : Nat) (ad : Option Addr) (ds : List Int) (cd : Nat) (ap : Option Addr) (lost : List (Int × Int)) (cp : Nat) (a : Int) (w : World) (hk : Recs3At w ak ks) (hd : IntsAt w ad ds) (nd : ad = none → cd = 0) (hp : Recs2At w ap lost) (np : ap = none → cp = 0) (ha : (Lit.int .u8 a).wf = true) :
    Calls Try.prog 10 #[.agg #[.int .i64 s, .int .i64 wo, .slice ak ks.length ck, .slice ad ds.length cd], .slice ap lost.length cp, .int .u8 a] w fun e w' => e = .returned (.bool true) ∧ Below w.heap.size w w' := by
  have e0 := u8_b ha
  obtain ⟨A, rfl⟩ := Int.eq_ofNat_of_zero_le e0.1
  cases hR : lossedB s wo ks ds lost
  · exact kept_a s wo ak ks ck ad ds cd ap lost cp A w hk hd nd hp (by omega) hR
  obtain ⟨hl9, hle⟩ := lossedB_ok hR
  have hm : 0 ≤ (A : Int) % 9 ∧ (A : Int) % 9 ≤ 8 := ⟨by omega, by omega⟩
  by_cases hf : 1048576 ≤ planLeast ks.length ds.length lost ((A : Int) % 9)
  · exact kept_b s wo ak ks ck ad ds cd ap lost cp A w hk hd nd hp (by omega) hR _ rfl _ _ (Lib.hid rfl) (Lib.hid rfl) (Lib.hid (by unfold planErr; rw [if_neg (by simp [hle]), if_neg (by omega), if_pos hf]))
  · have hE : planErr s wo ks ds lost ((A : Int) % 9) = 0 := by unfold planErr; rw [if_neg (by simp [hle]), if_neg (by omega), if_neg hf]
    obtain ⟨l, l1, l2, l3, _⟩ := planR_ok (fun k => hadN lost k) ((A : Int) % 9) ks.length ds.length spot0 (by unfold planLeast at hf; omega)
    have hO : planDays s wo ks ds lost ((A : Int) % 9) = l.map (fun (k : Nat) => (k : Int)) := by unfold planDays; rw [if_pos hE]; exact l1
    have hdk := ok_day _ _ _ l spot0 l3
    have hX := loss_days hle l l2 (fun d h => (hdk d h).1)
    refine kept_c s wo ak ks ck ad ds cd ap lost cp A w hk hd nd hp (by omega) hR _ rfl _ _ (Lib.hid hO) (Lib.hid rfl) (Lib.hid hE) (by simpa using l2) (Lib.hid hX) (expRes (l.map (fun (k : Nat) => (k : Int))) lost) (Lib.hid (by unfold expOut; rw [if_pos hX])) (Lib.hid (by unfold expRes; rw [upTo_len])) (Lib.hid ?_)
    intro d h0
    have h := h0
    unfold expRes at h
    rw [upTo_len] at h
    have h' : d < l.length := by simpa using h
    have h2 : (expRes (l.map (fun (k : Nat) => (k : Int))) lost)[d]? = some (fromN lost (l[d] : Int) d) := by
      unfold expRes
      rw [upTo_getD _ _ _ h]
      simp [h']
    obtain ⟨_, h3⟩ := List.getElem?_eq_some_iff.1 h2
    exact fun hc => kept_day l3 d h' (h3.symm.trans hc)
end Go.Proofs.Ytmplgcefhpobgaa
