/- CipherBack: the walk -/
import Derived.Test.YtmplgcefhpobgaaLb
import Derived.Test.YtmplgcefhpobgaaDl
import Derived.Test.YtmplgcefhpobgaaMb
namespace Go.Proofs.Ytmplgcefhpobgaa
set_option linter.unusedVariables false
set_option linter.unusedSimpArgs false
set_option linter.unnecessarySimpa false
open Go.RowKit Go.Flow

theorem u8_b {a : Int} (h : (Lit.int .u8 a).wf = true) : 0 ≤ a ∧ a ≤ 255 := by
  simp [Lit.wf, IntKind.min, IntKind.max, IntKind.bits, IntKind.signed] at h; omega

set_option maxRecDepth 100000 in
set_option maxHeartbeats 8000000 in
theorem back_a (s wo : Int) (ak : Option Addr) (ks : List (Int × Int × Int)) (ck : Nat) (ad : Option Addr) (ds : List Int) (cd : Nat) (ap : Option Addr) (plain : List Int) (cp : Nat) (A : Nat) (w : World) (hk : Recs3At w ak ks) (hd : IntsAt w ad ds) (nd : ad = none → cd = 0) (hp : IntsAt w ap plain) (np : ap = none → cp = 0) (hA : A ≤ 255) (hR : readyB s wo ks ds plain = false) :
    Calls Try.prog 6 #[.agg #[.int .i64 s, .int .i64 wo, .slice ak ks.length ck, .slice ad ds.length cd], .slice ap plain.length cp, .int .u8 A] w fun e w' => e = .returned (.bool true) ∧ Below w.heap.size w w' := by

  have HR := Lib.hid hR
  clear hR
  go_enter Try.func6, Try.ntmps6
  go_wp2_with fail
  go_at_call 33
  refine (ready_eq s wo ak ks ck ad ds cd ap plain cp false HR _ (hk.below (by (repeat (first | exact Below.refl _ _ | refine Below.alloc ?_ (by first | omega | (simp; done) | (simp; omega)) _ | refine Below.drew ?_ | refine Below.setCell ?_ (by first | omega | (simp; done) | (simp; omega)) _ | refine Below.trans ?_ (Below.mono (by assumption) (by first | omega | (simp; done) | (simp; omega))))))) (hd.below (by (repeat (first | exact Below.refl _ _ | refine Below.alloc ?_ (by first | omega | (simp; done) | (simp; omega)) _ | refine Below.drew ?_ | refine Below.setCell ?_ (by first | omega | (simp; done) | (simp; omega)) _ | refine Below.trans ?_ (Below.mono (by assumption) (by first | omega | (simp; done) | (simp; omega))))))) (hp.below (by (repeat (first | exact Below.refl _ _ | refine Below.alloc ?_ (by first | omega | (simp; done) | (simp; omega)) _ | refine Below.drew ?_ | refine Below.setCell ?_ (by first | omega | (simp; done) | (simp; omega)) _ | refine Below.trans ?_ (Below.mono (by assumption) (by first | omega | (simp; done) | (simp; omega)))))))).mono ?_
  rintro e w1 ⟨rfl, b1⟩
  have t1 : Below w.heap.size w w1 := by (repeat (first | exact Below.refl _ _ | refine Below.alloc ?_ (by first | omega | (simp; done) | (simp; omega)) _ | refine Below.drew ?_ | refine Below.setCell ?_ (by first | omega | (simp; done) | (simp; omega)) _ | refine Below.trans ?_ (Below.mono (by assumption) (by first | omega | (simp; done) | (simp; omega)))))
  replace hk := hk.below t1
  replace hd := hd.below t1
  replace hp := hp.below t1
  obtain ⟨q0, q1, q2, q3⟩ := BookAt.of (b1.mono (by simp))
  have lB := cell_lt q0
  simp only at lB
  go_wp2_with fail
  go_at_call 17
  refine (awake_any _).mono ?_
  rintro e w2 ⟨rfl, b2⟩
  have j2 : Below w1.heap.size w1 w2 := by (repeat (first | exact Below.refl _ _ | refine Below.alloc ?_ (by first | omega | (simp; done) | (simp; omega)) _ | refine Below.drew ?_ | refine Below.setCell ?_ (by first | omega | (simp; done) | (simp; omega)) _ | refine Below.trans ?_ (Below.mono (by assumption) (by first | omega | (simp; done) | (simp; omega)))))
  have t2 : Below w.heap.size w w2 := t1.trans (j2.mono t1.size)
  replace hk := hk.below j2
  replace hd := hd.below j2
  replace hp := hp.below j2
  replace q0 := below_cell j2 q0
  replace q1 := below_cell j2 q1
  replace q2 := below_cell j2 q2
  replace q3 := below_cell j2 q3
  replace lB := Nat.lt_of_lt_of_le lB j2.size
  go_wp2_with fail
  go_ret
  exact ⟨rfl, t2⟩

set_option maxRecDepth 100000 in
set_option maxHeartbeats 8000000 in
theorem back_b (s wo : Int) (ak : Option Addr) (ks : List (Int × Int × Int)) (ck : Nat) (ad : Option Addr) (ds : List Int) (cd : Nat) (ap : Option Addr) (plain : List Int) (cp : Nat) (A : Nat) (w : World) (hk : Recs3At w ak ks) (hd : IntsAt w ad ds) (nd : ad = none → cd = 0) (hp : IntsAt w ap plain) (np : ap = none → cp = 0) (hA : A ≤ 255) (hR : readyB s wo ks ds plain = true) :
    Calls Try.prog 6 #[.agg #[.int .i64 s, .int .i64 wo, .slice ak ks.length ck, .slice ad ds.length cd], .slice ap plain.length cp, .int .u8 A] w fun e w' => e = .returned (.bool true) ∧ Below w.heap.size w w' := by

  have HR := Lib.hid hR
  obtain ⟨hbk, hl10, hpa⟩ := readyB_ok hR
  obtain ⟨lk5, ld8, s0, s1, _, _, _, k0, d0, _⟩ := bookErr_ok hbk
  have lk : ks.length ≤ 1000 := by omega
  have ld : ds.length ≤ 1000 := by omega
  have hne : ((ds.length : Int) == 0) = false := by simp; intro h; subst h; simp at d0
  have hdp : (0 : Int) < ds.length := by omega
  have hv : Valid s wo ks ds ((A : Int) % ds.length) := ⟨hbk, Int.emod_nonneg _ (by omega), Int.emod_lt_of_pos _ hdp⟩
  obtain ⟨hdE, hdO⟩ := decode_back hv plain hl10 hpa
  have hcE : codeErr s wo ks ds ((A : Int) % ds.length) plain = 0 := by unfold codeErr; rw [if_neg (by simp [hbk]), if_neg (by have := hv.d0; have := hv.d1; omega), if_neg (by omega), if_neg (by simp [hpa])]
  have hcO : codeOut s wo ks ds ((A : Int) % ds.length) plain = codeRes s ks ds ((A : Int) % ds.length) plain := if_pos hcE
  obtain ⟨day, hday⟩ : ∃ day, (A : Int) % ds.length = day := ⟨_, rfl⟩
  have hdl := codeRes_len s ks ds day plain
  rw [hday] at hdE hdO hcE hcO
  obtain ⟨D, hD⟩ : ∃ D, codeRes s ks ds day plain = D := ⟨_, rfl⟩
  rw [hD] at hdE hdO hcO hdl
  obtain ⟨K, hK⟩ : ∃ K, keptB wo plain = K := ⟨_, rfl⟩
  have hKl : K.length ≤ plain.length := by rw [← hK]; exact List.length_filter_le _ _
  have HdE := Lib.hid hdE
  have HdO := Lib.hid hdO
  have HcE := Lib.hid hcE
  have HcO := Lib.hid hcO
  have HK := Lib.hid hK
  have Hday := hday
  have hlen : ((D.length : Int) != (plain.length : Int) + 2) = false := by simp; omega
  have hD12 : D.length ≤ 12 := by omega
  have Hdl := Lib.hid hdl
  clear hR hbk hpa hv hdE hdO hcE hcO hday hD hK hdl
  go_enter Try.func6, Try.ntmps6
  go_wp2_with fail
  go_at_call 33
  refine (ready_eq s wo ak ks ck ad ds cd ap plain cp true HR _ (hk.below (by (repeat (first | exact Below.refl _ _ | refine Below.alloc ?_ (by first | omega | (simp; done) | (simp; omega)) _ | refine Below.drew ?_ | refine Below.setCell ?_ (by first | omega | (simp; done) | (simp; omega)) _ | refine Below.trans ?_ (Below.mono (by assumption) (by first | omega | (simp; done) | (simp; omega))))))) (hd.below (by (repeat (first | exact Below.refl _ _ | refine Below.alloc ?_ (by first | omega | (simp; done) | (simp; omega)) _ | refine Below.drew ?_ | refine Below.setCell ?_ (by first | omega | (simp; done) | (simp; omega)) _ | refine Below.trans ?_ (Below.mono (by assumption) (by first | omega | (simp; done) | (simp; omega))))))) (hp.below (by (repeat (first | exact Below.refl _ _ | refine Below.alloc ?_ (by first | omega | (simp; done) | (simp; omega)) _ | refine Below.drew ?_ | refine Below.setCell ?_ (by first | omega | (simp; done) | (simp; omega)) _ | refine Below.trans ?_ (Below.mono (by assumption) (by first | omega | (simp; done) | (simp; omega)))))))).mono ?_
  rintro e w1 ⟨rfl, b1⟩
  have t1 : Below w.heap.size w w1 := by (repeat (first | exact Below.refl _ _ | refine Below.alloc ?_ (by first | omega | (simp; done) | (simp; omega)) _ | refine Below.drew ?_ | refine Below.setCell ?_ (by first | omega | (simp; done) | (simp; omega)) _ | refine Below.trans ?_ (Below.mono (by assumption) (by first | omega | (simp; done) | (simp; omega)))))
  replace hk := hk.below t1
  replace hd := hd.below t1
  replace hp := hp.below t1
  obtain ⟨q0, q1, q2, q3⟩ := BookAt.of (b1.mono (by simp))
  have lB := cell_lt q0
  simp only at lB
  go_wp2_with fail
  go_at_call 19
  refine (bookConv_at s wo ak ks ck ad ds cd _ hk hd lk ld nd).mono ?_
  rintro e w2 ⟨⟨akA, ckA, adA, cdA, rfl, kA, dA⟩, b2⟩
  have j2 : Below w1.heap.size w1 w2 := by (repeat (first | exact Below.refl _ _ | refine Below.alloc ?_ (by first | omega | (simp; done) | (simp; omega)) _ | refine Below.drew ?_ | refine Below.setCell ?_ (by first | omega | (simp; done) | (simp; omega)) _ | refine Below.trans ?_ (Below.mono (by assumption) (by first | omega | (simp; done) | (simp; omega)))))
  have t2 : Below w.heap.size w w2 := t1.trans (j2.mono t1.size)
  replace hk := hk.below j2
  replace hd := hd.below j2
  replace hp := hp.below j2
  replace q0 := below_cell j2 q0
  replace q1 := below_cell j2 q1
  replace q2 := below_cell j2 q2
  replace q3 := below_cell j2 q3
  replace lB := Nat.lt_of_lt_of_le lB j2.size
  go_wp2_with fail
  go_at_call 21
  refine (list_at ap plain cp _ hp (by omega) np).mono ?_
  rintro e w3 ⟨⟨aP, cP, rfl, iP, _⟩, b3⟩
  have j3 : Below w2.heap.size w2 w3 := by (repeat (first | exact Below.refl _ _ | refine Below.alloc ?_ (by first | omega | (simp; done) | (simp; omega)) _ | refine Below.drew ?_ | refine Below.setCell ?_ (by first | omega | (simp; done) | (simp; omega)) _ | refine Below.trans ?_ (Below.mono (by assumption) (by first | omega | (simp; done) | (simp; omega)))))
  have t3 : Below w.heap.size w w3 := t2.trans (j3.mono t2.size)
  replace hk := hk.below j3
  replace hd := hd.below j3
  replace hp := hp.below j3
  replace q0 := below_cell j3 q0
  replace q1 := below_cell j3 q1
  replace q2 := below_cell j3 q2
  replace q3 := below_cell j3 q3
  replace lB := Nat.lt_of_lt_of_le lB j3.size
  replace kA := kA.below j3
  replace dA := dA.below j3
  go_wp2_with fail
  go_at_call 20
  refine (code_at s wo akA ks ckA adA ds cdA day aP plain cP D 0 HcO HcE _ kA dA lk ld iP (by omega)).mono ?_
  rintro e w4 ⟨⟨aD, cD, rfl, iD, nD, _⟩, b4⟩
  have j4 : Below w3.heap.size w3 w4 := by (repeat (first | exact Below.refl _ _ | refine Below.alloc ?_ (by first | omega | (simp; done) | (simp; omega)) _ | refine Below.drew ?_ | refine Below.setCell ?_ (by first | omega | (simp; done) | (simp; omega)) _ | refine Below.trans ?_ (Below.mono (by assumption) (by first | omega | (simp; done) | (simp; omega)))))
  have t4 : Below w.heap.size w w4 := t3.trans (j4.mono t3.size)
  replace hk := hk.below j4
  replace hd := hd.below j4
  replace hp := hp.below j4
  replace q0 := below_cell j4 q0
  replace q1 := below_cell j4 q1
  replace q2 := below_cell j4 q2
  replace q3 := below_cell j4 q3
  replace lB := Nat.lt_of_lt_of_le lB j4.size
  replace kA := kA.below j4
  replace dA := dA.below j4
  replace iP := iP.below j4
  clear kA dA iP
  go_wp2_with fail
  go_at_call 19
  refine (bookConv_at s wo ak ks ck ad ds cd _ hk hd lk ld nd).mono ?_
  rintro e w5 ⟨⟨akB, ckB, adB, cdB, rfl, kB, dB⟩, b5⟩
  have j5 : Below w4.heap.size w4 w5 := by (repeat (first | exact Below.refl _ _ | refine Below.alloc ?_ (by first | omega | (simp; done) | (simp; omega)) _ | refine Below.drew ?_ | refine Below.setCell ?_ (by first | omega | (simp; done) | (simp; omega)) _ | refine Below.trans ?_ (Below.mono (by assumption) (by first | omega | (simp; done) | (simp; omega)))))
  have t5 : Below w.heap.size w w5 := t4.trans (j5.mono t4.size)
  replace hk := hk.below j5
  replace hd := hd.below j5
  replace hp := hp.below j5
  replace q0 := below_cell j5 q0
  replace q1 := below_cell j5 q1
  replace q2 := below_cell j5 q2
  replace q3 := below_cell j5 q3
  replace lB := Nat.lt_of_lt_of_le lB j5.size
  replace iD := iD.below j5
  go_wp2_with fail
  go_at_call 21
  refine (list_at aD D cD _ iD (by omega) nD).mono ?_
  rintro e w6 ⟨⟨aQ, cQ, rfl, iQ, _, lQ, mQ⟩, b6⟩
  have j6 : Below w5.heap.size w5 w6 := by (repeat (first | exact Below.refl _ _ | refine Below.alloc ?_ (by first | omega | (simp; done) | (simp; omega)) _ | refine Below.drew ?_ | refine Below.setCell ?_ (by first | omega | (simp; done) | (simp; omega)) _ | refine Below.trans ?_ (Below.mono (by assumption) (by first | omega | (simp; done) | (simp; omega)))))
  have t6 : Below w.heap.size w w6 := t5.trans (j6.mono t5.size)
  replace hk := hk.below j6
  replace hd := hd.below j6
  replace hp := hp.below j6
  replace q0 := below_cell j6 q0
  replace q1 := below_cell j6 q1
  replace q2 := below_cell j6 q2
  replace q3 := below_cell j6 q3
  replace lB := Nat.lt_of_lt_of_le lB j6.size
  replace iD := iD.below j6
  replace kB := kB.below j6
  replace dB := dB.below j6
  unfold maxLen at mQ
  go_wp2_with fail
  go_at_call 27
  refine (decode_at s wo akB ks ckB adB ds cdB day aQ D cQ plain K 0 HdO HK HdE _ kB dB lk ld iQ (by omega) lQ mQ).mono ?_
  rintro e w7 ⟨⟨aR, cR, aW, cW, rfl, iR, iW, nR, _⟩, b7⟩
  have j7 : Below w6.heap.size w6 w7 := by (repeat (first | exact Below.refl _ _ | refine Below.alloc ?_ (by first | omega | (simp; done) | (simp; omega)) _ | refine Below.drew ?_ | refine Below.setCell ?_ (by first | omega | (simp; done) | (simp; omega)) _ | refine Below.trans ?_ (Below.mono (by assumption) (by first | omega | (simp; done) | (simp; omega)))))
  have t7 : Below w.heap.size w w7 := t6.trans (j7.mono t6.size)
  replace hk := hk.below j7
  replace hd := hd.below j7
  replace hp := hp.below j7
  replace q0 := below_cell j7 q0
  replace q1 := below_cell j7 q1
  replace q2 := below_cell j7 q2
  replace q3 := below_cell j7 q3
  replace lB := Nat.lt_of_lt_of_le lB j7.size
  replace iD := iD.below j7
  replace kB := kB.below j7
  replace dB := dB.below j7
  replace iQ := iQ.below j7
  clear kB dB iQ
  go_wp2_with fail
  go_at_call 19
  refine (bookConv_at s wo ak ks ck ad ds cd _ hk hd lk ld nd).mono ?_
  rintro e w8 ⟨⟨akE, ckE, adE, cdE, rfl, kE, dE⟩, b8⟩
  have j8 : Below w7.heap.size w7 w8 := by (repeat (first | exact Below.refl _ _ | refine Below.alloc ?_ (by first | omega | (simp; done) | (simp; omega)) _ | refine Below.drew ?_ | refine Below.setCell ?_ (by first | omega | (simp; done) | (simp; omega)) _ | refine Below.trans ?_ (Below.mono (by assumption) (by first | omega | (simp; done) | (simp; omega)))))
  have t8 : Below w.heap.size w w8 := t7.trans (j8.mono t7.size)
  replace hk := hk.below j8
  replace hd := hd.below j8
  replace hp := hp.below j8
  replace q0 := below_cell j8 q0
  replace q1 := below_cell j8 q1
  replace q2 := below_cell j8 q2
  replace q3 := below_cell j8 q3
  replace lB := Nat.lt_of_lt_of_le lB j8.size
  replace iD := iD.below j8
  replace iR := iR.below j8
  replace iW := iW.below j8
  go_wp2_with fail
  go_at_call 21
  refine (list_at aR plain cR _ iR (by omega) nR).mono ?_
  rintro e w9 ⟨⟨aS, cS, rfl, iS, _⟩, b9⟩
  have j9 : Below w8.heap.size w8 w9 := by (repeat (first | exact Below.refl _ _ | refine Below.alloc ?_ (by first | omega | (simp; done) | (simp; omega)) _ | refine Below.drew ?_ | refine Below.setCell ?_ (by first | omega | (simp; done) | (simp; omega)) _ | refine Below.trans ?_ (Below.mono (by assumption) (by first | omega | (simp; done) | (simp; omega)))))
  have t9 : Below w.heap.size w w9 := t8.trans (j9.mono t8.size)
  replace hk := hk.below j9
  replace hd := hd.below j9
  replace hp := hp.below j9
  replace q0 := below_cell j9 q0
  replace q1 := below_cell j9 q1
  replace q2 := below_cell j9 q2
  replace q3 := below_cell j9 q3
  replace lB := Nat.lt_of_lt_of_le lB j9.size
  replace iD := iD.below j9
  replace iR := iR.below j9
  replace iW := iW.below j9
  replace kE := kE.below j9
  replace dE := dE.below j9
  go_wp2_with fail
  go_at_call 20
  refine (code_at s wo akE ks ckE adE ds cdE day aS plain cS D 0 HcO HcE _ kE dE lk ld iS (by omega)).mono ?_
  rintro e w10 ⟨⟨aT, cT, rfl, iT, _⟩, b10⟩
  have j10 : Below w9.heap.size w9 w10 := by (repeat (first | exact Below.refl _ _ | refine Below.alloc ?_ (by first | omega | (simp; done) | (simp; omega)) _ | refine Below.drew ?_ | refine Below.setCell ?_ (by first | omega | (simp; done) | (simp; omega)) _ | refine Below.trans ?_ (Below.mono (by assumption) (by first | omega | (simp; done) | (simp; omega)))))
  have t10 : Below w.heap.size w w10 := t9.trans (j10.mono t9.size)
  replace hk := hk.below j10
  replace hd := hd.below j10
  replace hp := hp.below j10
  replace q0 := below_cell j10 q0
  replace q1 := below_cell j10 q1
  replace q2 := below_cell j10 q2
  replace q3 := below_cell j10 q3
  replace lB := Nat.lt_of_lt_of_le lB j10.size
  replace iD := iD.below j10
  replace iR := iR.below j10
  replace iW := iW.below j10
  replace kE := kE.below j10
  replace dE := dE.below j10
  replace iS := iS.below j10
  clear kE dE iS
  go_wp2_with fail
  go_at_call 25
  refine (same_eq aR plain cR ap cp _ iR hp (by omega)).mono ?_
  rintro e w11 ⟨rfl, b11⟩
  have j11 : Below w10.heap.size w10 w11 := by (repeat (first | exact Below.refl _ _ | refine Below.alloc ?_ (by first | omega | (simp; done) | (simp; omega)) _ | refine Below.drew ?_ | refine Below.setCell ?_ (by first | omega | (simp; done) | (simp; omega)) _ | refine Below.trans ?_ (Below.mono (by assumption) (by first | omega | (simp; done) | (simp; omega)))))
  have t11 : Below w.heap.size w w11 := t10.trans (j11.mono t10.size)
  replace hk := hk.below j11
  replace hd := hd.below j11
  replace hp := hp.below j11
  replace q0 := below_cell j11 q0
  replace q1 := below_cell j11 q1
  replace q2 := below_cell j11 q2
  replace q3 := below_cell j11 q3
  replace lB := Nat.lt_of_lt_of_le lB j11.size
  replace iD := iD.below j11
  replace iR := iR.below j11
  replace iW := iW.below j11
  replace iT := iT.below j11
  go_wp2_with fail
  go_at_call 25
  refine (same_eq aT D cT aD cD _ iT iD (by omega)).mono ?_
  rintro e w12 ⟨rfl, b12⟩
  have j12 : Below w11.heap.size w11 w12 := by (repeat (first | exact Below.refl _ _ | refine Below.alloc ?_ (by first | omega | (simp; done) | (simp; omega)) _ | refine Below.drew ?_ | refine Below.setCell ?_ (by first | omega | (simp; done) | (simp; omega)) _ | refine Below.trans ?_ (Below.mono (by assumption) (by first | omega | (simp; done) | (simp; omega)))))
  have t12 : Below w.heap.size w w12 := t11.trans (j12.mono t11.size)
  replace hk := hk.below j12
  replace hd := hd.below j12
  replace hp := hp.below j12
  replace q0 := below_cell j12 q0
  replace q1 := below_cell j12 q1
  replace q2 := below_cell j12 q2
  replace q3 := below_cell j12 q3
  replace lB := Nat.lt_of_lt_of_le lB j12.size
  replace iD := iD.below j12
  replace iR := iR.below j12
  replace iW := iW.below j12
  replace iT := iT.below j12
  clear iR iT iD
  go_wp2
  go_loopw [15, 16] (fun v i wr => ∃ (k : Nat) (a' : Option Addr) (c' : Nat), k ≤ plain.length ∧ i = .int .i64 k ∧ v = .slice a' (keptB wo (plain.take k)).length c' ∧ OwnL 3 1 w12.heap.size wr a' c' (keptB wo (plain.take k)).length ((keptB wo (plain.take k)).map (Value.int .i64)) ∧ Below w12.heap.size w12 wr) (fun _ i _ => plain.length - (intOf i).toNat)
  case atStart => exact ⟨0, none, 0, Nat.zero_le _, rfl, rfl, OwnL.nil _ _ _ _, Below.refl _ _⟩
  case round =>
    obtain ⟨k, a', c', hkk, rfl, rfl, hown, hbr⟩ := hrel
    have hzr := hbr.size
    have hkl2 : (keptB wo (plain.take k)).length ≤ (plain.take k).length := List.length_filter_le _ _
    rw [List.length_take] at hkl2
    by_cases hlt : k < plain.length
    · obtain ⟨b, off, rfl, hbl, hc⟩ := (hp.below hbr) k hlt
      have hc' : wr.cell? ⟨b, off + k, none⟩ = some (.int .i64 plain[k]) := hc.trans (by simp [hlt])
      have p1 := below_cell hbr q1
      have lp := cell_lt p1
      simp only at lp
      have hltI : (k : Int) < (plain.length : Int) := by omega
      have hnx : keptB wo (plain.take (k + 1)) = keptB wo (plain.take k) ++ if decide (wo ≤ plain[k]) then [] else [plain[k]] := by
        rw [List.take_succ_eq_append_getElem hlt]; unfold keptB; rw [kept_snoc]
      obtain ⟨x, hx⟩ : ∃ x, plain[k] = x := ⟨_, rfl⟩
      obtain ⟨L, hL⟩ : ∃ L, keptB wo (plain.take k) = L := ⟨_, rfl⟩
      rw [hx, hL] at hnx
      rw [hx] at hc'
      rw [hL] at hown hkl2 ⊢
      have Hnx := Lib.hid hnx
      clear hc hx hL hnx
      by_cases hw : x < wo
      · have tw : decide (x < wo) = true := by simpa using hw
        go_wp2
        (refine wp_region_ext 7 (by kernel_rfl) (by kernel_rfl) ?_; simp only [List.take_succ_cons, List.take_zero, List.drop_succ_cons, List.drop_zero]; (repeat (go_big_quiet_step ((fail)))); refine wpQuiet_nil ?_; rintro _ ⟨ex, rfl⟩; have hex := ex.below; have hexz := ex.size; (try simp at hexz); (try (have hy0 : w.heap.size < ex.to.heap.size := by omega)); (try (have hy1 : w.heap.size + 1 < ex.to.heap.size := by omega)); (try (have hy2 : w.heap.size + 2 < ex.to.heap.size := by omega)))
        obtain ⟨w4, hw4e⟩ : ∃ x : World, x = ex.to := ⟨_, rfl⟩
        rw [← hw4e] at hex hexz ⊢
        clear hw4e
        replace hc' := below_cell hex hc'
        have hl4 := cell_lt hc'
        simp only at hl4
        have hown' := hown.kept hex
        clear hown p1
        go_wp2_with (at_builtin; refine wpList_app_lit elInt rfl _ _ rfl w12.heap.size a' L.length c' _ rfl hown' 1 1 rfl rfl (fun u hu => ?c1) ?c2 ?c3 ?c4 ?_)
        case c1 => simp at hu; subst hu; rfl
        case c2 => unfold maxLen; omega
        case c3 => omega
        case c4 => omega
        intro a6 c6 w6 hown6 hb6
        go_wp2
        go_roundw
        case rel => exact ⟨k + 1, a6, c6, by omega, by go_num, by rw [Hnx.out, if_neg (by simp; omega)]; simp, by rw [Hnx.out, if_neg (by simp; omega)]; simpa using hown6, (hbr.trans (hex.mono (by omega))).trans hb6⟩
        case measure => simp [intOf]; omega
      · have tw : decide (x < wo) = false := by simpa using hw
        go_wp2
        (refine wp_region_ext 7 (by kernel_rfl) (by kernel_rfl) ?_; simp only [List.take_succ_cons, List.take_zero, List.drop_succ_cons, List.drop_zero]; (repeat (go_big_quiet_step ((fail)))); refine wpQuiet_nil ?_; rintro _ ⟨ex, rfl⟩; have hex := ex.below; have hexz := ex.size; (try simp at hexz); (try (have hy0 : w.heap.size < ex.to.heap.size := by omega)); (try (have hy1 : w.heap.size + 1 < ex.to.heap.size := by omega)); (try (have hy2 : w.heap.size + 2 < ex.to.heap.size := by omega)))
        go_wp2
        go_roundw
        case rel => exact ⟨k + 1, a', c', by omega, by go_num, by rw [Hnx.out, if_pos (by simp; omega), List.append_nil], by rw [Hnx.out, if_pos (by simp; omega), List.append_nil]; exact hown.kept hex, hbr.trans (hex.mono (by omega))⟩
        case measure => simp [intOf]; omega
    · obtain rfl : k = plain.length := by omega
      rw [List.take_length, HK.out] at hown hkl2 ⊢
      have iV := hown.ints.1
      have b13 := hbr
      obtain ⟨w13, hwq⟩ : ∃ x : World, x = wr := ⟨_, rfl⟩
      subst hwq
      have j13 : Below w12.heap.size w12 w13 := by (repeat (first | exact Below.refl _ _ | refine Below.alloc ?_ (by first | omega | (simp; done) | (simp; omega)) _ | refine Below.drew ?_ | refine Below.setCell ?_ (by first | omega | (simp; done) | (simp; omega)) _ | refine Below.trans ?_ (Below.mono (by assumption) (by first | omega | (simp; done) | (simp; omega)))))
      have t13 : Below w.heap.size w w13 := t12.trans (j13.mono t12.size)
      replace hk := hk.below j13
      replace hd := hd.below j13
      replace hp := hp.below j13
      replace q0 := below_cell j13 q0
      replace q1 := below_cell j13 q1
      replace q2 := below_cell j13 q2
      replace q3 := below_cell j13 q3
      replace lB := Nat.lt_of_lt_of_le lB j13.size
      replace iW := iW.below j13
      go_wp2_with fail
      go_at_call 25
      refine (same_eq aW K cW a' c' _ iW iV (by omega)).mono ?_
      rintro e w14 ⟨rfl, b14⟩
      have j14 : Below w13.heap.size w13 w14 := by (repeat (first | exact Below.refl _ _ | refine Below.alloc ?_ (by first | omega | (simp; done) | (simp; omega)) _ | refine Below.drew ?_ | refine Below.setCell ?_ (by first | omega | (simp; done) | (simp; omega)) _ | refine Below.trans ?_ (Below.mono (by assumption) (by first | omega | (simp; done) | (simp; omega)))))
      have t14 : Below w.heap.size w w14 := t13.trans (j14.mono t13.size)
      replace hk := hk.below j14
      replace hd := hd.below j14
      replace hp := hp.below j14
      replace q0 := below_cell j14 q0
      replace q1 := below_cell j14 q1
      replace q2 := below_cell j14 q2
      replace q3 := below_cell j14 q3
      replace lB := Nat.lt_of_lt_of_le lB j14.size
      replace iW := iW.below j14
      replace iV := iV.below j14
      go_wp2_with fail
      go_at_call 17
      refine (awake_any _).mono ?_
      rintro e w15 ⟨rfl, b15⟩
      have j15 : Below w14.heap.size w14 w15 := by (repeat (first | exact Below.refl _ _ | refine Below.alloc ?_ (by first | omega | (simp; done) | (simp; omega)) _ | refine Below.drew ?_ | refine Below.setCell ?_ (by first | omega | (simp; done) | (simp; omega)) _ | refine Below.trans ?_ (Below.mono (by assumption) (by first | omega | (simp; done) | (simp; omega)))))
      have t15 : Below w.heap.size w w15 := t14.trans (j15.mono t14.size)
      replace hk := hk.below j15
      replace hd := hd.below j15
      replace hp := hp.below j15
      replace q0 := below_cell j15 q0
      replace q1 := below_cell j15 q1
      replace q2 := below_cell j15 q2
      replace q3 := below_cell j15 q3
      replace lB := Nat.lt_of_lt_of_le lB j15.size
      replace iW := iW.below j15
      replace iV := iV.below j15
      go_wp2_with fail
      go_ret
      exact ⟨rfl, t15⟩

theorem back_walk (s wo : Int) (ak : Option Addr) (ks : List (Int × Int × Int)) (ck : Nat) (ad : Option Addr) (ds : List Int) (cd : Nat) (ap : Option Addr) (plain : List Int) (cp : Nat) (a : Int) (w : World) (hk : Recs3At w ak ks) (hd : IntsAt w ad ds) (nd : ad = none → cd = 0) (hp : IntsAt w ap plain) (np : ap = none → cp = 0) (ha : (Lit.int .u8 a).wf = true) :
    Calls Try.prog 6 #[.agg #[.int .i64 s, .int .i64 wo, .slice ak ks.length ck, .slice ad ds.length cd], .slice ap plain.length cp, .int .u8 a] w fun e w' => e = .returned (.bool true) ∧ Below w.heap.size w w' := by
  obtain ⟨a0, a1⟩ := u8_b ha
  obtain ⟨A, rfl⟩ := Int.eq_ofNat_of_zero_le a0
  cases hR : readyB s wo ks ds plain
  · exact back_a s wo ak ks ck ad ds cd ap plain cp A w hk hd nd hp np (by omega) hR
  · exact back_b s wo ak ks ck ad ds cd ap plain cp A w hk hd nd hp np (by omega) hR
end Go.Proofs.Ytmplgcefhpobgaa
