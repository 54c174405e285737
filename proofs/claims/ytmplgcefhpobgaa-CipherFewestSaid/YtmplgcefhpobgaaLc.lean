/- CipherExposes: the walk -/
import Derived.Test.YtmplgcefhpobgaaLa
import Derived.Test.YtmplgcefhpobgaaDh
namespace Go.Proofs.Ytmplgcefhpobgaa
set_option linter.unusedVariables false
set_option linter.unusedSimpArgs false
set_option linter.unnecessarySimpa false
open Go.RowKit Go.Flow

theorem exposed_at (s wo : Int) (ak : Option Addr) (ks : List (Int × Int × Int)) (ck : Nat) (ad : Option Addr) (ds : List Int) (cd : Nat) (al : Option Addr) (lost : List (Int × Int)) (cl : Nat) (O : List Int) (E : Int) (hO : Hid (expOut s wo ks ds lost = O)) (hE : Hid (lossErr s wo ks ds lost = E)) (w : World) (hk : Recs3At w ak ks) (hd : IntsAt w ad ds) (lk : ks.length ≤ 1000) (ld : ds.length ≤ 1000) (hl : Recs2At w al lost) (ll : lost.length ≤ 1000) :
    Calls Try.prog 29 #[.agg #[.int .i64 s, .int .i64 wo, .slice ak ks.length ck, .slice ad ds.length cd], .slice al lost.length cl] w fun e w' => (∃ a c, e = .returned (.tuple #[.slice a O.length c, .int .i64 E]) ∧ IntsAt w' a O) ∧ Below w.heap.size w w' := by
  rw [← hE.out, ← hO.out]
  exact (exposed_full s wo ak ks ck ad ds cd al lost cl w hk hd lk ld hl ll).mono fun _ _ ⟨⟨a, c, h1, h2⟩, h3⟩ => ⟨⟨a, c, h1, h2.ints.1⟩, h3⟩
theorem lossy_eq (s wo : Int) (ak : Option Addr) (ks : List (Int × Int × Int)) (ck : Nat) (ad : Option Addr) (ds : List Int) (cd : Nat) (al : Option Addr) (lost : List (Int × Int)) (cl : Nat) (E : Int) (hE : Hid (lossErr s wo ks ds lost = E)) (w : World) (hk : Recs3At w ak ks) (hd : IntsAt w ad ds) (lk : ks.length ≤ 1000) (ld : ds.length ≤ 1000) (hl : Recs2At w al lost) (ll : lost.length ≤ 1000) :
    Calls Try.prog 31 #[.agg #[.int .i64 s, .int .i64 wo, .slice ak ks.length ck, .slice ad ds.length cd], .slice al lost.length cl] w fun e w' => e = .returned (.int .i64 E) ∧ Below w.heap.size w w' := by
  rw [← hE.out]; exact lossy_any s wo ak ks ck ad ds cd al lost cl w hk hd lk ld hl ll
theorem expRes_len {ds : List Int} {lost : List (Int × Int)} : (expRes ds lost).length = ds.length := by unfold expRes; rw [upTo_len]

set_option maxRecDepth 100000 in
set_option maxHeartbeats 4000000 in
theorem exps_a1 (s wo : Int) (ak : Option Addr) (ks : List (Int × Int × Int)) (ck : Nat) (ad : Option Addr) (ds : List Int) (cd : Nat) (al : Option Addr) (lost : List (Int × Int)) (cl : Nat) (w : World) (hk : Recs3At w ak ks) (hd : IntsAt w ad ds) (nd : ad = none → cd = 0) (hl : Recs2At w al lost) (hT : (decide (ks.length ≤ 8) && decide (ds.length ≤ 11)) = false) :
    Calls Try.prog 5 #[.agg #[.int .i64 s, .int .i64 wo, .slice ak ks.length ck, .slice ad ds.length cd], .slice al lost.length cl] w fun e w' => e = .returned (.bool true) ∧ Below w.heap.size w w' := by

  have HT := Lib.hid hT
  clear hT
  go_enter Try.func5, Try.ntmps5
  go_wp2_with fail
  go_at_call 16
  refine (thin_eq s wo ak ks.length ck ad ds.length cd false HT _).mono ?_
  rintro e w1 ⟨rfl, b1⟩
  have t1 : Below w.heap.size w w1 := by (repeat (first | exact Below.refl _ _ | refine Below.alloc ?_ (by first | omega | (simp; done) | (simp; omega)) _ | refine Below.drew ?_ | refine Below.setCell ?_ (by first | omega | (simp; done) | (simp; omega)) _ | refine Below.trans ?_ (Below.mono (by assumption) (by first | omega | (simp; done) | (simp; omega)))))
  replace hk := hk.below t1
  replace hd := hd.below t1
  replace hl := hl.below t1
  obtain ⟨q0, q1, q2, q3⟩ := BookAt.of (b1.mono (by simp))
  have lB := cell_lt q0
  simp only at lB
  go_wp2_with fail
  go_at_call 17
  refine (awake_any _).mono ?_
  rintro e w2 ⟨rfl, b2⟩
  have j2 : Below w1.heap.size w1 w2 := by (repeat (first | exact Below.refl _ _ | refine Below.alloc ?_ (by first | omega | (simp; done) | (simp; omega)) _ | refine Below.drew ?_ | refine Below.setCell ?_ (by first | omega | (simp; done) | (simp; omega)) _ | refine Below.trans ?_ (Below.mono (by assumption) (by first | omega | (simp; done) | (simp; omega)))))
  have t2 : Below w.heap.size w w2 := t1.trans (j2.mono t1.size)
  replace hk := hk.below j2
  replace hd := hd.below j2
  replace hl := hl.below j2
  replace q0 := below_cell j2 q0
  replace q1 := below_cell j2 q1
  replace q2 := below_cell j2 q2
  replace q3 := below_cell j2 q3
  replace lB := Nat.lt_of_lt_of_le lB j2.size
  go_wp2_with fail
  go_ret
  exact ⟨rfl, t2⟩

set_option maxRecDepth 100000 in
set_option maxHeartbeats 4000000 in
theorem exps_a2 (s wo : Int) (ak : Option Addr) (ks : List (Int × Int × Int)) (ck : Nat) (ad : Option Addr) (ds : List Int) (cd : Nat) (al : Option Addr) (lost : List (Int × Int)) (cl : Nat) (w : World) (hk : Recs3At w ak ks) (hd : IntsAt w ad ds) (nd : ad = none → cd = 0) (hl : Recs2At w al lost) (hT : (decide (ks.length ≤ 8) && decide (ds.length ≤ 11)) = true) (h9 : 9 < (lost.length : Int)) :
    Calls Try.prog 5 #[.agg #[.int .i64 s, .int .i64 wo, .slice ak ks.length ck, .slice ad ds.length cd], .slice al lost.length cl] w fun e w' => e = .returned (.bool true) ∧ Below w.heap.size w w' := by

  have lk : ks.length ≤ 1000 := by simp at hT; omega
  have ld : ds.length ≤ 1000 := by simp at hT; omega
  have HT := Lib.hid hT
  clear hT
  go_enter Try.func5, Try.ntmps5
  go_wp2_with fail
  go_at_call 16
  refine (thin_eq s wo ak ks.length ck ad ds.length cd true HT _).mono ?_
  rintro e w1 ⟨rfl, b1⟩
  have t1 : Below w.heap.size w w1 := by (repeat (first | exact Below.refl _ _ | refine Below.alloc ?_ (by first | omega | (simp; done) | (simp; omega)) _ | refine Below.drew ?_ | refine Below.setCell ?_ (by first | omega | (simp; done) | (simp; omega)) _ | refine Below.trans ?_ (Below.mono (by assumption) (by first | omega | (simp; done) | (simp; omega)))))
  replace hk := hk.below t1
  replace hd := hd.below t1
  replace hl := hl.below t1
  obtain ⟨q0, q1, q2, q3⟩ := BookAt.of (b1.mono (by simp))
  have lB := cell_lt q0
  simp only at lB
  go_wp2_with fail
  go_at_call 17
  refine (awake_any _).mono ?_
  rintro e w2 ⟨rfl, b2⟩
  have j2 : Below w1.heap.size w1 w2 := by (repeat (first | exact Below.refl _ _ | refine Below.alloc ?_ (by first | omega | (simp; done) | (simp; omega)) _ | refine Below.drew ?_ | refine Below.setCell ?_ (by first | omega | (simp; done) | (simp; omega)) _ | refine Below.trans ?_ (Below.mono (by assumption) (by first | omega | (simp; done) | (simp; omega)))))
  have t2 : Below w.heap.size w w2 := t1.trans (j2.mono t1.size)
  replace hk := hk.below j2
  replace hd := hd.below j2
  replace hl := hl.below j2
  replace q0 := below_cell j2 q0
  replace q1 := below_cell j2 q1
  replace q2 := below_cell j2 q2
  replace q3 := below_cell j2 q3
  replace lB := Nat.lt_of_lt_of_le lB j2.size
  go_wp2_with fail
  go_ret
  exact ⟨rfl, t2⟩

set_option maxRecDepth 100000 in
set_option maxHeartbeats 4000000 in
theorem exps_b1 (s wo : Int) (ak : Option Addr) (ks : List (Int × Int × Int)) (ck : Nat) (ad : Option Addr) (ds : List Int) (cd : Nat) (al : Option Addr) (lost : List (Int × Int)) (cl : Nat) (w : World) (hk : Recs3At w ak ks) (hd : IntsAt w ad ds) (nd : ad = none → cd = 0) (hl : Recs2At w al lost) (hT : (decide (ks.length ≤ 8) && decide (ds.length ≤ 11)) = true) (h9 : (lost.length : Int) ≤ 9) (hb : lossErr s wo ks ds lost ≠ 0) :
    Calls Try.prog 5 #[.agg #[.int .i64 s, .int .i64 wo, .slice ak ks.length ck, .slice ad ds.length cd], .slice al lost.length cl] w fun e w' => e = .returned (.bool true) ∧ Below w.heap.size w w' := by

  have lk : ks.length ≤ 1000 := by simp at hT; omega
  have ld : ds.length ≤ 1000 := by simp at hT; omega
  have HT := Lib.hid hT
  clear hT
  have HO : Hid (expOut s wo ks ds lost = []) := Lib.hid (if_neg hb)
  obtain ⟨E, hX⟩ : ∃ E, lossErr s wo ks ds lost = E := ⟨_, rfl⟩
  rw [hX] at hb
  have HE := Lib.hid hX
  have hne : (E != 0) = true := by simpa using hb
  clear hX hb
  obtain ⟨O, hO⟩ : ∃ O : List Int, O = [] := ⟨_, rfl⟩
  rw [← hO] at HO
  have hOl : O.length = 0 := by rw [hO]; rfl
  clear hO
  go_enter Try.func5, Try.ntmps5
  go_wp2_with fail
  go_at_call 16
  refine (thin_eq s wo ak ks.length ck ad ds.length cd true HT _).mono ?_
  rintro e w1 ⟨rfl, b1⟩
  have t1 : Below w.heap.size w w1 := by (repeat (first | exact Below.refl _ _ | refine Below.alloc ?_ (by first | omega | (simp; done) | (simp; omega)) _ | refine Below.drew ?_ | refine Below.setCell ?_ (by first | omega | (simp; done) | (simp; omega)) _ | refine Below.trans ?_ (Below.mono (by assumption) (by first | omega | (simp; done) | (simp; omega)))))
  replace hk := hk.below t1
  replace hd := hd.below t1
  replace hl := hl.below t1
  obtain ⟨q0, q1, q2, q3⟩ := BookAt.of (b1.mono (by simp))
  have lB := cell_lt q0
  simp only at lB
  go_wp2_with fail
  go_at_call 19
  refine (bookConv_at s wo ak ks ck ad ds cd _ hk hd lk ld nd).mono ?_
  rintro e w2 ⟨⟨akA, ckA, adA, cdA, rfl, kA, dA⟩, b2⟩
  have j2 : Below w1.heap.size w1 w2 := by (repeat (first | exact Below.refl _ _ | refine Below.alloc ?_ (by first | omega | (simp; done) | (simp; omega)) _ | refine Below.drew ?_ | refine Below.setCell ?_ (by first | omega | (simp; done) | (simp; omega)) _ | refine Below.trans ?_ (Below.mono (by assumption) (by first | omega | (simp; done) | (simp; omega)))))
  have t2 : Below w.heap.size w w2 := t1.trans (j2.mono t1.size)
  replace hk := hk.below j2
  replace hd := hd.below j2
  replace hl := hl.below j2
  replace q0 := below_cell j2 q0
  replace q1 := below_cell j2 q1
  replace q2 := below_cell j2 q2
  replace q3 := below_cell j2 q3
  replace lB := Nat.lt_of_lt_of_le lB j2.size
  go_wp2_with fail
  go_at_call 30
  refine (lossesConv_at al lost cl _ hl (by omega)).mono ?_
  rintro e w3 ⟨⟨aP, cP, rfl, iP, _⟩, b3⟩
  have j3 : Below w2.heap.size w2 w3 := by (repeat (first | exact Below.refl _ _ | refine Below.alloc ?_ (by first | omega | (simp; done) | (simp; omega)) _ | refine Below.drew ?_ | refine Below.setCell ?_ (by first | omega | (simp; done) | (simp; omega)) _ | refine Below.trans ?_ (Below.mono (by assumption) (by first | omega | (simp; done) | (simp; omega)))))
  have t3 : Below w.heap.size w w3 := t2.trans (j3.mono t2.size)
  replace hk := hk.below j3
  replace hd := hd.below j3
  replace hl := hl.below j3
  replace q0 := below_cell j3 q0
  replace q1 := below_cell j3 q1
  replace q2 := below_cell j3 q2
  replace q3 := below_cell j3 q3
  replace lB := Nat.lt_of_lt_of_le lB j3.size
  replace kA := kA.below j3
  replace dA := dA.below j3
  go_wp2_with fail
  go_at_call 29
  refine (exposed_at s wo akA ks ckA adA ds cdA aP lost cP O E HO HE _ kA dA lk ld iP (by omega)).mono ?_
  rintro e w4 ⟨⟨aC, cC, rfl, iC⟩, b4⟩
  have j4 : Below w3.heap.size w3 w4 := by (repeat (first | exact Below.refl _ _ | refine Below.alloc ?_ (by first | omega | (simp; done) | (simp; omega)) _ | refine Below.drew ?_ | refine Below.setCell ?_ (by first | omega | (simp; done) | (simp; omega)) _ | refine Below.trans ?_ (Below.mono (by assumption) (by first | omega | (simp; done) | (simp; omega)))))
  have t4 : Below w.heap.size w w4 := t3.trans (j4.mono t3.size)
  replace hk := hk.below j4
  replace hd := hd.below j4
  replace hl := hl.below j4
  replace q0 := below_cell j4 q0
  replace q1 := below_cell j4 q1
  replace q2 := below_cell j4 q2
  replace q3 := below_cell j4 q3
  replace lB := Nat.lt_of_lt_of_le lB j4.size
  replace kA := kA.below j4
  replace dA := dA.below j4
  replace iP := iP.below j4
  clear kA dA iP
  go_wp2_with fail
  go_at_call 31
  refine (lossy_eq s wo ak ks ck ad ds cd al lost cl E HE _ hk hd lk ld hl (by omega)).mono ?_
  rintro e w5 ⟨rfl, b5⟩
  have j5 : Below w4.heap.size w4 w5 := by (repeat (first | exact Below.refl _ _ | refine Below.alloc ?_ (by first | omega | (simp; done) | (simp; omega)) _ | refine Below.drew ?_ | refine Below.setCell ?_ (by first | omega | (simp; done) | (simp; omega)) _ | refine Below.trans ?_ (Below.mono (by assumption) (by first | omega | (simp; done) | (simp; omega)))))
  have t5 : Below w.heap.size w w5 := t4.trans (j5.mono t4.size)
  replace hk := hk.below j5
  replace hd := hd.below j5
  replace hl := hl.below j5
  replace q0 := below_cell j5 q0
  replace q1 := below_cell j5 q1
  replace q2 := below_cell j5 q2
  replace q3 := below_cell j5 q3
  replace lB := Nat.lt_of_lt_of_le lB j5.size
  replace iC := iC.below j5
  go_wp2_with fail
  go_at_call 17
  refine (awake_any _).mono ?_
  rintro e w6 ⟨rfl, b6⟩
  have j6 : Below w5.heap.size w5 w6 := by (repeat (first | exact Below.refl _ _ | refine Below.alloc ?_ (by first | omega | (simp; done) | (simp; omega)) _ | refine Below.drew ?_ | refine Below.setCell ?_ (by first | omega | (simp; done) | (simp; omega)) _ | refine Below.trans ?_ (Below.mono (by assumption) (by first | omega | (simp; done) | (simp; omega)))))
  have t6 : Below w.heap.size w w6 := t5.trans (j6.mono t5.size)
  replace hk := hk.below j6
  replace hd := hd.below j6
  replace hl := hl.below j6
  replace q0 := below_cell j6 q0
  replace q1 := below_cell j6 q1
  replace q2 := below_cell j6 q2
  replace q3 := below_cell j6 q3
  replace lB := Nat.lt_of_lt_of_le lB j6.size
  replace iC := iC.below j6
  go_wp2_with fail
  go_ret
  exact ⟨rfl, t6⟩

set_option maxRecDepth 100000 in
set_option maxHeartbeats 4000000 in
theorem exps_b2 (s wo : Int) (ak : Option Addr) (ks : List (Int × Int × Int)) (ck : Nat) (ad : Option Addr) (ds : List Int) (cd : Nat) (al : Option Addr) (lost : List (Int × Int)) (cl : Nat) (w : World) (hk : Recs3At w ak ks) (hd : IntsAt w ad ds) (nd : ad = none → cd = 0) (hl : Recs2At w al lost) (hT : (decide (ks.length ≤ 8) && decide (ds.length ≤ 11)) = true) (h9 : (lost.length : Int) ≤ 9) (hb : lossErr s wo ks ds lost = 0) :
    Calls Try.prog 5 #[.agg #[.int .i64 s, .int .i64 wo, .slice ak ks.length ck, .slice ad ds.length cd], .slice al lost.length cl] w fun e w' => e = .returned (.bool true) ∧ Below w.heap.size w w' := by

  have lk : ks.length ≤ 1000 := by simp at hT; omega
  have ld : ds.length ≤ 1000 := by simp at hT; omega
  have HT := Lib.hid hT
  clear hT
  have HO : Hid (expOut s wo ks ds lost = expRes ds lost) := Lib.hid (if_pos hb)
  have HE := Lib.hid hb
  have HL : Hid ((expRes ds lost).length ≤ 1000000) := Lib.hid (by rw [expRes_len]; omega)
  clear hb
  go_enter Try.func5, Try.ntmps5
  go_wp2_with fail
  go_at_call 16
  refine (thin_eq s wo ak ks.length ck ad ds.length cd true HT _).mono ?_
  rintro e w1 ⟨rfl, b1⟩
  have t1 : Below w.heap.size w w1 := by (repeat (first | exact Below.refl _ _ | refine Below.alloc ?_ (by first | omega | (simp; done) | (simp; omega)) _ | refine Below.drew ?_ | refine Below.setCell ?_ (by first | omega | (simp; done) | (simp; omega)) _ | refine Below.trans ?_ (Below.mono (by assumption) (by first | omega | (simp; done) | (simp; omega)))))
  replace hk := hk.below t1
  replace hd := hd.below t1
  replace hl := hl.below t1
  obtain ⟨q0, q1, q2, q3⟩ := BookAt.of (b1.mono (by simp))
  have lB := cell_lt q0
  simp only at lB
  go_wp2_with fail
  go_at_call 19
  refine (bookConv_at s wo ak ks ck ad ds cd _ hk hd lk ld nd).mono ?_
  rintro e w2 ⟨⟨akA, ckA, adA, cdA, rfl, kA, dA⟩, b2⟩
  have j2 : Below w1.heap.size w1 w2 := by (repeat (first | exact Below.refl _ _ | refine Below.alloc ?_ (by first | omega | (simp; done) | (simp; omega)) _ | refine Below.drew ?_ | refine Below.setCell ?_ (by first | omega | (simp; done) | (simp; omega)) _ | refine Below.trans ?_ (Below.mono (by assumption) (by first | omega | (simp; done) | (simp; omega)))))
  have t2 : Below w.heap.size w w2 := t1.trans (j2.mono t1.size)
  replace hk := hk.below j2
  replace hd := hd.below j2
  replace hl := hl.below j2
  replace q0 := below_cell j2 q0
  replace q1 := below_cell j2 q1
  replace q2 := below_cell j2 q2
  replace q3 := below_cell j2 q3
  replace lB := Nat.lt_of_lt_of_le lB j2.size
  go_wp2_with fail
  go_at_call 30
  refine (lossesConv_at al lost cl _ hl (by omega)).mono ?_
  rintro e w3 ⟨⟨aP, cP, rfl, iP, _⟩, b3⟩
  have j3 : Below w2.heap.size w2 w3 := by (repeat (first | exact Below.refl _ _ | refine Below.alloc ?_ (by first | omega | (simp; done) | (simp; omega)) _ | refine Below.drew ?_ | refine Below.setCell ?_ (by first | omega | (simp; done) | (simp; omega)) _ | refine Below.trans ?_ (Below.mono (by assumption) (by first | omega | (simp; done) | (simp; omega)))))
  have t3 : Below w.heap.size w w3 := t2.trans (j3.mono t2.size)
  replace hk := hk.below j3
  replace hd := hd.below j3
  replace hl := hl.below j3
  replace q0 := below_cell j3 q0
  replace q1 := below_cell j3 q1
  replace q2 := below_cell j3 q2
  replace q3 := below_cell j3 q3
  replace lB := Nat.lt_of_lt_of_le lB j3.size
  replace kA := kA.below j3
  replace dA := dA.below j3
  go_wp2_with fail
  go_at_call 29
  refine (exposed_at s wo akA ks ckA adA ds cdA aP lost cP (expRes ds lost) 0 HO HE _ kA dA lk ld iP (by omega)).mono ?_
  rintro e w4 ⟨⟨aC, cC, rfl, iC⟩, b4⟩
  have j4 : Below w3.heap.size w3 w4 := by (repeat (first | exact Below.refl _ _ | refine Below.alloc ?_ (by first | omega | (simp; done) | (simp; omega)) _ | refine Below.drew ?_ | refine Below.setCell ?_ (by first | omega | (simp; done) | (simp; omega)) _ | refine Below.trans ?_ (Below.mono (by assumption) (by first | omega | (simp; done) | (simp; omega)))))
  have t4 : Below w.heap.size w w4 := t3.trans (j4.mono t3.size)
  replace hk := hk.below j4
  replace hd := hd.below j4
  replace hl := hl.below j4
  replace q0 := below_cell j4 q0
  replace q1 := below_cell j4 q1
  replace q2 := below_cell j4 q2
  replace q3 := below_cell j4 q3
  replace lB := Nat.lt_of_lt_of_le lB j4.size
  replace kA := kA.below j4
  replace dA := dA.below j4
  replace iP := iP.below j4
  clear kA dA iP
  go_wp2_with fail
  go_at_call 31
  refine (lossy_eq s wo ak ks ck ad ds cd al lost cl 0 HE _ hk hd lk ld hl (by omega)).mono ?_
  rintro e w5 ⟨rfl, b5⟩
  have j5 : Below w4.heap.size w4 w5 := by (repeat (first | exact Below.refl _ _ | refine Below.alloc ?_ (by first | omega | (simp; done) | (simp; omega)) _ | refine Below.drew ?_ | refine Below.setCell ?_ (by first | omega | (simp; done) | (simp; omega)) _ | refine Below.trans ?_ (Below.mono (by assumption) (by first | omega | (simp; done) | (simp; omega)))))
  have t5 : Below w.heap.size w w5 := t4.trans (j5.mono t4.size)
  replace hk := hk.below j5
  replace hd := hd.below j5
  replace hl := hl.below j5
  replace q0 := below_cell j5 q0
  replace q1 := below_cell j5 q1
  replace q2 := below_cell j5 q2
  replace q3 := below_cell j5 q3
  replace lB := Nat.lt_of_lt_of_le lB j5.size
  replace iC := iC.below j5
  go_wp2_with fail
  go_at_call 32
  refine (refExposed_any s wo ak ks ck ad ds cd al lost cl _ hk hd lk ld hl (by omega) HE.out).mono ?_
  rintro e w6 ⟨⟨aR, cR, rfl, iR⟩, b6⟩
  have j6 : Below w5.heap.size w5 w6 := by (repeat (first | exact Below.refl _ _ | refine Below.alloc ?_ (by first | omega | (simp; done) | (simp; omega)) _ | refine Below.drew ?_ | refine Below.setCell ?_ (by first | omega | (simp; done) | (simp; omega)) _ | refine Below.trans ?_ (Below.mono (by assumption) (by first | omega | (simp; done) | (simp; omega)))))
  have t6 : Below w.heap.size w w6 := t5.trans (j6.mono t5.size)
  replace hk := hk.below j6
  replace hd := hd.below j6
  replace hl := hl.below j6
  replace q0 := below_cell j6 q0
  replace q1 := below_cell j6 q1
  replace q2 := below_cell j6 q2
  replace q3 := below_cell j6 q3
  replace lB := Nat.lt_of_lt_of_le lB j6.size
  replace iC := iC.below j6
  go_wp2_with fail
  go_at_call 25
  refine (same_eq aC (expRes ds lost) cC aR cR _ iC iR HL.out).mono ?_
  rintro e w7 ⟨rfl, b7⟩
  have j7 : Below w6.heap.size w6 w7 := by (repeat (first | exact Below.refl _ _ | refine Below.alloc ?_ (by first | omega | (simp; done) | (simp; omega)) _ | refine Below.drew ?_ | refine Below.setCell ?_ (by first | omega | (simp; done) | (simp; omega)) _ | refine Below.trans ?_ (Below.mono (by assumption) (by first | omega | (simp; done) | (simp; omega)))))
  have t7 : Below w.heap.size w w7 := t6.trans (j7.mono t6.size)
  replace hk := hk.below j7
  replace hd := hd.below j7
  replace hl := hl.below j7
  replace q0 := below_cell j7 q0
  replace q1 := below_cell j7 q1
  replace q2 := below_cell j7 q2
  replace q3 := below_cell j7 q3
  replace lB := Nat.lt_of_lt_of_le lB j7.size
  replace iC := iC.below j7
  replace iR := iR.below j7
  go_wp2_with fail
  go_at_call 17
  refine (awake_any _).mono ?_
  rintro e w8 ⟨rfl, b8⟩
  have j8 : Below w7.heap.size w7 w8 := by (repeat (first | exact Below.refl _ _ | refine Below.alloc ?_ (by first | omega | (simp; done) | (simp; omega)) _ | refine Below.drew ?_ | refine Below.setCell ?_ (by first | omega | (simp; done) | (simp; omega)) _ | refine Below.trans ?_ (Below.mono (by assumption) (by first | omega | (simp; done) | (simp; omega)))))
  have t8 : Below w.heap.size w w8 := t7.trans (j8.mono t7.size)
  replace hk := hk.below j8
  replace hd := hd.below j8
  replace hl := hl.below j8
  replace q0 := below_cell j8 q0
  replace q1 := below_cell j8 q1
  replace q2 := below_cell j8 q2
  replace q3 := below_cell j8 q3
  replace lB := Nat.lt_of_lt_of_le lB j8.size
  replace iC := iC.below j8
  replace iR := iR.below j8
  go_wp2_with fail
  go_ret
  exact ⟨rfl, t8⟩

theorem exposes_walk (s wo : Int) (ak : Option Addr) (ks : List (Int × Int × Int)) (ck : Nat) (ad : Option Addr) (ds : List Int) (cd : Nat) (al : Option Addr) (lost : List (Int × Int)) (cl : Nat) (w : World) (hk : Recs3At w ak ks) (hd : IntsAt w ad ds) (nd : ad = none → cd = 0) (hl : Recs2At w al lost) (_ : al = none → cl = 0) :
    Calls Try.prog 5 #[.agg #[.int .i64 s, .int .i64 wo, .slice ak ks.length ck, .slice ad ds.length cd], .slice al lost.length cl] w fun e w' => e = .returned (.bool true) ∧ Below w.heap.size w w' := by
  cases hT : (decide (ks.length ≤ 8) && decide (ds.length ≤ 11))
  · exact exps_a1 s wo ak ks ck ad ds cd al lost cl w hk hd nd hl hT
  · by_cases h9 : 9 < (lost.length : Int)
    · exact exps_a2 s wo ak ks ck ad ds cd al lost cl w hk hd nd hl hT h9
    · by_cases hb : lossErr s wo ks ds lost = 0
      · exact exps_b2 s wo ak ks ck ad ds cd al lost cl w hk hd nd hl hT (by omega) hb
      · exact exps_b1 s wo ak ks ck ad ds cd al lost cl w hk hd nd hl hT (by omega) hb
end Go.Proofs.Ytmplgcefhpobgaa
