/- PaySettles: the walk -/
import Derived.Test.YtomjlmhnjgohdaaBv
namespace Go.Proofs.Ytomjlmhnjgohdaa
set_option linter.unusedVariables false
set_option linter.unusedSimpArgs false
set_option linter.unnecessarySimpa false
open Go.RowKit Go.Flow Go.Shelf

theorem none_nil {w : World} {a : Option Addr} {l : List Int} {c : Nat} (hx : IntsAt w a l) (nx : a = none → c = 0) : a = none → l = [] ∧ c = 0 := fun h => by
  refine ⟨?_, nx h⟩
  rcases Nat.eq_zero_or_pos l.length with h0 | h0
  · exact List.eq_nil_of_length_eq_zero h0
  · obtain ⟨b, off, e, _⟩ := hx 0 h0
    rw [h] at e; cases e
section
variable (a : Option Addr) (l : List Int) (c : Nat) (w : World)
theorem settleBad_eq (E : Int) (HE : Hid (balsErr l = E)) (hne : E ≠ 0) (hx : IntsAt w a l) (hl : l.length ≤ 1000) : Calls Try.prog 31 #[.slice a l.length c] w fun e w' => e = .returned (.tuple #[.slice none 0 0, .int .i64 E]) ∧ Below w.heap.size w w' :=
  Settle_bad a l c w hx hl E HE.out hne
theorem settle_eq (S : List (Int × Int × Int)) (H0 : Hid (balsErr l = 0)) (HS : Hid (settleL l = S)) (hx : IntsAt w a l) (nx : a = none → c = 0) : Calls Try.prog 31 #[.slice a l.length c] w fun e w' => (∃ ao co, e = .returned (.tuple #[.slice ao S.length co, .int .i64 0]) ∧ Recs3At w' ao S) ∧ Below w.heap.size w w' := by
  rw [← HS.out]
  exact Settle_good a l c (none_nil hx nx) w hx H0.out
theorem prove_eq (P : Bool) (ap : Option Addr) (ps : List (Int × Int × Int)) (cp : Nat) (many : Int) (HP : Hid (proveF l ps many = P)) (hx : IntsAt w a l) (nx : a = none → c = 0) (hl : l.length ≤ 1000) (hp : Recs3At w ap ps) (hpl : ps.length ≤ 1000) : Calls Try.prog 32 #[.slice a l.length c, .slice ap ps.length cp, .int .i64 many] w fun e w' => e = .returned (.bool P) ∧ Below w.heap.size w w' := by
  rw [← HP.out]
  exact ProveSettled_any a l c (none_nil hx nx) ap ps cp many w hx hl hp hpl
theorem rBals_eq (E : Int) (HE : Hid (balsErr l = E)) (hx : IntsAt w a l) (hl : l.length ≤ 1000) : Calls Try.prog 34 #[.slice a l.length c] w fun e w' => e = .returned (.int .i64 E) ∧ w = w' := by
  rw [← HE.out]
  exact rBals_any a l c w hx hl
theorem rSettles_eq (Q : Bool) (ap : Option Addr) (ps : List (Int × Int × Int)) (cp : Nat) (H0 : Hid (balsErr l = 0)) (HQ : Hid (settlesF l.length l ps = Q)) (hx : IntsAt w a l) (hp : Recs3At w ap ps) (hpl : ps.length ≤ 1000) : Calls Try.prog 35 #[.slice a l.length c, .slice ap ps.length cp] w fun e w' => e = .returned (.bool Q) ∧ Below w.heap.size w w' := by
  rw [← HQ.out]
  exact rSettles_any ap ps cp w hp hpl a l c hx H0.out
theorem rFewest_eq (n : Nat) (H0 : Hid (balsErr l = 0)) (Hn : Hid ((settleL l).length = n)) (hx : IntsAt w a l) : Calls Try.prog 36 #[.slice a l.length c] w fun e w' => e = .returned (.int .i64 (n : Int)) ∧ Below w.heap.size w w' := by
  rw [← Hn.out]
  exact rFewest_any a l c w hx H0.out
theorem rBest_eq (n : Nat) (H0 : Hid (balsErr l = 0)) (Hn : Hid ((grpL l).length = n)) (hx : IntsAt w a l) : Calls Try.prog 49 #[.slice a l.length c] w fun e w' => e = .returned (.int .i64 (n : Int)) ∧ Below w.heap.size w w' := by
  rw [← Hn.out]
  exact rBest_any a l c w hx H0.out
end

set_option maxRecDepth 100000 in
set_option maxHeartbeats 8000000 in
theorem settles_a1 (a : Option Addr) (l : List Int) (c : Nat) (ap : Option Addr) (ps : List (Int × Int × Int)) (cp : Nat) (many : Int) (w : World) (hx : IntsAt w a l) (nx : a = none → c = 0) (lc : l.length ≤ c) (mc : c ≤ maxLen) (hp : Recs3At w ap ps) (np : ap = none → cp = 0) (lp : ps.length ≤ cp) (mp : cp ≤ maxLen) (h9 : ¬ l.length ≤ 9) :
    Calls Try.prog 5 #[.slice a l.length c, .slice ap ps.length cp, .int .i64 many] w fun e w' => e = .returned (.bool true) ∧ Below w.heap.size w w' := by
  unfold maxLen at mc mp
  have q1 : l.length ≤ 9223372036854775807 := by omega
  have q2 : ps.length ≤ 9223372036854775807 := by omega
  have h9d : decide ((9 : Int) < (l.length : Int)) = true := by simp; omega
  clear lc mc lp mp
  go_enter Try.func5, Try.ntmps5
  go_wp2_with fail
  go_at_call 17
  refine (awake_any _).mono ?_
  rintro e w1 ⟨rfl, b1⟩
  have t1 : Below w.heap.size w w1 := by (repeat (first | exact Below.refl _ _ | refine Below.alloc ?_ (by first | omega | (simp; done) | (simp; omega)) _ | refine Below.drew ?_ | refine Below.setCell ?_ (by first | omega | (simp; done) | (simp; omega)) _ | refine Below.trans ?_ (Below.mono (by assumption) (by first | omega | (simp; done) | (simp; omega)))))
  replace hx := hx.below t1
  replace hp := hp.below t1
  go_wp2_with fail
  go_ret
  exact ⟨rfl, t1⟩
set_option maxRecDepth 100000 in
set_option maxHeartbeats 8000000 in
theorem settles_a2 (a : Option Addr) (l : List Int) (c : Nat) (ap : Option Addr) (ps : List (Int × Int × Int)) (cp : Nat) (many : Int) (w : World) (hx : IntsAt w a l) (nx : a = none → c = 0) (lc : l.length ≤ c) (mc : c ≤ maxLen) (hp : Recs3At w ap ps) (np : ap = none → cp = 0) (lp : ps.length ≤ cp) (mp : cp ≤ maxLen) (h9 : l.length ≤ 9) (h12 : ¬ ps.length ≤ 12) :
    Calls Try.prog 5 #[.slice a l.length c, .slice ap ps.length cp, .int .i64 many] w fun e w' => e = .returned (.bool true) ∧ Below w.heap.size w w' := by
  unfold maxLen at mc mp
  have q1 : l.length ≤ 9223372036854775807 := by omega
  have q2 : ps.length ≤ 9223372036854775807 := by omega
  have h9d : decide ((9 : Int) < (l.length : Int)) = false := by simp; omega
  have h12d : decide ((12 : Int) < (ps.length : Int)) = true := by simp; omega
  clear lc mc lp mp
  go_enter Try.func5, Try.ntmps5
  go_wp2_with fail
  go_at_call 17
  refine (awake_any _).mono ?_
  rintro e w1 ⟨rfl, b1⟩
  have t1 : Below w.heap.size w w1 := by (repeat (first | exact Below.refl _ _ | refine Below.alloc ?_ (by first | omega | (simp; done) | (simp; omega)) _ | refine Below.drew ?_ | refine Below.setCell ?_ (by first | omega | (simp; done) | (simp; omega)) _ | refine Below.trans ?_ (Below.mono (by assumption) (by first | omega | (simp; done) | (simp; omega)))))
  replace hx := hx.below t1
  replace hp := hp.below t1
  go_wp2_with fail
  go_ret
  exact ⟨rfl, t1⟩
set_option maxRecDepth 100000 in
set_option maxHeartbeats 8000000 in
theorem settles_b (a : Option Addr) (l : List Int) (c : Nat) (ap : Option Addr) (ps : List (Int × Int × Int)) (cp : Nat) (many : Int) (w : World) (hx : IntsAt w a l) (nx : a = none → c = 0) (lc : l.length ≤ c) (mc : c ≤ maxLen) (hp : Recs3At w ap ps) (np : ap = none → cp = 0) (lp : ps.length ≤ cp) (mp : cp ≤ maxLen) (h9 : l.length ≤ 9) (h12 : ps.length ≤ 12) (E : Int) (hE : balsErr l = E) (hne : E ≠ 0) :
    Calls Try.prog 5 #[.slice a l.length c, .slice ap ps.length cp, .int .i64 many] w fun e w' => e = .returned (.bool true) ∧ Below w.heap.size w w' := by
  have h9d : decide ((9 : Int) < (l.length : Int)) = false := by simp; omega
  have h12d : decide ((12 : Int) < (ps.length : Int)) = false := by simp; omega
  have hl : l.length ≤ 1000 := by omega
  have hpl : ps.length ≤ 1000 := by omega
  clear lc mc lp mp
  have HP : Hid (proveF l ps many = false) := Lib.hid (by rw [proveF, hE]; simp [hne])
  have HE := Lib.hid hE
  have hne1 : (E != 0) = true := by simpa using hne
  have hne2 : (E == 0) = false := by simpa using hne
  clear hE h9 h12
  go_enter Try.func5, Try.ntmps5
  go_wp2_with fail
  go_at_call 22
  refine (list_eq _ a l c hx hl nx).mono ?_
  rintro e w1 ⟨⟨aA, cA, rfl, iA, nA⟩, b1⟩
  have t1 : Below w.heap.size w w1 := by (repeat (first | exact Below.refl _ _ | refine Below.alloc ?_ (by first | omega | (simp; done) | (simp; omega)) _ | refine Below.drew ?_ | refine Below.setCell ?_ (by first | omega | (simp; done) | (simp; omega)) _ | refine Below.trans ?_ (Below.mono (by assumption) (by first | omega | (simp; done) | (simp; omega)))))
  replace hx := hx.below t1
  replace hp := hp.below t1
  go_wp2_with fail
  go_at_call 31
  refine (settleBad_eq aA l cA _ E HE hne iA hl).mono ?_
  rintro e w2 ⟨rfl, b2⟩
  have j2 : Below w1.heap.size w1 w2 := by (repeat (first | exact Below.refl _ _ | refine Below.alloc ?_ (by first | omega | (simp; done) | (simp; omega)) _ | refine Below.drew ?_ | refine Below.setCell ?_ (by first | omega | (simp; done) | (simp; omega)) _ | refine Below.trans ?_ (Below.mono (by assumption) (by first | omega | (simp; done) | (simp; omega)))))
  have t2 : Below w.heap.size w w2 := t1.trans (j2.mono t1.size)
  replace hx := hx.below j2
  replace hp := hp.below j2
  replace iA := iA.below j2
  clear iA
  go_wp2_with fail
  go_at_call 22
  refine (list_eq _ a l c hx hl nx).mono ?_
  rintro e w3 ⟨⟨aB, cB, rfl, iB, nB⟩, b3⟩
  have j3 : Below w2.heap.size w2 w3 := by (repeat (first | exact Below.refl _ _ | refine Below.alloc ?_ (by first | omega | (simp; done) | (simp; omega)) _ | refine Below.drew ?_ | refine Below.setCell ?_ (by first | omega | (simp; done) | (simp; omega)) _ | refine Below.trans ?_ (Below.mono (by assumption) (by first | omega | (simp; done) | (simp; omega)))))
  have t3 : Below w.heap.size w w3 := t2.trans (j3.mono t2.size)
  replace hx := hx.below j3
  replace hp := hp.below j3
  go_wp2_with fail
  go_at_call 33
  refine (payments_any ap ps cp _ hp hpl).mono ?_
  rintro e w4 ⟨⟨aP, cP, rfl, iP⟩, b4⟩
  have j4 : Below w3.heap.size w3 w4 := by (repeat (first | exact Below.refl _ _ | refine Below.alloc ?_ (by first | omega | (simp; done) | (simp; omega)) _ | refine Below.drew ?_ | refine Below.setCell ?_ (by first | omega | (simp; done) | (simp; omega)) _ | refine Below.trans ?_ (Below.mono (by assumption) (by first | omega | (simp; done) | (simp; omega)))))
  have t4 : Below w.heap.size w w4 := t3.trans (j4.mono t3.size)
  replace hx := hx.below j4
  replace hp := hp.below j4
  replace iB := iB.below j4
  go_wp2_with fail
  go_at_call 32
  refine (prove_eq aB l cB _ false aP ps cP many HP iB nB hl iP hpl).mono ?_
  rintro e w5 ⟨rfl, b5⟩
  have j5 : Below w4.heap.size w4 w5 := by (repeat (first | exact Below.refl _ _ | refine Below.alloc ?_ (by first | omega | (simp; done) | (simp; omega)) _ | refine Below.drew ?_ | refine Below.setCell ?_ (by first | omega | (simp; done) | (simp; omega)) _ | refine Below.trans ?_ (Below.mono (by assumption) (by first | omega | (simp; done) | (simp; omega)))))
  have t5 : Below w.heap.size w w5 := t4.trans (j5.mono t4.size)
  replace hx := hx.below j5
  replace hp := hp.below j5
  replace iB := iB.below j5
  replace iP := iP.below j5
  clear iB iP
  go_wp2_with fail
  go_at_call 34
  refine (rBals_eq a l c _ E HE hx hl).mono ?_
  rintro e _ ⟨rfl, rfl⟩
  go_wp2_with fail
  go_at_call 17
  refine (awake_any _).mono ?_
  rintro e w6 ⟨rfl, b6⟩
  have j6 : Below w5.heap.size w5 w6 := by (repeat (first | exact Below.refl _ _ | refine Below.alloc ?_ (by first | omega | (simp; done) | (simp; omega)) _ | refine Below.drew ?_ | refine Below.setCell ?_ (by first | omega | (simp; done) | (simp; omega)) _ | refine Below.trans ?_ (Below.mono (by assumption) (by first | omega | (simp; done) | (simp; omega)))))
  have t6 : Below w.heap.size w w6 := t5.trans (j6.mono t5.size)
  replace hx := hx.below j6
  replace hp := hp.below j6
  go_wp2_with fail
  go_ret
  exact ⟨rfl, t6⟩
set_option maxRecDepth 100000 in
set_option maxHeartbeats 8000000 in
theorem settles_c (a : Option Addr) (l : List Int) (c : Nat) (ap : Option Addr) (ps : List (Int × Int × Int)) (cp : Nat) (many : Int) (w : World) (hx : IntsAt w a l) (nx : a = none → c = 0) (lc : l.length ≤ c) (mc : c ≤ maxLen) (hp : Recs3At w ap ps) (np : ap = none → cp = 0) (lp : ps.length ≤ cp) (mp : cp ≤ maxLen) (h9 : l.length ≤ 9) (h12 : ps.length ≤ 12) (h0 : balsErr l = 0) (hq : settlesF l.length l ps = false) :
    Calls Try.prog 5 #[.slice a l.length c, .slice ap ps.length cp, .int .i64 many] w fun e w' => e = .returned (.bool true) ∧ Below w.heap.size w w' := by
  have h9d : decide ((9 : Int) < (l.length : Int)) = false := by simp; omega
  have h12d : decide ((12 : Int) < (ps.length : Int)) = false := by simp; omega
  have hl : l.length ≤ 1000 := by omega
  have hpl : ps.length ≤ 1000 := by omega
  clear lc mc lp mp
  obtain ⟨hl7, hne, hd, hz⟩ := balsErr_ok h0
  have hok := settleL_ok (l := l) (by omega) hz (debts hd)
  have hcb := cntP_bound (nzB l) l.length
  obtain ⟨S, hS⟩ : ∃ S, settleL l = S := ⟨_, rfl⟩
  rw [hS] at hok
  have hSl : S.length ≤ 7 := by omega
  have HS := Lib.hid hS
  have HSn : Hid ((settleL l).length = S.length) := Lib.hid (by rw [hS])
  have HSo := Lib.hid hok.1
  have H0 := Lib.hid h0
  have HQ := Lib.hid hq
  have HP : Hid (proveF l ps many = false) := Lib.hid (by rw [proveF, hq]; simp)
  clear hq
  clear hS hok h0 hd hz hne hcb h9 h12 hl7
  go_enter Try.func5, Try.ntmps5
  go_wp2_with fail
  go_at_call 22
  refine (list_eq _ a l c hx hl nx).mono ?_
  rintro e w1 ⟨⟨aA, cA, rfl, iA, nA⟩, b1⟩
  have t1 : Below w.heap.size w w1 := by (repeat (first | exact Below.refl _ _ | refine Below.alloc ?_ (by first | omega | (simp; done) | (simp; omega)) _ | refine Below.drew ?_ | refine Below.setCell ?_ (by first | omega | (simp; done) | (simp; omega)) _ | refine Below.trans ?_ (Below.mono (by assumption) (by first | omega | (simp; done) | (simp; omega)))))
  replace hx := hx.below t1
  replace hp := hp.below t1
  go_wp2_with fail
  go_at_call 31
  refine (settle_eq aA l cA _ S H0 HS iA nA).mono ?_
  rintro e w2 ⟨⟨aX, cX, rfl, iX⟩, b2⟩
  have j2 : Below w1.heap.size w1 w2 := by (repeat (first | exact Below.refl _ _ | refine Below.alloc ?_ (by first | omega | (simp; done) | (simp; omega)) _ | refine Below.drew ?_ | refine Below.setCell ?_ (by first | omega | (simp; done) | (simp; omega)) _ | refine Below.trans ?_ (Below.mono (by assumption) (by first | omega | (simp; done) | (simp; omega)))))
  have t2 : Below w.heap.size w w2 := t1.trans (j2.mono t1.size)
  replace hx := hx.below j2
  replace hp := hp.below j2
  replace iA := iA.below j2
  clear iA
  go_wp2_with fail
  go_at_call 22
  refine (list_eq _ a l c hx hl nx).mono ?_
  rintro e w3 ⟨⟨aB, cB, rfl, iB, nB⟩, b3⟩
  have j3 : Below w2.heap.size w2 w3 := by (repeat (first | exact Below.refl _ _ | refine Below.alloc ?_ (by first | omega | (simp; done) | (simp; omega)) _ | refine Below.drew ?_ | refine Below.setCell ?_ (by first | omega | (simp; done) | (simp; omega)) _ | refine Below.trans ?_ (Below.mono (by assumption) (by first | omega | (simp; done) | (simp; omega)))))
  have t3 : Below w.heap.size w w3 := t2.trans (j3.mono t2.size)
  replace hx := hx.below j3
  replace hp := hp.below j3
  replace iX := iX.below j3
  go_wp2_with fail
  go_at_call 33
  refine (payments_any ap ps cp _ hp hpl).mono ?_
  rintro e w4 ⟨⟨aP, cP, rfl, iP⟩, b4⟩
  have j4 : Below w3.heap.size w3 w4 := by (repeat (first | exact Below.refl _ _ | refine Below.alloc ?_ (by first | omega | (simp; done) | (simp; omega)) _ | refine Below.drew ?_ | refine Below.setCell ?_ (by first | omega | (simp; done) | (simp; omega)) _ | refine Below.trans ?_ (Below.mono (by assumption) (by first | omega | (simp; done) | (simp; omega)))))
  have t4 : Below w.heap.size w w4 := t3.trans (j4.mono t3.size)
  replace hx := hx.below j4
  replace hp := hp.below j4
  replace iX := iX.below j4
  replace iB := iB.below j4
  go_wp2_with fail
  go_at_call 32
  refine (prove_eq aB l cB _ false aP ps cP many HP iB nB hl iP hpl).mono ?_
  rintro e w5 ⟨rfl, b5⟩
  have j5 : Below w4.heap.size w4 w5 := by (repeat (first | exact Below.refl _ _ | refine Below.alloc ?_ (by first | omega | (simp; done) | (simp; omega)) _ | refine Below.drew ?_ | refine Below.setCell ?_ (by first | omega | (simp; done) | (simp; omega)) _ | refine Below.trans ?_ (Below.mono (by assumption) (by first | omega | (simp; done) | (simp; omega)))))
  have t5 : Below w.heap.size w w5 := t4.trans (j5.mono t4.size)
  replace hx := hx.below j5
  replace hp := hp.below j5
  replace iX := iX.below j5
  replace iB := iB.below j5
  replace iP := iP.below j5
  clear iB iP
  go_wp2_with fail
  go_at_call 34
  refine (rBals_eq a l c _ 0 H0 hx hl).mono ?_
  rintro e _ ⟨rfl, rfl⟩
  go_wp2_with fail
  go_at_call 35
  refine (rSettles_eq a l c _ false ap ps cp H0 HQ hx hp hpl).mono ?_
  rintro e w6 ⟨rfl, b6⟩
  have j6 : Below w5.heap.size w5 w6 := by (repeat (first | exact Below.refl _ _ | refine Below.alloc ?_ (by first | omega | (simp; done) | (simp; omega)) _ | refine Below.drew ?_ | refine Below.setCell ?_ (by first | omega | (simp; done) | (simp; omega)) _ | refine Below.trans ?_ (Below.mono (by assumption) (by first | omega | (simp; done) | (simp; omega)))))
  have t6 : Below w.heap.size w w6 := t5.trans (j6.mono t5.size)
  replace hx := hx.below j6
  replace hp := hp.below j6
  replace iX := iX.below j6
  go_wp2_with fail
  go_at_call 36
  refine (rFewest_eq a l c _ S.length H0 HSn hx).mono ?_
  rintro e w7 ⟨rfl, b7⟩
  have j7 : Below w6.heap.size w6 w7 := by (repeat (first | exact Below.refl _ _ | refine Below.alloc ?_ (by first | omega | (simp; done) | (simp; omega)) _ | refine Below.drew ?_ | refine Below.setCell ?_ (by first | omega | (simp; done) | (simp; omega)) _ | refine Below.trans ?_ (Below.mono (by assumption) (by first | omega | (simp; done) | (simp; omega)))))
  have t7 : Below w.heap.size w w7 := t6.trans (j7.mono t6.size)
  replace hx := hx.below j7
  replace hp := hp.below j7
  replace iX := iX.below j7
  go_wp2_with fail
  go_at_call 37
  refine (back_any aX S cX _ iX (by omega)).mono ?_
  rintro e w8 ⟨⟨aY, cY, rfl, iY⟩, b8⟩
  have j8 : Below w7.heap.size w7 w8 := by (repeat (first | exact Below.refl _ _ | refine Below.alloc ?_ (by first | omega | (simp; done) | (simp; omega)) _ | refine Below.drew ?_ | refine Below.setCell ?_ (by first | omega | (simp; done) | (simp; omega)) _ | refine Below.trans ?_ (Below.mono (by assumption) (by first | omega | (simp; done) | (simp; omega)))))
  have t8 : Below w.heap.size w w8 := t7.trans (j8.mono t7.size)
  replace hx := hx.below j8
  replace hp := hp.below j8
  replace iX := iX.below j8
  clear iX
  go_wp2_with fail
  go_at_call 35
  refine (rSettles_eq a l c _ true aY S cY H0 HSo hx iY (by omega)).mono ?_
  rintro e w9 ⟨rfl, b9⟩
  have j9 : Below w8.heap.size w8 w9 := by (repeat (first | exact Below.refl _ _ | refine Below.alloc ?_ (by first | omega | (simp; done) | (simp; omega)) _ | refine Below.drew ?_ | refine Below.setCell ?_ (by first | omega | (simp; done) | (simp; omega)) _ | refine Below.trans ?_ (Below.mono (by assumption) (by first | omega | (simp; done) | (simp; omega)))))
  have t9 : Below w.heap.size w w9 := t8.trans (j9.mono t8.size)
  replace hx := hx.below j9
  replace hp := hp.below j9
  replace iY := iY.below j9
  clear iY
  go_wp2_with fail
  go_at_call 17
  refine (awake_any _).mono ?_
  rintro e w10 ⟨rfl, b10⟩
  have j10 : Below w9.heap.size w9 w10 := by (repeat (first | exact Below.refl _ _ | refine Below.alloc ?_ (by first | omega | (simp; done) | (simp; omega)) _ | refine Below.drew ?_ | refine Below.setCell ?_ (by first | omega | (simp; done) | (simp; omega)) _ | refine Below.trans ?_ (Below.mono (by assumption) (by first | omega | (simp; done) | (simp; omega)))))
  have t10 : Below w.heap.size w w10 := t9.trans (j10.mono t9.size)
  replace hx := hx.below j10
  replace hp := hp.below j10
  go_wp2_with fail
  go_ret
  exact ⟨rfl, t10⟩
set_option maxRecDepth 100000 in
set_option maxHeartbeats 8000000 in
theorem settles_d (a : Option Addr) (l : List Int) (c : Nat) (ap : Option Addr) (ps : List (Int × Int × Int)) (cp : Nat) (many : Int) (w : World) (hx : IntsAt w a l) (nx : a = none → c = 0) (lc : l.length ≤ c) (mc : c ≤ maxLen) (hp : Recs3At w ap ps) (np : ap = none → cp = 0) (lp : ps.length ≤ cp) (mp : cp ≤ maxLen) (h9 : l.length ≤ 9) (h12 : ps.length ≤ 12) (h0 : balsErr l = 0) (hq : settlesF l.length l ps = true) (hm : ¬ (ps.length : Int) ≤ many) :
    Calls Try.prog 5 #[.slice a l.length c, .slice ap ps.length cp, .int .i64 many] w fun e w' => e = .returned (.bool true) ∧ Below w.heap.size w w' := by
  have h9d : decide ((9 : Int) < (l.length : Int)) = false := by simp; omega
  have h12d : decide ((12 : Int) < (ps.length : Int)) = false := by simp; omega
  have hl : l.length ≤ 1000 := by omega
  have hpl : ps.length ≤ 1000 := by omega
  clear lc mc lp mp
  obtain ⟨hl7, hne, hd, hz⟩ := balsErr_ok h0
  have hok := settleL_ok (l := l) (by omega) hz (debts hd)
  have hcb := cntP_bound (nzB l) l.length
  obtain ⟨S, hS⟩ : ∃ S, settleL l = S := ⟨_, rfl⟩
  rw [hS] at hok
  have hSl : S.length ≤ 7 := by omega
  have HS := Lib.hid hS
  have HSn : Hid ((settleL l).length = S.length) := Lib.hid (by rw [hS])
  have HSo := Lib.hid hok.1
  have H0 := Lib.hid h0
  have HQ := Lib.hid hq
  have HP : Hid (proveF l ps many = false) := Lib.hid (by rw [proveF]; simp [hm])
  have hmd : decide ((ps.length : Int) ≤ many) = false := by simpa using hm
  clear hq hm
  clear hS hok h0 hd hz hne hcb h9 h12 hl7
  go_enter Try.func5, Try.ntmps5
  go_wp2_with fail
  go_at_call 22
  refine (list_eq _ a l c hx hl nx).mono ?_
  rintro e w1 ⟨⟨aA, cA, rfl, iA, nA⟩, b1⟩
  have t1 : Below w.heap.size w w1 := by (repeat (first | exact Below.refl _ _ | refine Below.alloc ?_ (by first | omega | (simp; done) | (simp; omega)) _ | refine Below.drew ?_ | refine Below.setCell ?_ (by first | omega | (simp; done) | (simp; omega)) _ | refine Below.trans ?_ (Below.mono (by assumption) (by first | omega | (simp; done) | (simp; omega)))))
  replace hx := hx.below t1
  replace hp := hp.below t1
  go_wp2_with fail
  go_at_call 31
  refine (settle_eq aA l cA _ S H0 HS iA nA).mono ?_
  rintro e w2 ⟨⟨aX, cX, rfl, iX⟩, b2⟩
  have j2 : Below w1.heap.size w1 w2 := by (repeat (first | exact Below.refl _ _ | refine Below.alloc ?_ (by first | omega | (simp; done) | (simp; omega)) _ | refine Below.drew ?_ | refine Below.setCell ?_ (by first | omega | (simp; done) | (simp; omega)) _ | refine Below.trans ?_ (Below.mono (by assumption) (by first | omega | (simp; done) | (simp; omega)))))
  have t2 : Below w.heap.size w w2 := t1.trans (j2.mono t1.size)
  replace hx := hx.below j2
  replace hp := hp.below j2
  replace iA := iA.below j2
  clear iA
  go_wp2_with fail
  go_at_call 22
  refine (list_eq _ a l c hx hl nx).mono ?_
  rintro e w3 ⟨⟨aB, cB, rfl, iB, nB⟩, b3⟩
  have j3 : Below w2.heap.size w2 w3 := by (repeat (first | exact Below.refl _ _ | refine Below.alloc ?_ (by first | omega | (simp; done) | (simp; omega)) _ | refine Below.drew ?_ | refine Below.setCell ?_ (by first | omega | (simp; done) | (simp; omega)) _ | refine Below.trans ?_ (Below.mono (by assumption) (by first | omega | (simp; done) | (simp; omega)))))
  have t3 : Below w.heap.size w w3 := t2.trans (j3.mono t2.size)
  replace hx := hx.below j3
  replace hp := hp.below j3
  replace iX := iX.below j3
  go_wp2_with fail
  go_at_call 33
  refine (payments_any ap ps cp _ hp hpl).mono ?_
  rintro e w4 ⟨⟨aP, cP, rfl, iP⟩, b4⟩
  have j4 : Below w3.heap.size w3 w4 := by (repeat (first | exact Below.refl _ _ | refine Below.alloc ?_ (by first | omega | (simp; done) | (simp; omega)) _ | refine Below.drew ?_ | refine Below.setCell ?_ (by first | omega | (simp; done) | (simp; omega)) _ | refine Below.trans ?_ (Below.mono (by assumption) (by first | omega | (simp; done) | (simp; omega)))))
  have t4 : Below w.heap.size w w4 := t3.trans (j4.mono t3.size)
  replace hx := hx.below j4
  replace hp := hp.below j4
  replace iX := iX.below j4
  replace iB := iB.below j4
  go_wp2_with fail
  go_at_call 32
  refine (prove_eq aB l cB _ false aP ps cP many HP iB nB hl iP hpl).mono ?_
  rintro e w5 ⟨rfl, b5⟩
  have j5 : Below w4.heap.size w4 w5 := by (repeat (first | exact Below.refl _ _ | refine Below.alloc ?_ (by first | omega | (simp; done) | (simp; omega)) _ | refine Below.drew ?_ | refine Below.setCell ?_ (by first | omega | (simp; done) | (simp; omega)) _ | refine Below.trans ?_ (Below.mono (by assumption) (by first | omega | (simp; done) | (simp; omega)))))
  have t5 : Below w.heap.size w w5 := t4.trans (j5.mono t4.size)
  replace hx := hx.below j5
  replace hp := hp.below j5
  replace iX := iX.below j5
  replace iB := iB.below j5
  replace iP := iP.below j5
  clear iB iP
  go_wp2_with fail
  go_at_call 34
  refine (rBals_eq a l c _ 0 H0 hx hl).mono ?_
  rintro e _ ⟨rfl, rfl⟩
  go_wp2_with fail
  go_at_call 35
  refine (rSettles_eq a l c _ true ap ps cp H0 HQ hx hp hpl).mono ?_
  rintro e w6 ⟨rfl, b6⟩
  have j6 : Below w5.heap.size w5 w6 := by (repeat (first | exact Below.refl _ _ | refine Below.alloc ?_ (by first | omega | (simp; done) | (simp; omega)) _ | refine Below.drew ?_ | refine Below.setCell ?_ (by first | omega | (simp; done) | (simp; omega)) _ | refine Below.trans ?_ (Below.mono (by assumption) (by first | omega | (simp; done) | (simp; omega)))))
  have t6 : Below w.heap.size w w6 := t5.trans (j6.mono t5.size)
  replace hx := hx.below j6
  replace hp := hp.below j6
  replace iX := iX.below j6
  go_wp2_with fail
  go_at_call 36
  refine (rFewest_eq a l c _ S.length H0 HSn hx).mono ?_
  rintro e w7 ⟨rfl, b7⟩
  have j7 : Below w6.heap.size w6 w7 := by (repeat (first | exact Below.refl _ _ | refine Below.alloc ?_ (by first | omega | (simp; done) | (simp; omega)) _ | refine Below.drew ?_ | refine Below.setCell ?_ (by first | omega | (simp; done) | (simp; omega)) _ | refine Below.trans ?_ (Below.mono (by assumption) (by first | omega | (simp; done) | (simp; omega)))))
  have t7 : Below w.heap.size w w7 := t6.trans (j7.mono t6.size)
  replace hx := hx.below j7
  replace hp := hp.below j7
  replace iX := iX.below j7
  go_wp2_with fail
  go_at_call 37
  refine (back_any aX S cX _ iX (by omega)).mono ?_
  rintro e w8 ⟨⟨aY, cY, rfl, iY⟩, b8⟩
  have j8 : Below w7.heap.size w7 w8 := by (repeat (first | exact Below.refl _ _ | refine Below.alloc ?_ (by first | omega | (simp; done) | (simp; omega)) _ | refine Below.drew ?_ | refine Below.setCell ?_ (by first | omega | (simp; done) | (simp; omega)) _ | refine Below.trans ?_ (Below.mono (by assumption) (by first | omega | (simp; done) | (simp; omega)))))
  have t8 : Below w.heap.size w w8 := t7.trans (j8.mono t7.size)
  replace hx := hx.below j8
  replace hp := hp.below j8
  replace iX := iX.below j8
  clear iX
  go_wp2_with fail
  go_at_call 35
  refine (rSettles_eq a l c _ true aY S cY H0 HSo hx iY (by omega)).mono ?_
  rintro e w9 ⟨rfl, b9⟩
  have j9 : Below w8.heap.size w8 w9 := by (repeat (first | exact Below.refl _ _ | refine Below.alloc ?_ (by first | omega | (simp; done) | (simp; omega)) _ | refine Below.drew ?_ | refine Below.setCell ?_ (by first | omega | (simp; done) | (simp; omega)) _ | refine Below.trans ?_ (Below.mono (by assumption) (by first | omega | (simp; done) | (simp; omega)))))
  have t9 : Below w.heap.size w w9 := t8.trans (j9.mono t8.size)
  replace hx := hx.below j9
  replace hp := hp.below j9
  replace iY := iY.below j9
  clear iY
  go_wp2_with fail
  go_at_call 17
  refine (awake_any _).mono ?_
  rintro e w10 ⟨rfl, b10⟩
  have j10 : Below w9.heap.size w9 w10 := by (repeat (first | exact Below.refl _ _ | refine Below.alloc ?_ (by first | omega | (simp; done) | (simp; omega)) _ | refine Below.drew ?_ | refine Below.setCell ?_ (by first | omega | (simp; done) | (simp; omega)) _ | refine Below.trans ?_ (Below.mono (by assumption) (by first | omega | (simp; done) | (simp; omega)))))
  have t10 : Below w.heap.size w w10 := t9.trans (j10.mono t9.size)
  replace hx := hx.below j10
  replace hp := hp.below j10
  go_wp2_with fail
  go_ret
  exact ⟨rfl, t10⟩
set_option maxRecDepth 100000 in
set_option maxHeartbeats 8000000 in
theorem settles_e (a : Option Addr) (l : List Int) (c : Nat) (ap : Option Addr) (ps : List (Int × Int × Int)) (cp : Nat) (many : Int) (w : World) (hx : IntsAt w a l) (nx : a = none → c = 0) (lc : l.length ≤ c) (mc : c ≤ maxLen) (hp : Recs3At w ap ps) (np : ap = none → cp = 0) (lp : ps.length ≤ cp) (mp : cp ≤ maxLen) (h9 : l.length ≤ 9) (h12 : ps.length ≤ 12) (h0 : balsErr l = 0) (hq : settlesF l.length l ps = true) (hm : (ps.length : Int) ≤ many) :
    Calls Try.prog 5 #[.slice a l.length c, .slice ap ps.length cp, .int .i64 many] w fun e w' => e = .returned (.bool true) ∧ Below w.heap.size w w' := by
  have h9d : decide ((9 : Int) < (l.length : Int)) = false := by simp; omega
  have h12d : decide ((12 : Int) < (ps.length : Int)) = false := by simp; omega
  have hl : l.length ≤ 1000 := by omega
  have hpl : ps.length ≤ 1000 := by omega
  clear lc mc lp mp
  obtain ⟨hl7, hne, hd, hz⟩ := balsErr_ok h0
  have hok := settleL_ok (l := l) (by omega) hz (debts hd)
  have hcb := cntP_bound (nzB l) l.length
  obtain ⟨S, hS⟩ : ∃ S, settleL l = S := ⟨_, rfl⟩
  rw [hS] at hok
  have hSl : S.length ≤ 7 := by omega
  have HS := Lib.hid hS
  have HSn : Hid ((settleL l).length = S.length) := Lib.hid (by rw [hS])
  have HSo := Lib.hid hok.1
  have H0 := Lib.hid h0
  have HQ := Lib.hid hq
  have HP : Hid (proveF l ps many = true) := Lib.hid (by rw [proveF, h0, hq]; simp [hm])
  have hmd : decide ((ps.length : Int) ≤ many) = true := by simpa using hm
  clear hq
  clear hS hok h0 hd hz hne hcb h9 h12 hl7
  go_enter Try.func5, Try.ntmps5
  go_wp2_with fail
  go_at_call 22
  refine (list_eq _ a l c hx hl nx).mono ?_
  rintro e w1 ⟨⟨aA, cA, rfl, iA, nA⟩, b1⟩
  have t1 : Below w.heap.size w w1 := by (repeat (first | exact Below.refl _ _ | refine Below.alloc ?_ (by first | omega | (simp; done) | (simp; omega)) _ | refine Below.drew ?_ | refine Below.setCell ?_ (by first | omega | (simp; done) | (simp; omega)) _ | refine Below.trans ?_ (Below.mono (by assumption) (by first | omega | (simp; done) | (simp; omega)))))
  replace hx := hx.below t1
  replace hp := hp.below t1
  go_wp2_with fail
  go_at_call 31
  refine (settle_eq aA l cA _ S H0 HS iA nA).mono ?_
  rintro e w2 ⟨⟨aX, cX, rfl, iX⟩, b2⟩
  have j2 : Below w1.heap.size w1 w2 := by (repeat (first | exact Below.refl _ _ | refine Below.alloc ?_ (by first | omega | (simp; done) | (simp; omega)) _ | refine Below.drew ?_ | refine Below.setCell ?_ (by first | omega | (simp; done) | (simp; omega)) _ | refine Below.trans ?_ (Below.mono (by assumption) (by first | omega | (simp; done) | (simp; omega)))))
  have t2 : Below w.heap.size w w2 := t1.trans (j2.mono t1.size)
  replace hx := hx.below j2
  replace hp := hp.below j2
  replace iA := iA.below j2
  clear iA
  go_wp2_with fail
  go_at_call 22
  refine (list_eq _ a l c hx hl nx).mono ?_
  rintro e w3 ⟨⟨aB, cB, rfl, iB, nB⟩, b3⟩
  have j3 : Below w2.heap.size w2 w3 := by (repeat (first | exact Below.refl _ _ | refine Below.alloc ?_ (by first | omega | (simp; done) | (simp; omega)) _ | refine Below.drew ?_ | refine Below.setCell ?_ (by first | omega | (simp; done) | (simp; omega)) _ | refine Below.trans ?_ (Below.mono (by assumption) (by first | omega | (simp; done) | (simp; omega)))))
  have t3 : Below w.heap.size w w3 := t2.trans (j3.mono t2.size)
  replace hx := hx.below j3
  replace hp := hp.below j3
  replace iX := iX.below j3
  go_wp2_with fail
  go_at_call 33
  refine (payments_any ap ps cp _ hp hpl).mono ?_
  rintro e w4 ⟨⟨aP, cP, rfl, iP⟩, b4⟩
  have j4 : Below w3.heap.size w3 w4 := by (repeat (first | exact Below.refl _ _ | refine Below.alloc ?_ (by first | omega | (simp; done) | (simp; omega)) _ | refine Below.drew ?_ | refine Below.setCell ?_ (by first | omega | (simp; done) | (simp; omega)) _ | refine Below.trans ?_ (Below.mono (by assumption) (by first | omega | (simp; done) | (simp; omega)))))
  have t4 : Below w.heap.size w w4 := t3.trans (j4.mono t3.size)
  replace hx := hx.below j4
  replace hp := hp.below j4
  replace iX := iX.below j4
  replace iB := iB.below j4
  go_wp2_with fail
  go_at_call 32
  refine (prove_eq aB l cB _ true aP ps cP many HP iB nB hl iP hpl).mono ?_
  rintro e w5 ⟨rfl, b5⟩
  have j5 : Below w4.heap.size w4 w5 := by (repeat (first | exact Below.refl _ _ | refine Below.alloc ?_ (by first | omega | (simp; done) | (simp; omega)) _ | refine Below.drew ?_ | refine Below.setCell ?_ (by first | omega | (simp; done) | (simp; omega)) _ | refine Below.trans ?_ (Below.mono (by assumption) (by first | omega | (simp; done) | (simp; omega)))))
  have t5 : Below w.heap.size w w5 := t4.trans (j5.mono t4.size)
  replace hx := hx.below j5
  replace hp := hp.below j5
  replace iX := iX.below j5
  replace iB := iB.below j5
  replace iP := iP.below j5
  clear iB iP
  go_wp2_with fail
  go_at_call 34
  refine (rBals_eq a l c _ 0 H0 hx hl).mono ?_
  rintro e _ ⟨rfl, rfl⟩
  go_wp2_with fail
  go_at_call 35
  refine (rSettles_eq a l c _ true ap ps cp H0 HQ hx hp hpl).mono ?_
  rintro e w6 ⟨rfl, b6⟩
  have j6 : Below w5.heap.size w5 w6 := by (repeat (first | exact Below.refl _ _ | refine Below.alloc ?_ (by first | omega | (simp; done) | (simp; omega)) _ | refine Below.drew ?_ | refine Below.setCell ?_ (by first | omega | (simp; done) | (simp; omega)) _ | refine Below.trans ?_ (Below.mono (by assumption) (by first | omega | (simp; done) | (simp; omega)))))
  have t6 : Below w.heap.size w w6 := t5.trans (j6.mono t5.size)
  replace hx := hx.below j6
  replace hp := hp.below j6
  replace iX := iX.below j6
  go_wp2_with fail
  go_at_call 36
  refine (rFewest_eq a l c _ S.length H0 HSn hx).mono ?_
  rintro e w7 ⟨rfl, b7⟩
  have j7 : Below w6.heap.size w6 w7 := by (repeat (first | exact Below.refl _ _ | refine Below.alloc ?_ (by first | omega | (simp; done) | (simp; omega)) _ | refine Below.drew ?_ | refine Below.setCell ?_ (by first | omega | (simp; done) | (simp; omega)) _ | refine Below.trans ?_ (Below.mono (by assumption) (by first | omega | (simp; done) | (simp; omega)))))
  have t7 : Below w.heap.size w w7 := t6.trans (j7.mono t6.size)
  replace hx := hx.below j7
  replace hp := hp.below j7
  replace iX := iX.below j7
  go_wp2_with fail
  go_at_call 37
  refine (back_any aX S cX _ iX (by omega)).mono ?_
  rintro e w8 ⟨⟨aY, cY, rfl, iY⟩, b8⟩
  have j8 : Below w7.heap.size w7 w8 := by (repeat (first | exact Below.refl _ _ | refine Below.alloc ?_ (by first | omega | (simp; done) | (simp; omega)) _ | refine Below.drew ?_ | refine Below.setCell ?_ (by first | omega | (simp; done) | (simp; omega)) _ | refine Below.trans ?_ (Below.mono (by assumption) (by first | omega | (simp; done) | (simp; omega)))))
  have t8 : Below w.heap.size w w8 := t7.trans (j8.mono t7.size)
  replace hx := hx.below j8
  replace hp := hp.below j8
  replace iX := iX.below j8
  clear iX
  go_wp2_with fail
  go_at_call 35
  refine (rSettles_eq a l c _ true aY S cY H0 HSo hx iY (by omega)).mono ?_
  rintro e w9 ⟨rfl, b9⟩
  have j9 : Below w8.heap.size w8 w9 := by (repeat (first | exact Below.refl _ _ | refine Below.alloc ?_ (by first | omega | (simp; done) | (simp; omega)) _ | refine Below.drew ?_ | refine Below.setCell ?_ (by first | omega | (simp; done) | (simp; omega)) _ | refine Below.trans ?_ (Below.mono (by assumption) (by first | omega | (simp; done) | (simp; omega)))))
  have t9 : Below w.heap.size w w9 := t8.trans (j9.mono t8.size)
  replace hx := hx.below j9
  replace hp := hp.below j9
  replace iY := iY.below j9
  clear iY
  go_wp2_with fail
  go_at_call 17
  refine (awake_any _).mono ?_
  rintro e w10 ⟨rfl, b10⟩
  have j10 : Below w9.heap.size w9 w10 := by (repeat (first | exact Below.refl _ _ | refine Below.alloc ?_ (by first | omega | (simp; done) | (simp; omega)) _ | refine Below.drew ?_ | refine Below.setCell ?_ (by first | omega | (simp; done) | (simp; omega)) _ | refine Below.trans ?_ (Below.mono (by assumption) (by first | omega | (simp; done) | (simp; omega)))))
  have t10 : Below w.heap.size w w10 := t9.trans (j10.mono t9.size)
  replace hx := hx.below j10
  replace hp := hp.below j10
  go_wp2_with fail
  go_ret
  exact ⟨rfl, t10⟩
theorem settles_walk (a : Option Addr) (l : List Int) (c : Nat) (ap : Option Addr) (ps : List (Int × Int × Int)) (cp : Nat) (many : Int) (w : World) (hx : IntsAt w a l) (nx : a = none → c = 0) (lc : l.length ≤ c) (mc : c ≤ maxLen) (hp : Recs3At w ap ps) (np : ap = none → cp = 0) (lp : ps.length ≤ cp) (mp : cp ≤ maxLen) :
    Calls Try.prog 5 #[.slice a l.length c, .slice ap ps.length cp, .int .i64 many] w fun e w' => e = .returned (.bool true) ∧ Below w.heap.size w w' := by
  by_cases h9 : l.length ≤ 9
  · by_cases h12 : ps.length ≤ 12
    · by_cases h0 : balsErr l = 0
      · cases hq : settlesF l.length l ps
        · exact settles_c a l c ap ps cp many w hx nx lc mc hp np lp mp h9 h12 h0 hq
        · by_cases hm : (ps.length : Int) ≤ many
          · exact settles_e a l c ap ps cp many w hx nx lc mc hp np lp mp h9 h12 h0 hq hm
          · exact settles_d a l c ap ps cp many w hx nx lc mc hp np lp mp h9 h12 h0 hq hm
      · exact settles_b a l c ap ps cp many w hx nx lc mc hp np lp mp h9 h12 _ rfl h0
    · exact settles_a2 a l c ap ps cp many w hx nx lc mc hp np lp mp h9 h12
  · exact settles_a1 a l c ap ps cp many w hx nx lc mc hp np lp mp h9
end Go.Proofs.Ytomjlmhnjgohdaa
