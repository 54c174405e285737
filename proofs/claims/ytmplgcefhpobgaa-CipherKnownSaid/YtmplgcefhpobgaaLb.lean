/- CipherDecodes: the walk -/
import Derived.Test.YtmplgcefhpobgaaLa
import Derived.Test.YtmplgcefhpobgaaDi
namespace Go.Proofs.Ytmplgcefhpobgaa
set_option linter.unusedVariables false
set_option linter.unusedSimpArgs false
set_option linter.unnecessarySimpa false
open Go.RowKit Go.Flow

theorem decode_at (s wo : Int) (ak : Option Addr) (ks : List (Int × Int × Int)) (ck : Nat) (ad : Option Addr) (ds : List Int) (cd : Nat) (day : Int) (al : Option Addr) (l : List Int) (cl : Nat) (O K : List Int) (E : Int) (hO : Hid (decOut s wo ks ds day l = O)) (hK : Hid (keptB wo O = K)) (hE : Hid (decodeErr s wo ks ds day l = E)) (w : World) (hk : Recs3At w ak ks) (hd : IntsAt w ad ds) (lk : ks.length ≤ 1000) (ld : ds.length ≤ 1000) (hl : IntsAt w al l) (ll : l.length ≤ 1000) (hcl : l.length ≤ cl) (hcm : cl ≤ 9223372036854775807) :
    Calls Try.prog 27 #[.agg #[.int .i64 s, .int .i64 wo, .slice ak ks.length ck, .slice ad ds.length cd], .int .i64 day, .slice al l.length cl] w fun e w' => (∃ a c a2 c2, e = .returned (.tuple #[.slice a O.length c, .slice a2 K.length c2, .int .i64 E]) ∧ IntsAt w' a O ∧ IntsAt w' a2 K ∧ (a = none → c = 0) ∧ (a2 = none → c2 = 0)) ∧ Below w.heap.size w w' := by
  rw [← hE.out, ← hK.out, ← hO.out]
  exact (decode_full s wo ak ks ck ad ds cd day al l cl w hk hd lk ld hl ll hcl hcm).mono fun _ _ ⟨⟨a, c, a2, c2, h1, h2, h3⟩, h4⟩ => ⟨⟨a, c, a2, c2, h1, h2.ints.1, h3.ints.1, fun h => by subst h; exact h2.isnil.2, fun h => by subst h; exact h3.isnil.2⟩, h4⟩
theorem refDecode_at (s wo : Int) (ak : Option Addr) (ks : List (Int × Int × Int)) (ck : Nat) (ad : Option Addr) (ds : List Int) (cd : Nat) (day : Int) (al : Option Addr) (l : List Int) (cl : Nat) (O K : List Int) (E : Int) (hO : Hid (decOut s wo ks ds day l = O)) (hK : Hid (keptB wo O = K)) (hE : Hid (decodeErr s wo ks ds day l = E)) (w : World) (hk : Recs3At w ak ks) (hd : IntsAt w ad ds) (lk : ks.length ≤ 1000) (ld : ds.length ≤ 1000) (hl : IntsAt w al l) (ll : l.length ≤ 1000) (hcl : l.length ≤ cl) (hcm : cl ≤ 9223372036854775807) (hbk : Hid (bookErr s wo ks ds = 0)) (hday : Hid (0 ≤ day ∧ day ≤ (ds.length : Int) - 1)) :
    Calls Try.prog 28 #[.agg #[.int .i64 s, .int .i64 wo, .slice ak ks.length ck, .slice ad ds.length cd], .int .i64 day, .slice al l.length cl] w fun e w' => (∃ a c a2 c2, e = .returned (.tuple #[.slice a O.length c, .slice a2 K.length c2, .int .i64 E]) ∧ IntsAt w' a O ∧ IntsAt w' a2 K) ∧ Below w.heap.size w w' := by
  rw [← hE.out, ← hK.out, ← hO.out]
  exact (refDecode_any s wo ak ks ck ad ds cd day al l cl w hk hd lk ld hl ll hcl hcm hbk.out hday.out).mono fun _ _ ⟨⟨a, c, a2, c2, h1, h2, h3⟩, h4⟩ => ⟨⟨a, c, a2, c2, h1, h2, h3⟩, h4⟩
theorem decOut_len {s wo : Int} {ks : List K3} {ds : List Int} {day : Int} {l : List Int} : (decOut s wo ks ds day l).length ≤ l.length := by
  unfold decOut; split
  · unfold decPlain; rw [upTo_len]; omega
  · simp

set_option maxRecDepth 100000 in
set_option maxHeartbeats 4000000 in
theorem decs_a1 (s wo : Int) (ak : Option Addr) (ks : List (Int × Int × Int)) (ck : Nat) (ad : Option Addr) (ds : List Int) (cd : Nat) (day : Int) (ap : Option Addr) (l : List Int) (cp : Nat) (w : World) (hk : Recs3At w ak ks) (hd : IntsAt w ad ds) (nd : ad = none → cd = 0) (hp : IntsAt w ap l) (np : ap = none → cp = 0) (hcp : l.length ≤ cp) (hcm : cp ≤ 9223372036854775807) (hT : (decide (ks.length ≤ 8) && decide (ds.length ≤ 11)) = false) :
    Calls Try.prog 4 #[.agg #[.int .i64 s, .int .i64 wo, .slice ak ks.length ck, .slice ad ds.length cd], .int .i64 day, .slice ap l.length cp] w fun e w' => e = .returned (.bool true) ∧ Below w.heap.size w w' := by

  have HT := Lib.hid hT
  clear hT
  go_enter Try.func4, Try.ntmps4
  go_wp2_with fail
  go_at_call 16
  refine (thin_eq s wo ak ks.length ck ad ds.length cd false HT _).mono ?_
  rintro e w1 ⟨rfl, b1⟩
  have t1 : Below w.heap.size w w1 := by (repeat (first | exact Below.refl _ _ | refine Below.alloc ?_ (by first | omega | (simp; done) | (simp; omega)) _ | refine Below.drew ?_ | refine Below.setCell ?_ (by first | omega | (simp; done) | (simp; omega)) _ | refine Below.trans ?_ (Below.mono (by assumption) (by first | omega | (simp; done) | (simp; omega)))))
  replace hk := hk.below t1
  replace hd := hd.below t1
  replace hp := hp.below t1
  obtain ⟨q0, q1, q2, q3⟩ := BookAt.of (b1.mono (by simp))
  have lB := cell_lt q0
  simp only at lB
  go_wp2_with fail
  go_at_call 17
  refine (awake_any _).mono ?_
  rintro e w2 ⟨rfl, b2⟩
  have j2 : Below w1.heap.size w1 w2 := by (repeat (first | exact Below.refl _ _ | refine Below.alloc ?_ (by first | omega | (simp; done) | (simp; omega)) _ | refine Below.drew ?_ | refine Below.setCell ?_ (by first | omega | (simp; done) | (simp; omega)) _ | refine Below.trans ?_ (Below.mono (by assumption) (by first | omega | (simp; done) | (simp; omega)))))
  have t2 : Below w.heap.size w w2 := t1.trans (j2.mono t1.size)
  replace hk := hk.below j2
  replace hd := hd.below j2
  replace hp := hp.below j2
  replace q0 := below_cell j2 q0
  replace q1 := below_cell j2 q1
  replace q2 := below_cell j2 q2
  replace q3 := below_cell j2 q3
  replace lB := Nat.lt_of_lt_of_le lB j2.size
  go_wp2_with fail
  go_ret
  exact ⟨rfl, t2⟩

set_option maxRecDepth 100000 in
set_option maxHeartbeats 4000000 in
theorem decs_a2 (s wo : Int) (ak : Option Addr) (ks : List (Int × Int × Int)) (ck : Nat) (ad : Option Addr) (ds : List Int) (cd : Nat) (day : Int) (ap : Option Addr) (l : List Int) (cp : Nat) (w : World) (hk : Recs3At w ak ks) (hd : IntsAt w ad ds) (nd : ad = none → cd = 0) (hp : IntsAt w ap l) (np : ap = none → cp = 0) (hcp : l.length ≤ cp) (hcm : cp ≤ 9223372036854775807) (hT : (decide (ks.length ≤ 8) && decide (ds.length ≤ 11)) = true) (h15 : 15 < (l.length : Int)) :
    Calls Try.prog 4 #[.agg #[.int .i64 s, .int .i64 wo, .slice ak ks.length ck, .slice ad ds.length cd], .int .i64 day, .slice ap l.length cp] w fun e w' => e = .returned (.bool true) ∧ Below w.heap.size w w' := by

  have lk : ks.length ≤ 1000 := by simp at hT; omega
  have ld : ds.length ≤ 1000 := by simp at hT; omega
  have HT := Lib.hid hT
  clear hT
  go_enter Try.func4, Try.ntmps4
  go_wp2_with fail
  go_at_call 16
  refine (thin_eq s wo ak ks.length ck ad ds.length cd true HT _).mono ?_
  rintro e w1 ⟨rfl, b1⟩
  have t1 : Below w.heap.size w w1 := by (repeat (first | exact Below.refl _ _ | refine Below.alloc ?_ (by first | omega | (simp; done) | (simp; omega)) _ | refine Below.drew ?_ | refine Below.setCell ?_ (by first | omega | (simp; done) | (simp; omega)) _ | refine Below.trans ?_ (Below.mono (by assumption) (by first | omega | (simp; done) | (simp; omega)))))
  replace hk := hk.below t1
  replace hd := hd.below t1
  replace hp := hp.below t1
  obtain ⟨q0, q1, q2, q3⟩ := BookAt.of (b1.mono (by simp))
  have lB := cell_lt q0
  simp only at lB
  go_wp2_with fail
  go_at_call 17
  refine (awake_any _).mono ?_
  rintro e w2 ⟨rfl, b2⟩
  have j2 : Below w1.heap.size w1 w2 := by (repeat (first | exact Below.refl _ _ | refine Below.alloc ?_ (by first | omega | (simp; done) | (simp; omega)) _ | refine Below.drew ?_ | refine Below.setCell ?_ (by first | omega | (simp; done) | (simp; omega)) _ | refine Below.trans ?_ (Below.mono (by assumption) (by first | omega | (simp; done) | (simp; omega)))))
  have t2 : Below w.heap.size w w2 := t1.trans (j2.mono t1.size)
  replace hk := hk.below j2
  replace hd := hd.below j2
  replace hp := hp.below j2
  replace q0 := below_cell j2 q0
  replace q1 := below_cell j2 q1
  replace q2 := below_cell j2 q2
  replace q3 := below_cell j2 q3
  replace lB := Nat.lt_of_lt_of_le lB j2.size
  go_wp2_with fail
  go_ret
  exact ⟨rfl, t2⟩

set_option maxRecDepth 100000 in
set_option maxHeartbeats 4000000 in
theorem decs_b1 (s wo : Int) (ak : Option Addr) (ks : List (Int × Int × Int)) (ck : Nat) (ad : Option Addr) (ds : List Int) (cd : Nat) (day : Int) (ap : Option Addr) (l : List Int) (cp : Nat) (w : World) (hk : Recs3At w ak ks) (hd : IntsAt w ad ds) (nd : ad = none → cd = 0) (hp : IntsAt w ap l) (np : ap = none → cp = 0) (hcp : l.length ≤ cp) (hcm : cp ≤ 9223372036854775807) (hT : (decide (ks.length ≤ 8) && decide (ds.length ≤ 11)) = true) (h15 : (l.length : Int) ≤ 15) (hb : bookErr s wo ks ds ≠ 0) :
    Calls Try.prog 4 #[.agg #[.int .i64 s, .int .i64 wo, .slice ak ks.length ck, .slice ad ds.length cd], .int .i64 day, .slice ap l.length cp] w fun e w' => e = .returned (.bool true) ∧ Below w.heap.size w w' := by

  have lk : ks.length ≤ 1000 := by simp at hT; omega
  have ld : ds.length ≤ 1000 := by simp at hT; omega
  have HT := Lib.hid hT
  clear hT
  have hE : decodeErr s wo ks ds day l = bookErr s wo ks ds := by unfold decodeErr; rw [if_pos hb]
  have HO : Hid (decOut s wo ks ds day l = []) := Lib.hid (by unfold decOut; rw [if_neg (by rw [hE]; exact hb)])
  obtain ⟨E, hX⟩ : ∃ E, bookErr s wo ks ds = E := ⟨_, rfl⟩
  rw [hX] at hE hb
  have HE := Lib.hid hE
  have HE0 := Lib.hid hX
  have hne : (E != 0) = true := by simpa using hb
  have hne2 : (E == 0) = false := by simpa using hb
  clear hE hX hb
  obtain ⟨O, hO⟩ : ∃ O : List Int, O = [] := ⟨_, rfl⟩
  have HK : Hid (keptB wo O = O) := Lib.hid (by rw [hO]; rfl)
  rw [← hO] at HO
  have hOl : O.length = 0 := by rw [hO]; rfl
  clear hO
  go_enter Try.func4, Try.ntmps4
  go_wp2_with fail
  go_at_call 16
  refine (thin_eq s wo ak ks.length ck ad ds.length cd true HT _).mono ?_
  rintro e w1 ⟨rfl, b1⟩
  have t1 : Below w.heap.size w w1 := by (repeat (first | exact Below.refl _ _ | refine Below.alloc ?_ (by first | omega | (simp; done) | (simp; omega)) _ | refine Below.drew ?_ | refine Below.setCell ?_ (by first | omega | (simp; done) | (simp; omega)) _ | refine Below.trans ?_ (Below.mono (by assumption) (by first | omega | (simp; done) | (simp; omega)))))
  replace hk := hk.below t1
  replace hd := hd.below t1
  replace hp := hp.below t1
  obtain ⟨q0, q1, q2, q3⟩ := BookAt.of (b1.mono (by simp))
  have lB := cell_lt q0
  simp only at lB
  go_wp2_with fail
  go_at_call 19
  refine (bookConv_at s wo ak ks ck ad ds cd _ hk hd lk ld nd).mono ?_
  rintro e w2 ⟨⟨akA, ckA, adA, cdA, rfl, kA, dA⟩, b2⟩
  have j2 : Below w1.heap.size w1 w2 := by (repeat (first | exact Below.refl _ _ | refine Below.alloc ?_ (by first | omega | (simp; done) | (simp; omega)) _ | refine Below.drew ?_ | refine Below.setCell ?_ (by first | omega | (simp; done) | (simp; omega)) _ | refine Below.trans ?_ (Below.mono (by assumption) (by first | omega | (simp; done) | (simp; omega)))))
  have t2 : Below w.heap.size w w2 := t1.trans (j2.mono t1.size)
  replace hk := hk.below j2
  replace hd := hd.below j2
  replace hp := hp.below j2
  replace q0 := below_cell j2 q0
  replace q1 := below_cell j2 q1
  replace q2 := below_cell j2 q2
  replace q3 := below_cell j2 q3
  replace lB := Nat.lt_of_lt_of_le lB j2.size
  go_wp2_with fail
  go_at_call 21
  refine (list_at ap l cp _ hp (by omega) np).mono ?_
  rintro e w3 ⟨⟨aP, cP, rfl, iP, _, lP, mP⟩, b3⟩
  have j3 : Below w2.heap.size w2 w3 := by (repeat (first | exact Below.refl _ _ | refine Below.alloc ?_ (by first | omega | (simp; done) | (simp; omega)) _ | refine Below.drew ?_ | refine Below.setCell ?_ (by first | omega | (simp; done) | (simp; omega)) _ | refine Below.trans ?_ (Below.mono (by assumption) (by first | omega | (simp; done) | (simp; omega)))))
  have t3 : Below w.heap.size w w3 := t2.trans (j3.mono t2.size)
  replace hk := hk.below j3
  replace hd := hd.below j3
  replace hp := hp.below j3
  replace q0 := below_cell j3 q0
  replace q1 := below_cell j3 q1
  replace q2 := below_cell j3 q2
  replace q3 := below_cell j3 q3
  replace lB := Nat.lt_of_lt_of_le lB j3.size
  replace kA := kA.below j3
  replace dA := dA.below j3
  unfold maxLen at mP
  go_wp2_with fail
  go_at_call 27
  refine (decode_at s wo akA ks ckA adA ds cdA day aP l cP O O E HO HK HE _ kA dA lk ld iP (by omega) lP mP).mono ?_
  rintro e w4 ⟨⟨aC, cC, aW, cW, rfl, iC, iW, _⟩, b4⟩
  have j4 : Below w3.heap.size w3 w4 := by (repeat (first | exact Below.refl _ _ | refine Below.alloc ?_ (by first | omega | (simp; done) | (simp; omega)) _ | refine Below.drew ?_ | refine Below.setCell ?_ (by first | omega | (simp; done) | (simp; omega)) _ | refine Below.trans ?_ (Below.mono (by assumption) (by first | omega | (simp; done) | (simp; omega)))))
  have t4 : Below w.heap.size w w4 := t3.trans (j4.mono t3.size)
  replace hk := hk.below j4
  replace hd := hd.below j4
  replace hp := hp.below j4
  replace q0 := below_cell j4 q0
  replace q1 := below_cell j4 q1
  replace q2 := below_cell j4 q2
  replace q3 := below_cell j4 q3
  replace lB := Nat.lt_of_lt_of_le lB j4.size
  replace kA := kA.below j4
  replace dA := dA.below j4
  replace iP := iP.below j4
  clear kA dA iP
  go_wp2_with fail
  go_at_call 22
  refine (fault_eq s wo ak ks ck ad ds cd E HE0 _ hk hd lk ld).mono ?_
  rintro e w5 ⟨rfl, b5⟩
  have j5 : Below w4.heap.size w4 w5 := by (repeat (first | exact Below.refl _ _ | refine Below.alloc ?_ (by first | omega | (simp; done) | (simp; omega)) _ | refine Below.drew ?_ | refine Below.setCell ?_ (by first | omega | (simp; done) | (simp; omega)) _ | refine Below.trans ?_ (Below.mono (by assumption) (by first | omega | (simp; done) | (simp; omega)))))
  have t5 : Below w.heap.size w w5 := t4.trans (j5.mono t4.size)
  replace hk := hk.below j5
  replace hd := hd.below j5
  replace hp := hp.below j5
  replace q0 := below_cell j5 q0
  replace q1 := below_cell j5 q1
  replace q2 := below_cell j5 q2
  replace q3 := below_cell j5 q3
  replace lB := Nat.lt_of_lt_of_le lB j5.size
  replace iC := iC.below j5
  replace iW := iW.below j5
  go_wp2_with fail
  go_at_call 17
  refine (awake_any _).mono ?_
  rintro e w6 ⟨rfl, b6⟩
  have j6 : Below w5.heap.size w5 w6 := by (repeat (first | exact Below.refl _ _ | refine Below.alloc ?_ (by first | omega | (simp; done) | (simp; omega)) _ | refine Below.drew ?_ | refine Below.setCell ?_ (by first | omega | (simp; done) | (simp; omega)) _ | refine Below.trans ?_ (Below.mono (by assumption) (by first | omega | (simp; done) | (simp; omega)))))
  have t6 : Below w.heap.size w w6 := t5.trans (j6.mono t5.size)
  replace hk := hk.below j6
  replace hd := hd.below j6
  replace hp := hp.below j6
  replace q0 := below_cell j6 q0
  replace q1 := below_cell j6 q1
  replace q2 := below_cell j6 q2
  replace q3 := below_cell j6 q3
  replace lB := Nat.lt_of_lt_of_le lB j6.size
  replace iC := iC.below j6
  replace iW := iW.below j6
  go_wp2_with fail
  go_ret
  exact ⟨rfl, t6⟩

set_option maxRecDepth 100000 in
set_option maxHeartbeats 4000000 in
theorem decs_b2 (s wo : Int) (ak : Option Addr) (ks : List (Int × Int × Int)) (ck : Nat) (ad : Option Addr) (ds : List Int) (cd : Nat) (day : Int) (ap : Option Addr) (l : List Int) (cp : Nat) (w : World) (hk : Recs3At w ak ks) (hd : IntsAt w ad ds) (nd : ad = none → cd = 0) (hp : IntsAt w ap l) (np : ap = none → cp = 0) (hcp : l.length ≤ cp) (hcm : cp ≤ 9223372036854775807) (hT : (decide (ks.length ≤ 8) && decide (ds.length ≤ 11)) = true) (h15 : (l.length : Int) ≤ 15) (hb : bookErr s wo ks ds = 0) (hD : ¬ (0 ≤ day ∧ day ≤ (ds.length : Int) - 1)) :
    Calls Try.prog 4 #[.agg #[.int .i64 s, .int .i64 wo, .slice ak ks.length ck, .slice ad ds.length cd], .int .i64 day, .slice ap l.length cp] w fun e w' => e = .returned (.bool true) ∧ Below w.heap.size w w' := by

  have lk : ks.length ≤ 1000 := by simp at hT; omega
  have ld : ds.length ≤ 1000 := by simp at hT; omega
  have HT := Lib.hid hT
  clear hT
  have hE : decodeErr s wo ks ds day l = 2 := by unfold decodeErr; rw [if_neg (by simp [hb]), if_pos hD]
  have HO : Hid (decOut s wo ks ds day l = []) := Lib.hid (by unfold decOut; rw [if_neg (by omega)])
  have HE := Lib.hid hE
  have HE0 := Lib.hid hb
  have HD : Hid ((decide (0 ≤ day) && decide (day ≤ (ds.length : Int) - 1)) = false) := Lib.hid (by simp; omega)
  clear hE hb hD
  obtain ⟨O, hO⟩ : ∃ O : List Int, O = [] := ⟨_, rfl⟩
  have HK : Hid (keptB wo O = O) := Lib.hid (by rw [hO]; rfl)
  rw [← hO] at HO
  have hOl : O.length = 0 := by rw [hO]; rfl
  clear hO
  go_enter Try.func4, Try.ntmps4
  go_wp2_with fail
  go_at_call 16
  refine (thin_eq s wo ak ks.length ck ad ds.length cd true HT _).mono ?_
  rintro e w1 ⟨rfl, b1⟩
  have t1 : Below w.heap.size w w1 := by (repeat (first | exact Below.refl _ _ | refine Below.alloc ?_ (by first | omega | (simp; done) | (simp; omega)) _ | refine Below.drew ?_ | refine Below.setCell ?_ (by first | omega | (simp; done) | (simp; omega)) _ | refine Below.trans ?_ (Below.mono (by assumption) (by first | omega | (simp; done) | (simp; omega)))))
  replace hk := hk.below t1
  replace hd := hd.below t1
  replace hp := hp.below t1
  obtain ⟨q0, q1, q2, q3⟩ := BookAt.of (b1.mono (by simp))
  have lB := cell_lt q0
  simp only at lB
  go_wp2_with fail
  go_at_call 19
  refine (bookConv_at s wo ak ks ck ad ds cd _ hk hd lk ld nd).mono ?_
  rintro e w2 ⟨⟨akA, ckA, adA, cdA, rfl, kA, dA⟩, b2⟩
  have j2 : Below w1.heap.size w1 w2 := by (repeat (first | exact Below.refl _ _ | refine Below.alloc ?_ (by first | omega | (simp; done) | (simp; omega)) _ | refine Below.drew ?_ | refine Below.setCell ?_ (by first | omega | (simp; done) | (simp; omega)) _ | refine Below.trans ?_ (Below.mono (by assumption) (by first | omega | (simp; done) | (simp; omega)))))
  have t2 : Below w.heap.size w w2 := t1.trans (j2.mono t1.size)
  replace hk := hk.below j2
  replace hd := hd.below j2
  replace hp := hp.below j2
  replace q0 := below_cell j2 q0
  replace q1 := below_cell j2 q1
  replace q2 := below_cell j2 q2
  replace q3 := below_cell j2 q3
  replace lB := Nat.lt_of_lt_of_le lB j2.size
  go_wp2_with fail
  go_at_call 21
  refine (list_at ap l cp _ hp (by omega) np).mono ?_
  rintro e w3 ⟨⟨aP, cP, rfl, iP, _, lP, mP⟩, b3⟩
  have j3 : Below w2.heap.size w2 w3 := by (repeat (first | exact Below.refl _ _ | refine Below.alloc ?_ (by first | omega | (simp; done) | (simp; omega)) _ | refine Below.drew ?_ | refine Below.setCell ?_ (by first | omega | (simp; done) | (simp; omega)) _ | refine Below.trans ?_ (Below.mono (by assumption) (by first | omega | (simp; done) | (simp; omega)))))
  have t3 : Below w.heap.size w w3 := t2.trans (j3.mono t2.size)
  replace hk := hk.below j3
  replace hd := hd.below j3
  replace hp := hp.below j3
  replace q0 := below_cell j3 q0
  replace q1 := below_cell j3 q1
  replace q2 := below_cell j3 q2
  replace q3 := below_cell j3 q3
  replace lB := Nat.lt_of_lt_of_le lB j3.size
  replace kA := kA.below j3
  replace dA := dA.below j3
  unfold maxLen at mP
  go_wp2_with fail
  go_at_call 27
  refine (decode_at s wo akA ks ckA adA ds cdA day aP l cP O O 2 HO HK HE _ kA dA lk ld iP (by omega) lP mP).mono ?_
  rintro e w4 ⟨⟨aC, cC, aW, cW, rfl, iC, iW, _⟩, b4⟩
  have j4 : Below w3.heap.size w3 w4 := by (repeat (first | exact Below.refl _ _ | refine Below.alloc ?_ (by first | omega | (simp; done) | (simp; omega)) _ | refine Below.drew ?_ | refine Below.setCell ?_ (by first | omega | (simp; done) | (simp; omega)) _ | refine Below.trans ?_ (Below.mono (by assumption) (by first | omega | (simp; done) | (simp; omega)))))
  have t4 : Below w.heap.size w w4 := t3.trans (j4.mono t3.size)
  replace hk := hk.below j4
  replace hd := hd.below j4
  replace hp := hp.below j4
  replace q0 := below_cell j4 q0
  replace q1 := below_cell j4 q1
  replace q2 := below_cell j4 q2
  replace q3 := below_cell j4 q3
  replace lB := Nat.lt_of_lt_of_le lB j4.size
  replace kA := kA.below j4
  replace dA := dA.below j4
  replace iP := iP.below j4
  clear kA dA iP
  go_wp2_with fail
  go_at_call 22
  refine (fault_eq s wo ak ks ck ad ds cd 0 HE0 _ hk hd lk ld).mono ?_
  rintro e w5 ⟨rfl, b5⟩
  have j5 : Below w4.heap.size w4 w5 := by (repeat (first | exact Below.refl _ _ | refine Below.alloc ?_ (by first | omega | (simp; done) | (simp; omega)) _ | refine Below.drew ?_ | refine Below.setCell ?_ (by first | omega | (simp; done) | (simp; omega)) _ | refine Below.trans ?_ (Below.mono (by assumption) (by first | omega | (simp; done) | (simp; omega)))))
  have t5 : Below w.heap.size w w5 := t4.trans (j5.mono t4.size)
  replace hk := hk.below j5
  replace hd := hd.below j5
  replace hp := hp.below j5
  replace q0 := below_cell j5 q0
  replace q1 := below_cell j5 q1
  replace q2 := below_cell j5 q2
  replace q3 := below_cell j5 q3
  replace lB := Nat.lt_of_lt_of_le lB j5.size
  replace iC := iC.below j5
  replace iW := iW.below j5
  go_wp2_with fail
  go_at_call 23
  refine (in_eq day 0 ((ds.length : Int) - 1) false HD _).mono ?_
  rintro e _ ⟨rfl, rfl⟩
  go_wp2_with fail
  go_at_call 17
  refine (awake_any _).mono ?_
  rintro e w6 ⟨rfl, b6⟩
  have j6 : Below w5.heap.size w5 w6 := by (repeat (first | exact Below.refl _ _ | refine Below.alloc ?_ (by first | omega | (simp; done) | (simp; omega)) _ | refine Below.drew ?_ | refine Below.setCell ?_ (by first | omega | (simp; done) | (simp; omega)) _ | refine Below.trans ?_ (Below.mono (by assumption) (by first | omega | (simp; done) | (simp; omega)))))
  have t6 : Below w.heap.size w w6 := t5.trans (j6.mono t5.size)
  replace hk := hk.below j6
  replace hd := hd.below j6
  replace hp := hp.below j6
  replace q0 := below_cell j6 q0
  replace q1 := below_cell j6 q1
  replace q2 := below_cell j6 q2
  replace q3 := below_cell j6 q3
  replace lB := Nat.lt_of_lt_of_le lB j6.size
  replace iC := iC.below j6
  replace iW := iW.below j6
  go_wp2_with fail
  go_ret
  exact ⟨rfl, t6⟩

set_option maxRecDepth 100000 in
set_option maxHeartbeats 4000000 in
theorem decs_b3 (s wo : Int) (ak : Option Addr) (ks : List (Int × Int × Int)) (ck : Nat) (ad : Option Addr) (ds : List Int) (cd : Nat) (day : Int) (ap : Option Addr) (l : List Int) (cp : Nat) (w : World) (hk : Recs3At w ak ks) (hd : IntsAt w ad ds) (nd : ad = none → cd = 0) (hp : IntsAt w ap l) (np : ap = none → cp = 0) (hcp : l.length ≤ cp) (hcm : cp ≤ 9223372036854775807) (hT : (decide (ks.length ≤ 8) && decide (ds.length ≤ 11)) = true) (h15 : (l.length : Int) ≤ 15) (hb : bookErr s wo ks ds = 0) (hD : 0 ≤ day ∧ day ≤ (ds.length : Int) - 1) :
    Calls Try.prog 4 #[.agg #[.int .i64 s, .int .i64 wo, .slice ak ks.length ck, .slice ad ds.length cd], .int .i64 day, .slice ap l.length cp] w fun e w' => e = .returned (.bool true) ∧ Below w.heap.size w w' := by

  have lk : ks.length ≤ 1000 := by simp at hT; omega
  have ld : ds.length ≤ 1000 := by simp at hT; omega
  have HT := Lib.hid hT
  clear hT
  obtain ⟨E, hE⟩ : ∃ E, decodeErr s wo ks ds day l = E := ⟨_, rfl⟩
  have hOl := decOut_len (s := s) (wo := wo) (ks := ks) (ds := ds) (day := day) (l := l)
  have hEb : 0 ≤ E ∧ E ≤ 100 := by rw [← hE]; unfold decodeErr; rw [if_neg (by simp [hb])]; split <;> (try split) <;> (try split) <;> (try split) <;> omega
  obtain ⟨O, hO⟩ : ∃ O, decOut s wo ks ds day l = O := ⟨_, rfl⟩
  obtain ⟨K, hK⟩ : ∃ K, keptB wo O = K := ⟨_, rfl⟩
  have hKl : K.length ≤ O.length := by rw [← hK]; exact List.length_filter_le _ _
  rw [hO] at hOl
  have HL : Hid (O.length ≤ 1000000) := Lib.hid (by omega)
  have HL2 : Hid (K.length ≤ 1000000) := Lib.hid (by omega)
  have HO := Lib.hid hO
  have HK := Lib.hid hK
  have HE := Lib.hid hE
  have HE0 := Lib.hid hb
  have HD2 := Lib.hid hD
  obtain ⟨hE1, hE2⟩ := hEb
  have HD : Hid ((decide (0 ≤ day) && decide (day ≤ (ds.length : Int) - 1)) = true) := Lib.hid (by simp; omega)
  clear hO hK hE hb hD hOl hKl
  go_enter Try.func4, Try.ntmps4
  go_wp2_with fail
  go_at_call 16
  refine (thin_eq s wo ak ks.length ck ad ds.length cd true HT _).mono ?_
  rintro e w1 ⟨rfl, b1⟩
  have t1 : Below w.heap.size w w1 := by (repeat (first | exact Below.refl _ _ | refine Below.alloc ?_ (by first | omega | (simp; done) | (simp; omega)) _ | refine Below.drew ?_ | refine Below.setCell ?_ (by first | omega | (simp; done) | (simp; omega)) _ | refine Below.trans ?_ (Below.mono (by assumption) (by first | omega | (simp; done) | (simp; omega)))))
  replace hk := hk.below t1
  replace hd := hd.below t1
  replace hp := hp.below t1
  obtain ⟨q0, q1, q2, q3⟩ := BookAt.of (b1.mono (by simp))
  have lB := cell_lt q0
  simp only at lB
  go_wp2_with fail
  go_at_call 19
  refine (bookConv_at s wo ak ks ck ad ds cd _ hk hd lk ld nd).mono ?_
  rintro e w2 ⟨⟨akA, ckA, adA, cdA, rfl, kA, dA⟩, b2⟩
  have j2 : Below w1.heap.size w1 w2 := by (repeat (first | exact Below.refl _ _ | refine Below.alloc ?_ (by first | omega | (simp; done) | (simp; omega)) _ | refine Below.drew ?_ | refine Below.setCell ?_ (by first | omega | (simp; done) | (simp; omega)) _ | refine Below.trans ?_ (Below.mono (by assumption) (by first | omega | (simp; done) | (simp; omega)))))
  have t2 : Below w.heap.size w w2 := t1.trans (j2.mono t1.size)
  replace hk := hk.below j2
  replace hd := hd.below j2
  replace hp := hp.below j2
  replace q0 := below_cell j2 q0
  replace q1 := below_cell j2 q1
  replace q2 := below_cell j2 q2
  replace q3 := below_cell j2 q3
  replace lB := Nat.lt_of_lt_of_le lB j2.size
  go_wp2_with fail
  go_at_call 21
  refine (list_at ap l cp _ hp (by omega) np).mono ?_
  rintro e w3 ⟨⟨aP, cP, rfl, iP, _, lP, mP⟩, b3⟩
  have j3 : Below w2.heap.size w2 w3 := by (repeat (first | exact Below.refl _ _ | refine Below.alloc ?_ (by first | omega | (simp; done) | (simp; omega)) _ | refine Below.drew ?_ | refine Below.setCell ?_ (by first | omega | (simp; done) | (simp; omega)) _ | refine Below.trans ?_ (Below.mono (by assumption) (by first | omega | (simp; done) | (simp; omega)))))
  have t3 : Below w.heap.size w w3 := t2.trans (j3.mono t2.size)
  replace hk := hk.below j3
  replace hd := hd.below j3
  replace hp := hp.below j3
  replace q0 := below_cell j3 q0
  replace q1 := below_cell j3 q1
  replace q2 := below_cell j3 q2
  replace q3 := below_cell j3 q3
  replace lB := Nat.lt_of_lt_of_le lB j3.size
  replace kA := kA.below j3
  replace dA := dA.below j3
  unfold maxLen at mP
  go_wp2_with fail
  go_at_call 27
  refine (decode_at s wo akA ks ckA adA ds cdA day aP l cP O K E HO HK HE _ kA dA lk ld iP (by omega) lP mP).mono ?_
  rintro e w4 ⟨⟨aC, cC, aW, cW, rfl, iC, iW, _⟩, b4⟩
  have j4 : Below w3.heap.size w3 w4 := by (repeat (first | exact Below.refl _ _ | refine Below.alloc ?_ (by first | omega | (simp; done) | (simp; omega)) _ | refine Below.drew ?_ | refine Below.setCell ?_ (by first | omega | (simp; done) | (simp; omega)) _ | refine Below.trans ?_ (Below.mono (by assumption) (by first | omega | (simp; done) | (simp; omega)))))
  have t4 : Below w.heap.size w w4 := t3.trans (j4.mono t3.size)
  replace hk := hk.below j4
  replace hd := hd.below j4
  replace hp := hp.below j4
  replace q0 := below_cell j4 q0
  replace q1 := below_cell j4 q1
  replace q2 := below_cell j4 q2
  replace q3 := below_cell j4 q3
  replace lB := Nat.lt_of_lt_of_le lB j4.size
  replace kA := kA.below j4
  replace dA := dA.below j4
  replace iP := iP.below j4
  clear kA dA iP
  go_wp2_with fail
  go_at_call 22
  refine (fault_eq s wo ak ks ck ad ds cd 0 HE0 _ hk hd lk ld).mono ?_
  rintro e w5 ⟨rfl, b5⟩
  have j5 : Below w4.heap.size w4 w5 := by (repeat (first | exact Below.refl _ _ | refine Below.alloc ?_ (by first | omega | (simp; done) | (simp; omega)) _ | refine Below.drew ?_ | refine Below.setCell ?_ (by first | omega | (simp; done) | (simp; omega)) _ | refine Below.trans ?_ (Below.mono (by assumption) (by first | omega | (simp; done) | (simp; omega)))))
  have t5 : Below w.heap.size w w5 := t4.trans (j5.mono t4.size)
  replace hk := hk.below j5
  replace hd := hd.below j5
  replace hp := hp.below j5
  replace q0 := below_cell j5 q0
  replace q1 := below_cell j5 q1
  replace q2 := below_cell j5 q2
  replace q3 := below_cell j5 q3
  replace lB := Nat.lt_of_lt_of_le lB j5.size
  replace iC := iC.below j5
  replace iW := iW.below j5
  go_wp2_with fail
  go_at_call 23
  refine (in_eq day 0 ((ds.length : Int) - 1) true HD _).mono ?_
  rintro e _ ⟨rfl, rfl⟩
  go_wp2_with fail
  go_at_call 28
  refine (refDecode_at s wo ak ks ck ad ds cd day ap l cp O K E HO HK HE _ hk hd lk ld hp (by omega) hcp hcm HE0 HD2).mono ?_
  rintro e w6 ⟨⟨aR, cR, aS, cS, rfl, iR, iS⟩, b6⟩
  have j6 : Below w5.heap.size w5 w6 := by (repeat (first | exact Below.refl _ _ | refine Below.alloc ?_ (by first | omega | (simp; done) | (simp; omega)) _ | refine Below.drew ?_ | refine Below.setCell ?_ (by first | omega | (simp; done) | (simp; omega)) _ | refine Below.trans ?_ (Below.mono (by assumption) (by first | omega | (simp; done) | (simp; omega)))))
  have t6 : Below w.heap.size w w6 := t5.trans (j6.mono t5.size)
  replace hk := hk.below j6
  replace hd := hd.below j6
  replace hp := hp.below j6
  replace q0 := below_cell j6 q0
  replace q1 := below_cell j6 q1
  replace q2 := below_cell j6 q2
  replace q3 := below_cell j6 q3
  replace lB := Nat.lt_of_lt_of_le lB j6.size
  replace iC := iC.below j6
  replace iW := iW.below j6
  go_wp2_with fail
  go_at_call 25
  refine (same_eq aC O cC aR cR _ iC iR HL.out).mono ?_
  rintro e w7 ⟨rfl, b7⟩
  have j7 : Below w6.heap.size w6 w7 := by (repeat (first | exact Below.refl _ _ | refine Below.alloc ?_ (by first | omega | (simp; done) | (simp; omega)) _ | refine Below.drew ?_ | refine Below.setCell ?_ (by first | omega | (simp; done) | (simp; omega)) _ | refine Below.trans ?_ (Below.mono (by assumption) (by first | omega | (simp; done) | (simp; omega)))))
  have t7 : Below w.heap.size w w7 := t6.trans (j7.mono t6.size)
  replace hk := hk.below j7
  replace hd := hd.below j7
  replace hp := hp.below j7
  replace q0 := below_cell j7 q0
  replace q1 := below_cell j7 q1
  replace q2 := below_cell j7 q2
  replace q3 := below_cell j7 q3
  replace lB := Nat.lt_of_lt_of_le lB j7.size
  replace iC := iC.below j7
  replace iW := iW.below j7
  replace iR := iR.below j7
  replace iS := iS.below j7
  go_wp2_with fail
  go_at_call 25
  refine (same_eq aW K cW aS cS _ iW iS HL2.out).mono ?_
  rintro e w8 ⟨rfl, b8⟩
  have j8 : Below w7.heap.size w7 w8 := by (repeat (first | exact Below.refl _ _ | refine Below.alloc ?_ (by first | omega | (simp; done) | (simp; omega)) _ | refine Below.drew ?_ | refine Below.setCell ?_ (by first | omega | (simp; done) | (simp; omega)) _ | refine Below.trans ?_ (Below.mono (by assumption) (by first | omega | (simp; done) | (simp; omega)))))
  have t8 : Below w.heap.size w w8 := t7.trans (j8.mono t7.size)
  replace hk := hk.below j8
  replace hd := hd.below j8
  replace hp := hp.below j8
  replace q0 := below_cell j8 q0
  replace q1 := below_cell j8 q1
  replace q2 := below_cell j8 q2
  replace q3 := below_cell j8 q3
  replace lB := Nat.lt_of_lt_of_le lB j8.size
  replace iC := iC.below j8
  replace iW := iW.below j8
  replace iR := iR.below j8
  replace iS := iS.below j8
  go_wp2_with fail
  go_at_call 17
  refine (awake_any _).mono ?_
  rintro e w9 ⟨rfl, b9⟩
  have j9 : Below w8.heap.size w8 w9 := by (repeat (first | exact Below.refl _ _ | refine Below.alloc ?_ (by first | omega | (simp; done) | (simp; omega)) _ | refine Below.drew ?_ | refine Below.setCell ?_ (by first | omega | (simp; done) | (simp; omega)) _ | refine Below.trans ?_ (Below.mono (by assumption) (by first | omega | (simp; done) | (simp; omega)))))
  have t9 : Below w.heap.size w w9 := t8.trans (j9.mono t8.size)
  replace hk := hk.below j9
  replace hd := hd.below j9
  replace hp := hp.below j9
  replace q0 := below_cell j9 q0
  replace q1 := below_cell j9 q1
  replace q2 := below_cell j9 q2
  replace q3 := below_cell j9 q3
  replace lB := Nat.lt_of_lt_of_le lB j9.size
  replace iC := iC.below j9
  replace iW := iW.below j9
  replace iR := iR.below j9
  replace iS := iS.below j9
  go_wp2_with fail
  go_ret
  exact ⟨rfl, t9⟩

theorem decodes_walk (s wo : Int) (ak : Option Addr) (ks : List (Int × Int × Int)) (ck : Nat) (ad : Option Addr) (ds : List Int) (cd : Nat) (day : Int) (ap : Option Addr) (l : List Int) (cp : Nat) (w : World) (hk : Recs3At w ak ks) (hd : IntsAt w ad ds) (nd : ad = none → cd = 0) (hp : IntsAt w ap l) (np : ap = none → cp = 0) (hcp : l.length ≤ cp) (hcm : cp ≤ maxLen) :
    Calls Try.prog 4 #[.agg #[.int .i64 s, .int .i64 wo, .slice ak ks.length ck, .slice ad ds.length cd], .int .i64 day, .slice ap l.length cp] w fun e w' => e = .returned (.bool true) ∧ Below w.heap.size w w' := by
  unfold maxLen at hcm
  cases hT : (decide (ks.length ≤ 8) && decide (ds.length ≤ 11))
  · exact decs_a1 s wo ak ks ck ad ds cd day ap l cp w hk hd nd hp np hcp hcm hT
  · by_cases h15 : 15 < (l.length : Int)
    · exact decs_a2 s wo ak ks ck ad ds cd day ap l cp w hk hd nd hp np hcp hcm hT h15
    · by_cases hb : bookErr s wo ks ds = 0
      · by_cases hD : 0 ≤ day ∧ day ≤ (ds.length : Int) - 1
        · exact decs_b3 s wo ak ks ck ad ds cd day ap l cp w hk hd nd hp np hcp hcm hT (by omega) hb hD
        · exact decs_b2 s wo ak ks ck ad ds cd day ap l cp w hk hd nd hp np hcp hcm hT (by omega) hb hD
      · exact decs_b1 s wo ak ks ck ad ds cd day ap l cp w hk hd nd hp np hcp hcm hT (by omega) hb
end Go.Proofs.Ytmplgcefhpobgaa
