/- CipherWrong: the walk -/
import Derived.Test.YtmplgcefhpobgaaLd
import Derived.Test.YtmplgcefhpobgaaMc
import Derived.OneCell
import Derived.Deep.Cut
namespace Go.Proofs.Ytmplgcefhpobgaa
set_option linter.unusedVariables false
set_option linter.unusedSimpArgs false
set_option linter.unnecessarySimpa false
open Go.RowKit Go.Flow

theorem list_own (a : Option Addr) (l : List Int) (c : Nat) (w : World) (hl : IntsAt w a l) (ln : l.length ≤ 1000000) (hn : a = none → c = 0) (h0 : 0 < l.length) :
    Calls Try.prog 21 #[.slice a l.length c] w fun e w' => (∃ g c, e = .returned (.slice (some ⟨g, 0, none⟩) l.length c) ∧ w.heap.size ≤ g ∧ g < w'.heap.size ∧ OwnL 3 1 w.heap.size w' (some ⟨g, 0, none⟩) c l.length (l.map (Value.int .i64))) ∧ Below w.heap.size w w' :=
  (list_any a l c w hl ln hn).mono fun _ _ ⟨a, c, h1, h2, h3⟩ => ⟨by
    rcases h2.form with ⟨_, _, h, _⟩ | ⟨g, rfl, h4, h5, _⟩
    · omega
    · exact ⟨g, c, h1, h4, h5, h2⟩, h3⟩
theorem own_lt {E : TypeId} {base size : Nat} {w : World} {g c n : Nat} {xs : List Value} (h : OwnL E size base w (some ⟨g, 0, none⟩) c n xs) : g < w.heap.size := (World.ownsRow.lt h g rfl).2
theorem decode_atN (s wo : Int) (ak : Option Addr) (ks : List (Int × Int × Int)) (ck : Nat) (ad : Option Addr) (ds : List Int) (cd : Nat) (day : Int) (al : Option Addr) (l : List Int) (cl : Nat) (O K : List Int) (E : Int) (n : Nat) (hn : l.length = n) (hO : Hid (decOut s wo ks ds day l = O)) (hK : Hid (keptB wo O = K)) (hE : Hid (decodeErr s wo ks ds day l = E)) (w : World) (hk : Recs3At w ak ks) (hd : IntsAt w ad ds) (lk : ks.length ≤ 1000) (ld : ds.length ≤ 1000) (hl : IntsAt w al l) (ll : n ≤ 1000) (hcl : n ≤ cl) (hcm : cl ≤ 9223372036854775807) :
    Calls Try.prog 27 #[.agg #[.int .i64 s, .int .i64 wo, .slice ak ks.length ck, .slice ad ds.length cd], .int .i64 day, .slice al n cl] w fun e w' => (∃ a c a2 c2, e = .returned (.tuple #[.slice a O.length c, .slice a2 K.length c2, .int .i64 E]) ∧ IntsAt w' a O ∧ IntsAt w' a2 K ∧ (a = none → c = 0) ∧ (a2 = none → c2 = 0)) ∧ Below w.heap.size w w' := by
  subst hn; exact decode_at s wo ak ks ck ad ds cd day al l cl O K E hO hK hE w hk hd lk ld hl ll hcl hcm
theorem own_other {E : TypeId} {base size : Nat} {w : World} {g c n : Nat} {xs : List Value} (h : OwnL E size base w (some ⟨g, 0, none⟩) c n xs) {p : Addr} (hp : p.block ≠ g) (u : Value) : OwnL E size base (w.setCell p u) (some ⟨g, 0, none⟩) c n xs :=
  ownsRow_setCell_other h (fun e => hp (by simp [Value.ownBlock] at e; exact e.symm)) u

set_option maxRecDepth 100000 in
set_option maxHeartbeats 8000000 in
theorem wrong_a (s wo : Int) (ak : Option Addr) (ks : List (Int × Int × Int)) (ck : Nat) (ad : Option Addr) (ds : List Int) (cd : Nat) (ap : Option Addr) (plain : List Int) (cp : Nat) (A A1 A2 A3 : Nat) (w : World) (hk : Recs3At w ak ks) (hd : IntsAt w ad ds) (nd : ad = none → cd = 0) (hp : IntsAt w ap plain) (np : ap = none → cp = 0) (hA : A ≤ 255) (hA1 : A1 ≤ 255) (hA2 : A2 ≤ 255) (hA3 : A3 ≤ 255) (hR : readyB s wo ks ds plain = false) :
    Calls Try.prog 7 #[.agg #[.int .i64 s, .int .i64 wo, .slice ak ks.length ck, .slice ad ds.length cd], .slice ap plain.length cp, .int .u8 A, .int .u8 A1, .int .u8 A2, .int .u8 A3] w fun e w' => e = .returned (.bool true) ∧ Below w.heap.size w w' := by

  have HR := Lib.hid hR
  clear hR
  go_enter Try.func7, Try.ntmps7
  go_wp2_with fail
  go_at_call 33
  refine (ready_eq s wo ak ks ck ad ds cd ap plain cp false HR _ (hk.below (by (repeat (first | exact Below.refl _ _ | refine Below.alloc ?_ (by first | omega | (simp; done) | (simp; omega)) _ | refine Below.drew ?_ | refine Below.setCell ?_ (by first | omega | (simp; done) | (simp; omega)) _ | refine Below.trans ?_ (Below.mono (by assumption) (by first | omega | (simp; done) | (simp; omega))))))) (hd.below (by (repeat (first | exact Below.refl _ _ | refine Below.alloc ?_ (by first | omega | (simp; done) | (simp; omega)) _ | refine Below.drew ?_ | refine Below.setCell ?_ (by first | omega | (simp; done) | (simp; omega)) _ | refine Below.trans ?_ (Below.mono (by assumption) (by first | omega | (simp; done) | (simp; omega))))))) (hp.below (by (repeat (first | exact Below.refl _ _ | refine Below.alloc ?_ (by first | omega | (simp; done) | (simp; omega)) _ | refine Below.drew ?_ | refine Below.setCell ?_ (by first | omega | (simp; done) | (simp; omega)) _ | refine Below.trans ?_ (Below.mono (by assumption) (by first | omega | (simp; done) | (simp; omega)))))))).mono ?_
  rintro e w1 ⟨rfl, b1⟩
  have t1 : Below w.heap.size w w1 := by (repeat (first | exact Below.refl _ _ | refine Below.alloc ?_ (by first | omega | (simp; done) | (simp; omega)) _ | refine Below.drew ?_ | refine Below.setCell ?_ (by first | omega | (simp; done) | (simp; omega)) _ | refine Below.trans ?_ (Below.mono (by assumption) (by first | omega | (simp; done) | (simp; omega)))))
  replace hk := hk.below t1
  replace hd := hd.below t1
  replace hp := hp.below t1
  obtain ⟨q0, q1, q2, q3⟩ := BookAt.of (b1.mono (by simp))
  have lB := cell_lt q0
  simp only at lB
  go_wp2_with fail
  go_at_call 17
  refine (awake_any _).mono ?_
  rintro e w2 ⟨rfl, b2⟩
  have j2 : Below w1.heap.size w1 w2 := by (repeat (first | exact Below.refl _ _ | refine Below.alloc ?_ (by first | omega | (simp; done) | (simp; omega)) _ | refine Below.drew ?_ | refine Below.setCell ?_ (by first | omega | (simp; done) | (simp; omega)) _ | refine Below.trans ?_ (Below.mono (by assumption) (by first | omega | (simp; done) | (simp; omega)))))
  have t2 : Below w.heap.size w w2 := t1.trans (j2.mono t1.size)
  replace hk := hk.below j2
  replace hd := hd.below j2
  replace hp := hp.below j2
  replace q0 := below_cell j2 q0
  replace q1 := below_cell j2 q1
  replace q2 := below_cell j2 q2
  replace q3 := below_cell j2 q3
  replace lB := Nat.lt_of_lt_of_le lB j2.size
  go_wp2_with fail
  go_ret
  exact ⟨rfl, t2⟩

set_option maxRecDepth 100000 in
set_option maxHeartbeats 8000000 in
theorem wrong_b (s wo : Int) (ak : Option Addr) (ks : List (Int × Int × Int)) (ck : Nat) (ad : Option Addr) (ds : List Int) (cd : Nat) (ap : Option Addr) (plain : List Int) (cp : Nat) (A A1 A2 A3 : Nat) (w : World) (hk : Recs3At w ak ks) (hd : IntsAt w ad ds) (nd : ad = none → cd = 0) (hp : IntsAt w ap plain) (np : ap = none → cp = 0) (hA : A ≤ 255) (hA1 : A1 ≤ 255) (hA2 : A2 ≤ 255) (hA3 : A3 ≤ 255) (hR : readyB s wo ks ds plain = true) (I K : Nat) (D : List Int) (hI : (A1 : Int) % (D.length : Int) = (I : Int)) (hK : (A2 : Int) % (D.length : Int) = (K : Int)) (Il : I < plain.length + 2) (Kl : K < plain.length + 2) (u : Int) (X Y OY KY : List Int) (EX EY : Int) (day : Int) (hday : (A : Int) % (ds.length : Int) = day) (hdl : D.length = plain.length + 2) (HcE : Hid (codeErr s wo ks ds day plain = 0)) (HcO : Hid (codeOut s wo ks ds day plain = D)) (di dk : Int) (hdi : D[I]? = some di) (hdk : D[K]? = some dk) (d0 : 0 ≤ di ∧ di < s) (hu : (di + 1 + (A3 : Int) % (s - 1)) % s = u) (HX : Hid (D.set I u = X)) (HY : Hid ((D.set I dk).set K di = Y)) (HdX : Hid (decodeErr s wo ks ds day X = EX)) (HoX : Hid (decOut s wo ks ds day X = ([] : List Int))) (hX0 : EX ≠ 0) (HdY : Hid (decodeErr s wo ks ds day Y = EY)) (HoY : Hid (decOut s wo ks ds day Y = OY)) (HkY : Hid (keptB wo OY = KY)) (hY0 : EY ≠ 0) (heq : di ≠ dk) (hoY : OY = []) (hkY : KY = []) :
    Calls Try.prog 7 #[.agg #[.int .i64 s, .int .i64 wo, .slice ak ks.length ck, .slice ad ds.length cd], .slice ap plain.length cp, .int .u8 A, .int .u8 A1, .int .u8 A2, .int .u8 A3] w fun e w' => e = .returned (.bool true) ∧ Below w.heap.size w w' := by

  have HR := Lib.hid hR
  obtain ⟨hbk, hl10, hpa⟩ := readyB_ok hR
  obtain ⟨lk5, ld8, s0, s1, _, _, _, k0, dd0, _⟩ := bookErr_ok hbk
  have lk : ks.length ≤ 1000 := by omega
  have ld : ds.length ≤ 1000 := by omega
  have hne : ((ds.length : Int) == 0) = false := by simp; intro h; subst h; simp at dd0
  have hdp : (0 : Int) < ds.length := by omega
  have hlen : ((D.length : Int) != (plain.length : Int) + 2) = false := by simp; omega
  have hD12 : D.length ≤ 12 := by omega
  have hD0 : 0 < D.length := by omega
  have hID : I < D.length := by omega
  have hKD : K < D.length := by omega
  have hIi : (I : Int) < (D.length : Int) := by omega
  have hKi : (K : Int) < (D.length : Int) := by omega
  have Hdl := Lib.hid hdl
  have hs0 : (s == 0) = false := by simp; omega
  have hl2 : ((D.length : Int) == 0) = false := by have : (D.length : Int) ≠ 0 := by omega
                                                   simpa using this
  obtain ⟨r, hr⟩ : ∃ r, s - 1 = r := ⟨_, rfl⟩
  have hr0 : (r == 0) = false := by simp; omega
  have hrp : 0 < r := by omega
  rw [hr] at hu
  obtain ⟨t, ht⟩ : ∃ t, (A3 : Int) % r = t := ⟨_, rfl⟩
  have ht0 : 0 ≤ t := by rw [← ht]; exact Int.emod_nonneg _ (by omega)
  have ht1 : t < r := by rw [← ht]; exact Int.emod_lt_of_pos _ (by omega)
  rw [ht] at hu
  obtain ⟨d0, d1⟩ := d0
  have x0 : IntKind.i64.wrap (A3 : Int) = A3 := IntWalk.i64_in _ (by omega)
  have x1 : IntKind.i64.wrap (di + 1) = di + 1 := IntWalk.i64_in _ (by omega)
  have x2 : IntKind.i64.wrap (s - 1) = r := by rw [← hr]; exact IntWalk.i64_in _ (by omega)
  have x3 : IntKind.i64.wrap (di + 1 + t) = di + 1 + t := IntWalk.i64_in _ (by omega)
  have tm1 : (A3 : Int).tmod r = t := by rw [Int.tmod_eq_emod_of_nonneg (by omega), ht]
  have tm2 : (di + 1 + t).tmod s = u := by rw [Int.tmod_eq_emod_of_nonneg (by omega), hu]
  have hrn : ¬ r = 0 := by omega
  have hsn : ¬ s = 0 := by omega
  have Hdi := Lib.hid hdi
  have Hdk := Lib.hid hdk
  clear hR hbk hpa hdl hdi hdk hr
  have hYe : (EY != 0) = true := by simpa using hY0
  have hYe2 : (EY == 0) = false := by simpa using hY0
  have hdd : (di == dk) = false := by simpa using heq
  have hoYl : OY.length = 0 := by rw [hoY]; rfl
  have hkYl : KY.length = 0 := by rw [hkY]; rfl
  clear hY0 heq hoY hkY
  have hXe : (EX == 0) = false := by simpa using hX0
  clear hX0
  obtain ⟨OX, hOX⟩ : ∃ O : List Int, O = [] := ⟨_, rfl⟩
  have HkX : Hid (keptB wo OX = OX) := Lib.hid (by rw [hOX]; rfl)
  rw [← hOX] at HoX
  have hOXl : OX.length = 0 := by rw [hOX]; rfl
  clear hOX
  go_enter Try.func7, Try.ntmps7
  go_wp2_with fail
  go_at_call 33
  refine (ready_eq s wo ak ks ck ad ds cd ap plain cp true HR _ (hk.below (by (repeat (first | exact Below.refl _ _ | refine Below.alloc ?_ (by first | omega | (simp; done) | (simp; omega)) _ | refine Below.drew ?_ | refine Below.setCell ?_ (by first | omega | (simp; done) | (simp; omega)) _ | refine Below.trans ?_ (Below.mono (by assumption) (by first | omega | (simp; done) | (simp; omega))))))) (hd.below (by (repeat (first | exact Below.refl _ _ | refine Below.alloc ?_ (by first | omega | (simp; done) | (simp; omega)) _ | refine Below.drew ?_ | refine Below.setCell ?_ (by first | omega | (simp; done) | (simp; omega)) _ | refine Below.trans ?_ (Below.mono (by assumption) (by first | omega | (simp; done) | (simp; omega))))))) (hp.below (by (repeat (first | exact Below.refl _ _ | refine Below.alloc ?_ (by first | omega | (simp; done) | (simp; omega)) _ | refine Below.drew ?_ | refine Below.setCell ?_ (by first | omega | (simp; done) | (simp; omega)) _ | refine Below.trans ?_ (Below.mono (by assumption) (by first | omega | (simp; done) | (simp; omega)))))))).mono ?_
  rintro e w1 ⟨rfl, b1⟩
  have t1 : Below w.heap.size w w1 := by (repeat (first | exact Below.refl _ _ | refine Below.alloc ?_ (by first | omega | (simp; done) | (simp; omega)) _ | refine Below.drew ?_ | refine Below.setCell ?_ (by first | omega | (simp; done) | (simp; omega)) _ | refine Below.trans ?_ (Below.mono (by assumption) (by first | omega | (simp; done) | (simp; omega)))))
  replace hk := hk.below t1
  replace hd := hd.below t1
  replace hp := hp.below t1
  obtain ⟨q0, q1, q2, q3⟩ := BookAt.of (b1.mono (by simp))
  have lB := cell_lt q0
  simp only at lB
  go_wp2_with fail
  go_at_call 19
  refine (bookConv_at s wo ak ks ck ad ds cd _ hk hd lk ld nd).mono ?_
  rintro e w2 ⟨⟨akA, ckA, adA, cdA, rfl, kA, dA⟩, b2⟩
  have j2 : Below w1.heap.size w1 w2 := by (repeat (first | exact Below.refl _ _ | refine Below.alloc ?_ (by first | omega | (simp; done) | (simp; omega)) _ | refine Below.drew ?_ | refine Below.setCell ?_ (by first | omega | (simp; done) | (simp; omega)) _ | refine Below.trans ?_ (Below.mono (by assumption) (by first | omega | (simp; done) | (simp; omega)))))
  have t2 : Below w.heap.size w w2 := t1.trans (j2.mono t1.size)
  replace hk := hk.below j2
  replace hd := hd.below j2
  replace hp := hp.below j2
  replace q0 := below_cell j2 q0
  replace q1 := below_cell j2 q1
  replace q2 := below_cell j2 q2
  replace q3 := below_cell j2 q3
  replace lB := Nat.lt_of_lt_of_le lB j2.size
  go_wp2_with fail
  go_at_call 21
  refine (list_at ap plain cp _ hp (by omega) np).mono ?_
  rintro e w3 ⟨⟨aP, cP, rfl, iP, _⟩, b3⟩
  have j3 : Below w2.heap.size w2 w3 := by (repeat (first | exact Below.refl _ _ | refine Below.alloc ?_ (by first | omega | (simp; done) | (simp; omega)) _ | refine Below.drew ?_ | refine Below.setCell ?_ (by first | omega | (simp; done) | (simp; omega)) _ | refine Below.trans ?_ (Below.mono (by assumption) (by first | omega | (simp; done) | (simp; omega)))))
  have t3 : Below w.heap.size w w3 := t2.trans (j3.mono t2.size)
  replace hk := hk.below j3
  replace hd := hd.below j3
  replace hp := hp.below j3
  replace q0 := below_cell j3 q0
  replace q1 := below_cell j3 q1
  replace q2 := below_cell j3 q2
  replace q3 := below_cell j3 q3
  replace lB := Nat.lt_of_lt_of_le lB j3.size
  replace kA := kA.below j3
  replace dA := dA.below j3
  go_wp2_with fail
  go_at_call 20
  refine (code_at s wo akA ks ckA adA ds cdA day aP plain cP D 0 HcO HcE _ kA dA lk ld iP (by omega)).mono ?_
  rintro e w4 ⟨⟨aD, cD, rfl, iD, nD, _⟩, b4⟩
  have j4 : Below w3.heap.size w3 w4 := by (repeat (first | exact Below.refl _ _ | refine Below.alloc ?_ (by first | omega | (simp; done) | (simp; omega)) _ | refine Below.drew ?_ | refine Below.setCell ?_ (by first | omega | (simp; done) | (simp; omega)) _ | refine Below.trans ?_ (Below.mono (by assumption) (by first | omega | (simp; done) | (simp; omega)))))
  have t4 : Below w.heap.size w w4 := t3.trans (j4.mono t3.size)
  replace hk := hk.below j4
  replace hd := hd.below j4
  replace hp := hp.below j4
  replace q0 := below_cell j4 q0
  replace q1 := below_cell j4 q1
  replace q2 := below_cell j4 q2
  replace q3 := below_cell j4 q3
  replace lB := Nat.lt_of_lt_of_le lB j4.size
  replace kA := kA.below j4
  replace dA := dA.below j4
  replace iP := iP.below j4
  clear kA dA iP
  obtain ⟨bD, oD, rfl, lI, cI⟩ := iD I hID
  obtain ⟨bD2, oD2, hq, lK, cK⟩ := iD K hKD
  simp only [Option.some.injEq, Addr.mk.injEq, and_true] at hq
  obtain ⟨rfl, rfl⟩ := hq
  replace cI := cI.trans (by rw [List.getD_eq_getElem?_getD, Hdi.out]; rfl : _ = some (Value.int .i64 di))
  replace cK := cK.trans (by rw [List.getD_eq_getElem?_getD, Hdk.out]; rfl : _ = some (Value.int .i64 dk))
  have lD := lI
  clear lI lK
  go_wp2_with fail
  (refine wp_region_ext 12 (by kernel_rfl) (by kernel_rfl) ?_; simp only [List.take_succ_cons, List.take_zero, List.drop_succ_cons, List.drop_zero]; (repeat (go_big_quiet_step ((fail)))); refine wpQuiet_nil ?_; rintro _ ⟨ex, rfl⟩; have hex := ex.below; have hexz := ex.size; (try simp at hexz); (try (have hy0 : w.heap.size < ex.to.heap.size := by omega)); (try (have hy1 : w.heap.size + 1 < ex.to.heap.size := by omega)); (try (have hy2 : w.heap.size + 2 < ex.to.heap.size := by omega)))
  obtain ⟨w5, hwe⟩ : ∃ x : World, x = ex.to := ⟨_, rfl⟩
  rw [← hwe] at hex ⊢
  clear hwe hexz
  have b5 := hex
  clear hex
  have j5 : Below w4.heap.size w4 w5 := by (repeat (first | exact Below.refl _ _ | refine Below.alloc ?_ (by first | omega | (simp; done) | (simp; omega)) _ | refine Below.drew ?_ | refine Below.setCell ?_ (by first | omega | (simp; done) | (simp; omega)) _ | refine Below.trans ?_ (Below.mono (by assumption) (by first | omega | (simp; done) | (simp; omega)))))
  have t5 : Below w.heap.size w w5 := t4.trans (j5.mono t4.size)
  replace hk := hk.below j5
  replace hd := hd.below j5
  replace hp := hp.below j5
  replace q0 := below_cell j5 q0
  replace q1 := below_cell j5 q1
  replace q2 := below_cell j5 q2
  replace q3 := below_cell j5 q3
  replace lB := Nat.lt_of_lt_of_le lB j5.size
  replace iD := iD.below j5
  replace cI := below_cell j5 cI
  replace cK := below_cell j5 cK
  replace lD := Nat.lt_of_lt_of_le lD j5.size
  go_wp2_with fail
  go_at_call 21
  refine (list_own (some ⟨bD, oD, none⟩) D cD _ iD (by omega) (fun h => by cases h) hD0).mono ?_
  rintro e x1 ⟨⟨gx, cx, rfl, gx0, gx1, ownX⟩, bx1⟩
  have z1 := bx1.size
  go_wp2_with fail
  go_at_call 21
  refine (list_own (some ⟨bD, oD, none⟩) D cD _ (iD.below bx1) (by omega) (fun h => by cases h) hD0).mono ?_
  rintro e x2 ⟨⟨gy, cy, rfl, gy0, gy1, ownY⟩, bx2⟩
  have z2 := bx2.size
  have bT2 : Below w5.heap.size w5 x2 := bx1.trans (bx2.mono bx1.size)
  replace ownX := ownX.kept bx2
  obtain ⟨fX, eX⟩ := own_cell ownX I hID
  have sI := below_cell bT2 cI
  have sK := below_cell bT2 cK
  have s0' := below_cell bT2 q0
  have lB' : w.heap.size < x2.heap.size := by omega
  have lD' : bD < x2.heap.size := by omega
  have lX' : gx < x2.heap.size := by omega
  have lY' : gy < x2.heap.size := by omega
  have eX' := eX.trans (by rw [(List.getElem_eq_iff hID).2 Hdi.out] : _ = some (Value.int .i64 di))
  clear eX bx1 bx2
  go_wp2_with fail
  (refine wp_region_seq 18 [] [18] 157 [true, true, true, true, true, true, true, true, true, true, true, true, true, true, true, true, true, true] [] (by kernel_rfl) (by kernel_rfl) rfl mono_nil ?_; simp only [pickOps, List.filterMap_cons, List.filterMap_nil, List.getElem?_toArray, List.getElem?_cons_succ, List.getElem?_cons_zero]; (repeat (refine wpFl_step _ rfl (fun w => (by go_simp; rfl)) ?_)); refine wpFl_nil ?_; simp only [maskOps, dummy, Act.put, List.setIfInBounds_toArray, List.set_cons_zero, List.set_cons_succ, List.take_succ_cons, List.take_zero, List.drop_succ_cons, List.drop_zero]; (repeat (refine wpQB_step (fun K hK => ?_); go_simp; first | (refine hK _ ?_; clear hK K) | (apply Exists.intro; refine ⟨fun ex => ?_, hK _ ?_⟩; (fail); clear hK K))); refine wpQB_nil ?_; simp only [relObl2, under, relEnd, and_true, List.nil_append, List.cons_append])
  refine ⟨trivial, fun ex => ?_⟩
  have hex := ex.below
  have hexz := ex.size
  obtain ⟨x3, hx3⟩ : ∃ x : World, x = ex.to := ⟨_, rfl⟩
  rw [← hx3] at hex hexz ⊢
  clear hx3
  replace fX := fX
  obtain ⟨fX3, eX3⟩ := own_cell (ownX.kept hex) I hID
  have oX3 := ownX.kept hex
  have oY3 := ownY.kept hex
  have bT3 := bT2.trans (hex.mono (by omega))
  clear hex ownX ownY fX eX'
  go_upto_region 10 with fail
  obtain ⟨x4, hx4⟩ : ∃ x : World, x = x3.setCell ⟨gx, I, none⟩ (.int .i64 u) := ⟨_, rfl⟩
  have oX4 := own_setCell oX3 I (.int .i64 u)
  have oY4 := own_other oY3 (p := ⟨gx, I, none⟩) (show gx ≠ gy by omega) (.int .i64 u)
  have bT4 := bT3.setCell (p := ⟨gx, I, none⟩) gx0 (.int .i64 u)
  rw [← List.map_set, HX.out, ← hx4] at oX4
  rw [← hx4] at oY4 bT4 ⊢
  clear hx4 oX3 oY3
  have fS4 := own_cell oY4 I hID
  obtain ⟨fY4, eY4⟩ := fS4
  have cK4 := below_cell bT4 cK
  have cI4 := below_cell bT4 cI
  have lD4 : bD < x4.heap.size := by have := bT4.size; omega
  have lY4 := own_lt oY4
  go_upto_region 11 with fail
  obtain ⟨x5, hx5⟩ : ∃ x : World, x = x4.setCell ⟨gy, I, none⟩ (.int .i64 dk) := ⟨_, rfl⟩
  have oY5 := own_setCell oY4 I (.int .i64 dk)
  have oX5 := own_other oX4 (p := ⟨gy, I, none⟩) (show gy ≠ gx by omega) (.int .i64 dk)
  have bT5 := bT4.setCell (p := ⟨gy, I, none⟩) (show _ ≤ gy by omega) (.int .i64 dk)
  rw [← List.map_set, ← hx5] at oY5
  rw [← hx5] at oX5 bT5 ⊢
  clear hx5 oX4 oY4 cK4 cI4 lD4 lY4 fY4 eY4
  obtain ⟨fY5, eY5⟩ := own_cell oY5 K (by rw [List.length_set]; exact hKD)
  have cK5 := below_cell bT5 cK
  have cI5 := below_cell bT5 cI
  have lD5 : bD < x5.heap.size := by have := bT5.size; omega
  have lY5 := own_lt oY5
  go_upto_region 12 with fail
  obtain ⟨x6, hx6⟩ : ∃ x : World, x = x5.setCell ⟨gy, K, none⟩ (.int .i64 di) := ⟨_, rfl⟩
  have oY6 := own_setCell oY5 K (.int .i64 di)
  have oX6 := own_other oX5 (p := ⟨gy, K, none⟩) (show gy ≠ gx by omega) (.int .i64 di)
  have bT6 := bT5.setCell (p := ⟨gy, K, none⟩) (show _ ≤ gy by omega) (.int .i64 di)
  rw [← List.map_set, HY.out, ← hx6] at oY6
  rw [← hx6] at oX6 bT6 ⊢
  clear hx6 oX5 oY5 cK5 cI5 lD5 lY5 fY5 eY5 bT5 bT4 bT3 bT2
  have iX := oX6.ints.1
  have iY := oY6.ints.1
  have nX : X.length = D.length := oX6.ints.2.symm
  have nY : Y.length = D.length := oY6.ints.2.symm
  obtain ⟨fx0, fx1⟩ := oX6.fits
  obtain ⟨fy0, fy1⟩ := oY6.fits
  unfold maxLen at fx1 fy1
  have NX := Lib.hid nX
  have NY := Lib.hid nY
  clear nX nY oX6 oY6
  have b6 := bT6
  obtain ⟨w6, hwq⟩ : ∃ x : World, x = x6 := ⟨_, rfl⟩
  subst hwq
  have j6 : Below w5.heap.size w5 w6 := by (repeat (first | exact Below.refl _ _ | refine Below.alloc ?_ (by first | omega | (simp; done) | (simp; omega)) _ | refine Below.drew ?_ | refine Below.setCell ?_ (by first | omega | (simp; done) | (simp; omega)) _ | refine Below.trans ?_ (Below.mono (by assumption) (by first | omega | (simp; done) | (simp; omega)))))
  have t6 : Below w.heap.size w w6 := t5.trans (j6.mono t5.size)
  replace hk := hk.below j6
  replace hd := hd.below j6
  replace hp := hp.below j6
  replace q0 := below_cell j6 q0
  replace q1 := below_cell j6 q1
  replace q2 := below_cell j6 q2
  replace q3 := below_cell j6 q3
  replace lB := Nat.lt_of_lt_of_le lB j6.size
  replace iD := iD.below j6
  replace cI := below_cell j6 cI
  replace cK := below_cell j6 cK
  replace lD := Nat.lt_of_lt_of_le lD j6.size
  go_wp2_with fail
  go_at_call 19
  refine (bookConv_at s wo ak ks ck ad ds cd _ hk hd lk ld nd).mono ?_
  rintro e w7 ⟨⟨akB, ckB, adB, cdB, rfl, kB, dB⟩, b7⟩
  have j7 : Below w6.heap.size w6 w7 := by (repeat (first | exact Below.refl _ _ | refine Below.alloc ?_ (by first | omega | (simp; done) | (simp; omega)) _ | refine Below.drew ?_ | refine Below.setCell ?_ (by first | omega | (simp; done) | (simp; omega)) _ | refine Below.trans ?_ (Below.mono (by assumption) (by first | omega | (simp; done) | (simp; omega)))))
  have t7 : Below w.heap.size w w7 := t6.trans (j7.mono t6.size)
  replace hk := hk.below j7
  replace hd := hd.below j7
  replace hp := hp.below j7
  replace q0 := below_cell j7 q0
  replace q1 := below_cell j7 q1
  replace q2 := below_cell j7 q2
  replace q3 := below_cell j7 q3
  replace lB := Nat.lt_of_lt_of_le lB j7.size
  replace iD := iD.below j7
  replace cI := below_cell j7 cI
  replace cK := below_cell j7 cK
  replace lD := Nat.lt_of_lt_of_le lD j7.size
  replace iX := iX.below j7
  replace iY := iY.below j7
  go_wp2_with fail
  go_at_call 27
  refine (decode_atN s wo akB ks ckB adB ds cdB day _ X cx OX OX EX D.length NX.out HoX HkX HdX _ kB dB lk ld iX (by omega) fx0 fx1).mono ?_
  rintro e w8 ⟨⟨aC, cC, aW, cW, rfl, iC, iW, _⟩, b8⟩
  have j8 : Below w7.heap.size w7 w8 := by (repeat (first | exact Below.refl _ _ | refine Below.alloc ?_ (by first | omega | (simp; done) | (simp; omega)) _ | refine Below.drew ?_ | refine Below.setCell ?_ (by first | omega | (simp; done) | (simp; omega)) _ | refine Below.trans ?_ (Below.mono (by assumption) (by first | omega | (simp; done) | (simp; omega)))))
  have t8 : Below w.heap.size w w8 := t7.trans (j8.mono t7.size)
  replace hk := hk.below j8
  replace hd := hd.below j8
  replace hp := hp.below j8
  replace q0 := below_cell j8 q0
  replace q1 := below_cell j8 q1
  replace q2 := below_cell j8 q2
  replace q3 := below_cell j8 q3
  replace lB := Nat.lt_of_lt_of_le lB j8.size
  replace iD := iD.below j8
  replace cI := below_cell j8 cI
  replace cK := below_cell j8 cK
  replace lD := Nat.lt_of_lt_of_le lD j8.size
  replace iX := iX.below j8
  replace iY := iY.below j8
  replace kB := kB.below j8
  replace dB := dB.below j8
  clear kB dB iX
  go_wp2_with fail
  go_at_call 19
  refine (bookConv_at s wo ak ks ck ad ds cd _ hk hd lk ld nd).mono ?_
  rintro e w9 ⟨⟨akE, ckE, adE, cdE, rfl, kE, dE⟩, b9⟩
  have j9 : Below w8.heap.size w8 w9 := by (repeat (first | exact Below.refl _ _ | refine Below.alloc ?_ (by first | omega | (simp; done) | (simp; omega)) _ | refine Below.drew ?_ | refine Below.setCell ?_ (by first | omega | (simp; done) | (simp; omega)) _ | refine Below.trans ?_ (Below.mono (by assumption) (by first | omega | (simp; done) | (simp; omega)))))
  have t9 : Below w.heap.size w w9 := t8.trans (j9.mono t8.size)
  replace hk := hk.below j9
  replace hd := hd.below j9
  replace hp := hp.below j9
  replace q0 := below_cell j9 q0
  replace q1 := below_cell j9 q1
  replace q2 := below_cell j9 q2
  replace q3 := below_cell j9 q3
  replace lB := Nat.lt_of_lt_of_le lB j9.size
  replace iD := iD.below j9
  replace cI := below_cell j9 cI
  replace cK := below_cell j9 cK
  replace lD := Nat.lt_of_lt_of_le lD j9.size
  replace iY := iY.below j9
  go_wp2_with fail
  go_at_call 27
  refine (decode_atN s wo akE ks ckE adE ds cdE day _ Y cy OY KY EY D.length NY.out HoY HkY HdY _ kE dE lk ld iY (by omega) fy0 fy1).mono ?_
  rintro e w10 ⟨⟨aR, cR, aS, cS, rfl, iR, iS, _⟩, b10⟩
  have j10 : Below w9.heap.size w9 w10 := by (repeat (first | exact Below.refl _ _ | refine Below.alloc ?_ (by first | omega | (simp; done) | (simp; omega)) _ | refine Below.drew ?_ | refine Below.setCell ?_ (by first | omega | (simp; done) | (simp; omega)) _ | refine Below.trans ?_ (Below.mono (by assumption) (by first | omega | (simp; done) | (simp; omega)))))
  have t10 : Below w.heap.size w w10 := t9.trans (j10.mono t9.size)
  replace hk := hk.below j10
  replace hd := hd.below j10
  replace hp := hp.below j10
  replace q0 := below_cell j10 q0
  replace q1 := below_cell j10 q1
  replace q2 := below_cell j10 q2
  replace q3 := below_cell j10 q3
  replace lB := Nat.lt_of_lt_of_le lB j10.size
  replace iD := iD.below j10
  replace cI := below_cell j10 cI
  replace cK := below_cell j10 cK
  replace lD := Nat.lt_of_lt_of_le lD j10.size
  replace iY := iY.below j10
  replace kE := kE.below j10
  replace dE := dE.below j10
  clear kE dE iY
  go_wp2_with fail
  (refine wp_region_ext 9 (by kernel_rfl) (by kernel_rfl) ?_; simp only [List.take_succ_cons, List.take_zero, List.drop_succ_cons, List.drop_zero]; (repeat (go_big_quiet_step ((fail)))); refine wpQuiet_nil ?_; rintro _ ⟨ex, rfl⟩; have hex := ex.below; have hexz := ex.size; (try simp at hexz); (try (have hy0 : w.heap.size < ex.to.heap.size := by omega)); (try (have hy1 : w.heap.size + 1 < ex.to.heap.size := by omega)); (try (have hy2 : w.heap.size + 2 < ex.to.heap.size := by omega)))
  obtain ⟨w11, hwe⟩ : ∃ x : World, x = ex.to := ⟨_, rfl⟩
  rw [← hwe] at hex ⊢
  clear hwe hexz
  have b11 := hex
  clear hex
  have j11 : Below w10.heap.size w10 w11 := by (repeat (first | exact Below.refl _ _ | refine Below.alloc ?_ (by first | omega | (simp; done) | (simp; omega)) _ | refine Below.drew ?_ | refine Below.setCell ?_ (by first | omega | (simp; done) | (simp; omega)) _ | refine Below.trans ?_ (Below.mono (by assumption) (by first | omega | (simp; done) | (simp; omega)))))
  have t11 : Below w.heap.size w w11 := t10.trans (j11.mono t10.size)
  replace hk := hk.below j11
  replace hd := hd.below j11
  replace hp := hp.below j11
  replace q0 := below_cell j11 q0
  replace q1 := below_cell j11 q1
  replace q2 := below_cell j11 q2
  replace q3 := below_cell j11 q3
  replace lB := Nat.lt_of_lt_of_le lB j11.size
  replace iD := iD.below j11
  replace cI := below_cell j11 cI
  replace cK := below_cell j11 cK
  replace lD := Nat.lt_of_lt_of_le lD j11.size
  go_wp2_with fail
  go_at_call 17
  refine (awake_any _).mono ?_
  rintro e w12 ⟨rfl, b12⟩
  have j12 : Below w11.heap.size w11 w12 := by (repeat (first | exact Below.refl _ _ | refine Below.alloc ?_ (by first | omega | (simp; done) | (simp; omega)) _ | refine Below.drew ?_ | refine Below.setCell ?_ (by first | omega | (simp; done) | (simp; omega)) _ | refine Below.trans ?_ (Below.mono (by assumption) (by first | omega | (simp; done) | (simp; omega)))))
  have t12 : Below w.heap.size w w12 := t11.trans (j12.mono t11.size)
  replace hk := hk.below j12
  replace hd := hd.below j12
  replace hp := hp.below j12
  replace q0 := below_cell j12 q0
  replace q1 := below_cell j12 q1
  replace q2 := below_cell j12 q2
  replace q3 := below_cell j12 q3
  replace lB := Nat.lt_of_lt_of_le lB j12.size
  replace iD := iD.below j12
  replace cI := below_cell j12 cI
  replace cK := below_cell j12 cK
  replace lD := Nat.lt_of_lt_of_le lD j12.size
  go_wp2_with fail
  go_ret
  exact ⟨rfl, t12⟩

set_option maxRecDepth 100000 in
set_option maxHeartbeats 8000000 in
theorem wrong_c (s wo : Int) (ak : Option Addr) (ks : List (Int × Int × Int)) (ck : Nat) (ad : Option Addr) (ds : List Int) (cd : Nat) (ap : Option Addr) (plain : List Int) (cp : Nat) (A A1 A2 A3 : Nat) (w : World) (hk : Recs3At w ak ks) (hd : IntsAt w ad ds) (nd : ad = none → cd = 0) (hp : IntsAt w ap plain) (np : ap = none → cp = 0) (hA : A ≤ 255) (hA1 : A1 ≤ 255) (hA2 : A2 ≤ 255) (hA3 : A3 ≤ 255) (hR : readyB s wo ks ds plain = true) (I K : Nat) (D : List Int) (hI : (A1 : Int) % (D.length : Int) = (I : Int)) (hK : (A2 : Int) % (D.length : Int) = (K : Int)) (Il : I < plain.length + 2) (Kl : K < plain.length + 2) (u : Int) (X Y OY KY : List Int) (EX EY : Int) (day : Int) (hday : (A : Int) % (ds.length : Int) = day) (hdl : D.length = plain.length + 2) (HcE : Hid (codeErr s wo ks ds day plain = 0)) (HcO : Hid (codeOut s wo ks ds day plain = D)) (di dk : Int) (hdi : D[I]? = some di) (hdk : D[K]? = some dk) (d0 : 0 ≤ di ∧ di < s) (hu : (di + 1 + (A3 : Int) % (s - 1)) % s = u) (HX : Hid (D.set I u = X)) (HY : Hid ((D.set I dk).set K di = Y)) (HdX : Hid (decodeErr s wo ks ds day X = EX)) (HoX : Hid (decOut s wo ks ds day X = ([] : List Int))) (hX0 : EX ≠ 0) (HdY : Hid (decodeErr s wo ks ds day Y = EY)) (HoY : Hid (decOut s wo ks ds day Y = OY)) (HkY : Hid (keptB wo OY = KY)) (hY0 : EY = 0) (heq : di = dk) :
    Calls Try.prog 7 #[.agg #[.int .i64 s, .int .i64 wo, .slice ak ks.length ck, .slice ad ds.length cd], .slice ap plain.length cp, .int .u8 A, .int .u8 A1, .int .u8 A2, .int .u8 A3] w fun e w' => e = .returned (.bool true) ∧ Below w.heap.size w w' := by

  have HR := Lib.hid hR
  obtain ⟨hbk, hl10, hpa⟩ := readyB_ok hR
  obtain ⟨lk5, ld8, s0, s1, _, _, _, k0, dd0, _⟩ := bookErr_ok hbk
  have lk : ks.length ≤ 1000 := by omega
  have ld : ds.length ≤ 1000 := by omega
  have hne : ((ds.length : Int) == 0) = false := by simp; intro h; subst h; simp at dd0
  have hdp : (0 : Int) < ds.length := by omega
  have hlen : ((D.length : Int) != (plain.length : Int) + 2) = false := by simp; omega
  have hD12 : D.length ≤ 12 := by omega
  have hD0 : 0 < D.length := by omega
  have hID : I < D.length := by omega
  have hKD : K < D.length := by omega
  have hIi : (I : Int) < (D.length : Int) := by omega
  have hKi : (K : Int) < (D.length : Int) := by omega
  have Hdl := Lib.hid hdl
  have hs0 : (s == 0) = false := by simp; omega
  have hl2 : ((D.length : Int) == 0) = false := by have : (D.length : Int) ≠ 0 := by omega
                                                   simpa using this
  obtain ⟨r, hr⟩ : ∃ r, s - 1 = r := ⟨_, rfl⟩
  have hr0 : (r == 0) = false := by simp; omega
  have hrp : 0 < r := by omega
  rw [hr] at hu
  obtain ⟨t, ht⟩ : ∃ t, (A3 : Int) % r = t := ⟨_, rfl⟩
  have ht0 : 0 ≤ t := by rw [← ht]; exact Int.emod_nonneg _ (by omega)
  have ht1 : t < r := by rw [← ht]; exact Int.emod_lt_of_pos _ (by omega)
  rw [ht] at hu
  obtain ⟨d0, d1⟩ := d0
  have x0 : IntKind.i64.wrap (A3 : Int) = A3 := IntWalk.i64_in _ (by omega)
  have x1 : IntKind.i64.wrap (di + 1) = di + 1 := IntWalk.i64_in _ (by omega)
  have x2 : IntKind.i64.wrap (s - 1) = r := by rw [← hr]; exact IntWalk.i64_in _ (by omega)
  have x3 : IntKind.i64.wrap (di + 1 + t) = di + 1 + t := IntWalk.i64_in _ (by omega)
  have tm1 : (A3 : Int).tmod r = t := by rw [Int.tmod_eq_emod_of_nonneg (by omega), ht]
  have tm2 : (di + 1 + t).tmod s = u := by rw [Int.tmod_eq_emod_of_nonneg (by omega), hu]
  have hrn : ¬ r = 0 := by omega
  have hsn : ¬ s = 0 := by omega
  have Hdi := Lib.hid hdi
  have Hdk := Lib.hid hdk
  clear hR hbk hpa hdl hdi hdk hr
  have hYe : (EY == 0) = true := by simpa using hY0
  have hdd : (di == dk) = true := by simpa using heq
  clear hY0 heq
  have hXe : (EX == 0) = false := by simpa using hX0
  clear hX0
  obtain ⟨OX, hOX⟩ : ∃ O : List Int, O = [] := ⟨_, rfl⟩
  have HkX : Hid (keptB wo OX = OX) := Lib.hid (by rw [hOX]; rfl)
  rw [← hOX] at HoX
  have hOXl : OX.length = 0 := by rw [hOX]; rfl
  clear hOX
  go_enter Try.func7, Try.ntmps7
  go_wp2_with fail
  go_at_call 33
  refine (ready_eq s wo ak ks ck ad ds cd ap plain cp true HR _ (hk.below (by (repeat (first | exact Below.refl _ _ | refine Below.alloc ?_ (by first | omega | (simp; done) | (simp; omega)) _ | refine Below.drew ?_ | refine Below.setCell ?_ (by first | omega | (simp; done) | (simp; omega)) _ | refine Below.trans ?_ (Below.mono (by assumption) (by first | omega | (simp; done) | (simp; omega))))))) (hd.below (by (repeat (first | exact Below.refl _ _ | refine Below.alloc ?_ (by first | omega | (simp; done) | (simp; omega)) _ | refine Below.drew ?_ | refine Below.setCell ?_ (by first | omega | (simp; done) | (simp; omega)) _ | refine Below.trans ?_ (Below.mono (by assumption) (by first | omega | (simp; done) | (simp; omega))))))) (hp.below (by (repeat (first | exact Below.refl _ _ | refine Below.alloc ?_ (by first | omega | (simp; done) | (simp; omega)) _ | refine Below.drew ?_ | refine Below.setCell ?_ (by first | omega | (simp; done) | (simp; omega)) _ | refine Below.trans ?_ (Below.mono (by assumption) (by first | omega | (simp; done) | (simp; omega)))))))).mono ?_
  rintro e w1 ⟨rfl, b1⟩
  have t1 : Below w.heap.size w w1 := by (repeat (first | exact Below.refl _ _ | refine Below.alloc ?_ (by first | omega | (simp; done) | (simp; omega)) _ | refine Below.drew ?_ | refine Below.setCell ?_ (by first | omega | (simp; done) | (simp; omega)) _ | refine Below.trans ?_ (Below.mono (by assumption) (by first | omega | (simp; done) | (simp; omega)))))
  replace hk := hk.below t1
  replace hd := hd.below t1
  replace hp := hp.below t1
  obtain ⟨q0, q1, q2, q3⟩ := BookAt.of (b1.mono (by simp))
  have lB := cell_lt q0
  simp only at lB
  go_wp2_with fail
  go_at_call 19
  refine (bookConv_at s wo ak ks ck ad ds cd _ hk hd lk ld nd).mono ?_
  rintro e w2 ⟨⟨akA, ckA, adA, cdA, rfl, kA, dA⟩, b2⟩
  have j2 : Below w1.heap.size w1 w2 := by (repeat (first | exact Below.refl _ _ | refine Below.alloc ?_ (by first | omega | (simp; done) | (simp; omega)) _ | refine Below.drew ?_ | refine Below.setCell ?_ (by first | omega | (simp; done) | (simp; omega)) _ | refine Below.trans ?_ (Below.mono (by assumption) (by first | omega | (simp; done) | (simp; omega)))))
  have t2 : Below w.heap.size w w2 := t1.trans (j2.mono t1.size)
  replace hk := hk.below j2
  replace hd := hd.below j2
  replace hp := hp.below j2
  replace q0 := below_cell j2 q0
  replace q1 := below_cell j2 q1
  replace q2 := below_cell j2 q2
  replace q3 := below_cell j2 q3
  replace lB := Nat.lt_of_lt_of_le lB j2.size
  go_wp2_with fail
  go_at_call 21
  refine (list_at ap plain cp _ hp (by omega) np).mono ?_
  rintro e w3 ⟨⟨aP, cP, rfl, iP, _⟩, b3⟩
  have j3 : Below w2.heap.size w2 w3 := by (repeat (first | exact Below.refl _ _ | refine Below.alloc ?_ (by first | omega | (simp; done) | (simp; omega)) _ | refine Below.drew ?_ | refine Below.setCell ?_ (by first | omega | (simp; done) | (simp; omega)) _ | refine Below.trans ?_ (Below.mono (by assumption) (by first | omega | (simp; done) | (simp; omega)))))
  have t3 : Below w.heap.size w w3 := t2.trans (j3.mono t2.size)
  replace hk := hk.below j3
  replace hd := hd.below j3
  replace hp := hp.below j3
  replace q0 := below_cell j3 q0
  replace q1 := below_cell j3 q1
  replace q2 := below_cell j3 q2
  replace q3 := below_cell j3 q3
  replace lB := Nat.lt_of_lt_of_le lB j3.size
  replace kA := kA.below j3
  replace dA := dA.below j3
  go_wp2_with fail
  go_at_call 20
  refine (code_at s wo akA ks ckA adA ds cdA day aP plain cP D 0 HcO HcE _ kA dA lk ld iP (by omega)).mono ?_
  rintro e w4 ⟨⟨aD, cD, rfl, iD, nD, _⟩, b4⟩
  have j4 : Below w3.heap.size w3 w4 := by (repeat (first | exact Below.refl _ _ | refine Below.alloc ?_ (by first | omega | (simp; done) | (simp; omega)) _ | refine Below.drew ?_ | refine Below.setCell ?_ (by first | omega | (simp; done) | (simp; omega)) _ | refine Below.trans ?_ (Below.mono (by assumption) (by first | omega | (simp; done) | (simp; omega)))))
  have t4 : Below w.heap.size w w4 := t3.trans (j4.mono t3.size)
  replace hk := hk.below j4
  replace hd := hd.below j4
  replace hp := hp.below j4
  replace q0 := below_cell j4 q0
  replace q1 := below_cell j4 q1
  replace q2 := below_cell j4 q2
  replace q3 := below_cell j4 q3
  replace lB := Nat.lt_of_lt_of_le lB j4.size
  replace kA := kA.below j4
  replace dA := dA.below j4
  replace iP := iP.below j4
  clear kA dA iP
  obtain ⟨bD, oD, rfl, lI, cI⟩ := iD I hID
  obtain ⟨bD2, oD2, hq, lK, cK⟩ := iD K hKD
  simp only [Option.some.injEq, Addr.mk.injEq, and_true] at hq
  obtain ⟨rfl, rfl⟩ := hq
  replace cI := cI.trans (by rw [List.getD_eq_getElem?_getD, Hdi.out]; rfl : _ = some (Value.int .i64 di))
  replace cK := cK.trans (by rw [List.getD_eq_getElem?_getD, Hdk.out]; rfl : _ = some (Value.int .i64 dk))
  have lD := lI
  clear lI lK
  go_wp2_with fail
  (refine wp_region_ext 12 (by kernel_rfl) (by kernel_rfl) ?_; simp only [List.take_succ_cons, List.take_zero, List.drop_succ_cons, List.drop_zero]; (repeat (go_big_quiet_step ((fail)))); refine wpQuiet_nil ?_; rintro _ ⟨ex, rfl⟩; have hex := ex.below; have hexz := ex.size; (try simp at hexz); (try (have hy0 : w.heap.size < ex.to.heap.size := by omega)); (try (have hy1 : w.heap.size + 1 < ex.to.heap.size := by omega)); (try (have hy2 : w.heap.size + 2 < ex.to.heap.size := by omega)))
  obtain ⟨w5, hwe⟩ : ∃ x : World, x = ex.to := ⟨_, rfl⟩
  rw [← hwe] at hex ⊢
  clear hwe hexz
  have b5 := hex
  clear hex
  have j5 : Below w4.heap.size w4 w5 := by (repeat (first | exact Below.refl _ _ | refine Below.alloc ?_ (by first | omega | (simp; done) | (simp; omega)) _ | refine Below.drew ?_ | refine Below.setCell ?_ (by first | omega | (simp; done) | (simp; omega)) _ | refine Below.trans ?_ (Below.mono (by assumption) (by first | omega | (simp; done) | (simp; omega)))))
  have t5 : Below w.heap.size w w5 := t4.trans (j5.mono t4.size)
  replace hk := hk.below j5
  replace hd := hd.below j5
  replace hp := hp.below j5
  replace q0 := below_cell j5 q0
  replace q1 := below_cell j5 q1
  replace q2 := below_cell j5 q2
  replace q3 := below_cell j5 q3
  replace lB := Nat.lt_of_lt_of_le lB j5.size
  replace iD := iD.below j5
  replace cI := below_cell j5 cI
  replace cK := below_cell j5 cK
  replace lD := Nat.lt_of_lt_of_le lD j5.size
  go_wp2_with fail
  go_at_call 21
  refine (list_own (some ⟨bD, oD, none⟩) D cD _ iD (by omega) (fun h => by cases h) hD0).mono ?_
  rintro e x1 ⟨⟨gx, cx, rfl, gx0, gx1, ownX⟩, bx1⟩
  have z1 := bx1.size
  go_wp2_with fail
  go_at_call 21
  refine (list_own (some ⟨bD, oD, none⟩) D cD _ (iD.below bx1) (by omega) (fun h => by cases h) hD0).mono ?_
  rintro e x2 ⟨⟨gy, cy, rfl, gy0, gy1, ownY⟩, bx2⟩
  have z2 := bx2.size
  have bT2 : Below w5.heap.size w5 x2 := bx1.trans (bx2.mono bx1.size)
  replace ownX := ownX.kept bx2
  obtain ⟨fX, eX⟩ := own_cell ownX I hID
  have sI := below_cell bT2 cI
  have sK := below_cell bT2 cK
  have s0' := below_cell bT2 q0
  have lB' : w.heap.size < x2.heap.size := by omega
  have lD' : bD < x2.heap.size := by omega
  have lX' : gx < x2.heap.size := by omega
  have lY' : gy < x2.heap.size := by omega
  have eX' := eX.trans (by rw [(List.getElem_eq_iff hID).2 Hdi.out] : _ = some (Value.int .i64 di))
  clear eX bx1 bx2
  go_wp2_with fail
  (refine wp_region_seq 18 [] [18] 157 [true, true, true, true, true, true, true, true, true, true, true, true, true, true, true, true, true, true] [] (by kernel_rfl) (by kernel_rfl) rfl mono_nil ?_; simp only [pickOps, List.filterMap_cons, List.filterMap_nil, List.getElem?_toArray, List.getElem?_cons_succ, List.getElem?_cons_zero]; (repeat (refine wpFl_step _ rfl (fun w => (by go_simp; rfl)) ?_)); refine wpFl_nil ?_; simp only [maskOps, dummy, Act.put, List.setIfInBounds_toArray, List.set_cons_zero, List.set_cons_succ, List.take_succ_cons, List.take_zero, List.drop_succ_cons, List.drop_zero]; (repeat (refine wpQB_step (fun K hK => ?_); go_simp; first | (refine hK _ ?_; clear hK K) | (apply Exists.intro; refine ⟨fun ex => ?_, hK _ ?_⟩; (fail); clear hK K))); refine wpQB_nil ?_; simp only [relObl2, under, relEnd, and_true, List.nil_append, List.cons_append])
  refine ⟨trivial, fun ex => ?_⟩
  have hex := ex.below
  have hexz := ex.size
  obtain ⟨x3, hx3⟩ : ∃ x : World, x = ex.to := ⟨_, rfl⟩
  rw [← hx3] at hex hexz ⊢
  clear hx3
  replace fX := fX
  obtain ⟨fX3, eX3⟩ := own_cell (ownX.kept hex) I hID
  have oX3 := ownX.kept hex
  have oY3 := ownY.kept hex
  have bT3 := bT2.trans (hex.mono (by omega))
  clear hex ownX ownY fX eX'
  go_upto_region 10 with fail
  obtain ⟨x4, hx4⟩ : ∃ x : World, x = x3.setCell ⟨gx, I, none⟩ (.int .i64 u) := ⟨_, rfl⟩
  have oX4 := own_setCell oX3 I (.int .i64 u)
  have oY4 := own_other oY3 (p := ⟨gx, I, none⟩) (show gx ≠ gy by omega) (.int .i64 u)
  have bT4 := bT3.setCell (p := ⟨gx, I, none⟩) gx0 (.int .i64 u)
  rw [← List.map_set, HX.out, ← hx4] at oX4
  rw [← hx4] at oY4 bT4 ⊢
  clear hx4 oX3 oY3
  have fS4 := own_cell oY4 I hID
  obtain ⟨fY4, eY4⟩ := fS4
  have cK4 := below_cell bT4 cK
  have cI4 := below_cell bT4 cI
  have lD4 : bD < x4.heap.size := by have := bT4.size; omega
  have lY4 := own_lt oY4
  go_upto_region 11 with fail
  obtain ⟨x5, hx5⟩ : ∃ x : World, x = x4.setCell ⟨gy, I, none⟩ (.int .i64 dk) := ⟨_, rfl⟩
  have oY5 := own_setCell oY4 I (.int .i64 dk)
  have oX5 := own_other oX4 (p := ⟨gy, I, none⟩) (show gy ≠ gx by omega) (.int .i64 dk)
  have bT5 := bT4.setCell (p := ⟨gy, I, none⟩) (show _ ≤ gy by omega) (.int .i64 dk)
  rw [← List.map_set, ← hx5] at oY5
  rw [← hx5] at oX5 bT5 ⊢
  clear hx5 oX4 oY4 cK4 cI4 lD4 lY4 fY4 eY4
  obtain ⟨fY5, eY5⟩ := own_cell oY5 K (by rw [List.length_set]; exact hKD)
  have cK5 := below_cell bT5 cK
  have cI5 := below_cell bT5 cI
  have lD5 : bD < x5.heap.size := by have := bT5.size; omega
  have lY5 := own_lt oY5
  go_upto_region 12 with fail
  obtain ⟨x6, hx6⟩ : ∃ x : World, x = x5.setCell ⟨gy, K, none⟩ (.int .i64 di) := ⟨_, rfl⟩
  have oY6 := own_setCell oY5 K (.int .i64 di)
  have oX6 := own_other oX5 (p := ⟨gy, K, none⟩) (show gy ≠ gx by omega) (.int .i64 di)
  have bT6 := bT5.setCell (p := ⟨gy, K, none⟩) (show _ ≤ gy by omega) (.int .i64 di)
  rw [← List.map_set, HY.out, ← hx6] at oY6
  rw [← hx6] at oX6 bT6 ⊢
  clear hx6 oX5 oY5 cK5 cI5 lD5 lY5 fY5 eY5 bT5 bT4 bT3 bT2
  have iX := oX6.ints.1
  have iY := oY6.ints.1
  have nX : X.length = D.length := oX6.ints.2.symm
  have nY : Y.length = D.length := oY6.ints.2.symm
  obtain ⟨fx0, fx1⟩ := oX6.fits
  obtain ⟨fy0, fy1⟩ := oY6.fits
  unfold maxLen at fx1 fy1
  have NX := Lib.hid nX
  have NY := Lib.hid nY
  clear nX nY oX6 oY6
  have b6 := bT6
  obtain ⟨w6, hwq⟩ : ∃ x : World, x = x6 := ⟨_, rfl⟩
  subst hwq
  have j6 : Below w5.heap.size w5 w6 := by (repeat (first | exact Below.refl _ _ | refine Below.alloc ?_ (by first | omega | (simp; done) | (simp; omega)) _ | refine Below.drew ?_ | refine Below.setCell ?_ (by first | omega | (simp; done) | (simp; omega)) _ | refine Below.trans ?_ (Below.mono (by assumption) (by first | omega | (simp; done) | (simp; omega)))))
  have t6 : Below w.heap.size w w6 := t5.trans (j6.mono t5.size)
  replace hk := hk.below j6
  replace hd := hd.below j6
  replace hp := hp.below j6
  replace q0 := below_cell j6 q0
  replace q1 := below_cell j6 q1
  replace q2 := below_cell j6 q2
  replace q3 := below_cell j6 q3
  replace lB := Nat.lt_of_lt_of_le lB j6.size
  replace iD := iD.below j6
  replace cI := below_cell j6 cI
  replace cK := below_cell j6 cK
  replace lD := Nat.lt_of_lt_of_le lD j6.size
  go_wp2_with fail
  go_at_call 19
  refine (bookConv_at s wo ak ks ck ad ds cd _ hk hd lk ld nd).mono ?_
  rintro e w7 ⟨⟨akB, ckB, adB, cdB, rfl, kB, dB⟩, b7⟩
  have j7 : Below w6.heap.size w6 w7 := by (repeat (first | exact Below.refl _ _ | refine Below.alloc ?_ (by first | omega | (simp; done) | (simp; omega)) _ | refine Below.drew ?_ | refine Below.setCell ?_ (by first | omega | (simp; done) | (simp; omega)) _ | refine Below.trans ?_ (Below.mono (by assumption) (by first | omega | (simp; done) | (simp; omega)))))
  have t7 : Below w.heap.size w w7 := t6.trans (j7.mono t6.size)
  replace hk := hk.below j7
  replace hd := hd.below j7
  replace hp := hp.below j7
  replace q0 := below_cell j7 q0
  replace q1 := below_cell j7 q1
  replace q2 := below_cell j7 q2
  replace q3 := below_cell j7 q3
  replace lB := Nat.lt_of_lt_of_le lB j7.size
  replace iD := iD.below j7
  replace cI := below_cell j7 cI
  replace cK := below_cell j7 cK
  replace lD := Nat.lt_of_lt_of_le lD j7.size
  replace iX := iX.below j7
  replace iY := iY.below j7
  go_wp2_with fail
  go_at_call 27
  refine (decode_atN s wo akB ks ckB adB ds cdB day _ X cx OX OX EX D.length NX.out HoX HkX HdX _ kB dB lk ld iX (by omega) fx0 fx1).mono ?_
  rintro e w8 ⟨⟨aC, cC, aW, cW, rfl, iC, iW, _⟩, b8⟩
  have j8 : Below w7.heap.size w7 w8 := by (repeat (first | exact Below.refl _ _ | refine Below.alloc ?_ (by first | omega | (simp; done) | (simp; omega)) _ | refine Below.drew ?_ | refine Below.setCell ?_ (by first | omega | (simp; done) | (simp; omega)) _ | refine Below.trans ?_ (Below.mono (by assumption) (by first | omega | (simp; done) | (simp; omega)))))
  have t8 : Below w.heap.size w w8 := t7.trans (j8.mono t7.size)
  replace hk := hk.below j8
  replace hd := hd.below j8
  replace hp := hp.below j8
  replace q0 := below_cell j8 q0
  replace q1 := below_cell j8 q1
  replace q2 := below_cell j8 q2
  replace q3 := below_cell j8 q3
  replace lB := Nat.lt_of_lt_of_le lB j8.size
  replace iD := iD.below j8
  replace cI := below_cell j8 cI
  replace cK := below_cell j8 cK
  replace lD := Nat.lt_of_lt_of_le lD j8.size
  replace iX := iX.below j8
  replace iY := iY.below j8
  replace kB := kB.below j8
  replace dB := dB.below j8
  clear kB dB iX
  go_wp2_with fail
  go_at_call 19
  refine (bookConv_at s wo ak ks ck ad ds cd _ hk hd lk ld nd).mono ?_
  rintro e w9 ⟨⟨akE, ckE, adE, cdE, rfl, kE, dE⟩, b9⟩
  have j9 : Below w8.heap.size w8 w9 := by (repeat (first | exact Below.refl _ _ | refine Below.alloc ?_ (by first | omega | (simp; done) | (simp; omega)) _ | refine Below.drew ?_ | refine Below.setCell ?_ (by first | omega | (simp; done) | (simp; omega)) _ | refine Below.trans ?_ (Below.mono (by assumption) (by first | omega | (simp; done) | (simp; omega)))))
  have t9 : Below w.heap.size w w9 := t8.trans (j9.mono t8.size)
  replace hk := hk.below j9
  replace hd := hd.below j9
  replace hp := hp.below j9
  replace q0 := below_cell j9 q0
  replace q1 := below_cell j9 q1
  replace q2 := below_cell j9 q2
  replace q3 := below_cell j9 q3
  replace lB := Nat.lt_of_lt_of_le lB j9.size
  replace iD := iD.below j9
  replace cI := below_cell j9 cI
  replace cK := below_cell j9 cK
  replace lD := Nat.lt_of_lt_of_le lD j9.size
  replace iY := iY.below j9
  go_wp2_with fail
  go_at_call 27
  refine (decode_atN s wo akE ks ckE adE ds cdE day _ Y cy OY KY EY D.length NY.out HoY HkY HdY _ kE dE lk ld iY (by omega) fy0 fy1).mono ?_
  rintro e w10 ⟨⟨aR, cR, aS, cS, rfl, iR, iS, _⟩, b10⟩
  have j10 : Below w9.heap.size w9 w10 := by (repeat (first | exact Below.refl _ _ | refine Below.alloc ?_ (by first | omega | (simp; done) | (simp; omega)) _ | refine Below.drew ?_ | refine Below.setCell ?_ (by first | omega | (simp; done) | (simp; omega)) _ | refine Below.trans ?_ (Below.mono (by assumption) (by first | omega | (simp; done) | (simp; omega)))))
  have t10 : Below w.heap.size w w10 := t9.trans (j10.mono t9.size)
  replace hk := hk.below j10
  replace hd := hd.below j10
  replace hp := hp.below j10
  replace q0 := below_cell j10 q0
  replace q1 := below_cell j10 q1
  replace q2 := below_cell j10 q2
  replace q3 := below_cell j10 q3
  replace lB := Nat.lt_of_lt_of_le lB j10.size
  replace iD := iD.below j10
  replace cI := below_cell j10 cI
  replace cK := below_cell j10 cK
  replace lD := Nat.lt_of_lt_of_le lD j10.size
  replace iY := iY.below j10
  replace kE := kE.below j10
  replace dE := dE.below j10
  clear kE dE iY
  go_wp2_with fail
  (refine wp_region_ext 9 (by kernel_rfl) (by kernel_rfl) ?_; simp only [List.take_succ_cons, List.take_zero, List.drop_succ_cons, List.drop_zero]; (repeat (go_big_quiet_step ((fail)))); refine wpQuiet_nil ?_; rintro _ ⟨ex, rfl⟩; have hex := ex.below; have hexz := ex.size; (try simp at hexz); (try (have hy0 : w.heap.size < ex.to.heap.size := by omega)); (try (have hy1 : w.heap.size + 1 < ex.to.heap.size := by omega)); (try (have hy2 : w.heap.size + 2 < ex.to.heap.size := by omega)))
  obtain ⟨w11, hwe⟩ : ∃ x : World, x = ex.to := ⟨_, rfl⟩
  rw [← hwe] at hex ⊢
  clear hwe hexz
  have b11 := hex
  clear hex
  have j11 : Below w10.heap.size w10 w11 := by (repeat (first | exact Below.refl _ _ | refine Below.alloc ?_ (by first | omega | (simp; done) | (simp; omega)) _ | refine Below.drew ?_ | refine Below.setCell ?_ (by first | omega | (simp; done) | (simp; omega)) _ | refine Below.trans ?_ (Below.mono (by assumption) (by first | omega | (simp; done) | (simp; omega)))))
  have t11 : Below w.heap.size w w11 := t10.trans (j11.mono t10.size)
  replace hk := hk.below j11
  replace hd := hd.below j11
  replace hp := hp.below j11
  replace q0 := below_cell j11 q0
  replace q1 := below_cell j11 q1
  replace q2 := below_cell j11 q2
  replace q3 := below_cell j11 q3
  replace lB := Nat.lt_of_lt_of_le lB j11.size
  replace iD := iD.below j11
  replace cI := below_cell j11 cI
  replace cK := below_cell j11 cK
  replace lD := Nat.lt_of_lt_of_le lD j11.size
  go_wp2_with fail
  go_at_call 17
  refine (awake_any _).mono ?_
  rintro e w12 ⟨rfl, b12⟩
  have j12 : Below w11.heap.size w11 w12 := by (repeat (first | exact Below.refl _ _ | refine Below.alloc ?_ (by first | omega | (simp; done) | (simp; omega)) _ | refine Below.drew ?_ | refine Below.setCell ?_ (by first | omega | (simp; done) | (simp; omega)) _ | refine Below.trans ?_ (Below.mono (by assumption) (by first | omega | (simp; done) | (simp; omega)))))
  have t12 : Below w.heap.size w w12 := t11.trans (j12.mono t11.size)
  replace hk := hk.below j12
  replace hd := hd.below j12
  replace hp := hp.below j12
  replace q0 := below_cell j12 q0
  replace q1 := below_cell j12 q1
  replace q2 := below_cell j12 q2
  replace q3 := below_cell j12 q3
  replace lB := Nat.lt_of_lt_of_le lB j12.size
  replace iD := iD.below j12
  replace cI := below_cell j12 cI
  replace cK := below_cell j12 cK
  replace lD := Nat.lt_of_lt_of_le lD j12.size
  go_wp2_with fail
  go_ret
  exact ⟨rfl, t12⟩

theorem wrong_walk (s wo : Int) (ak : Option Addr) (ks : List (Int × Int × Int)) (ck : Nat) (ad : Option Addr) (ds : List Int) (cd : Nat) (ap : Option Addr) (plain : List Int) (cp : Nat) (a a1 a2 a3 : Int) (w : World) (hk : Recs3At w ak ks) (hd : IntsAt w ad ds) (nd : ad = none → cd = 0) (hp : IntsAt w ap plain) (np : ap = none → cp = 0) (ha : (Lit.int .u8 a).wf = true) (ha1 : (Lit.int .u8 a1).wf = true) (ha2 : (Lit.int .u8 a2).wf = true) (ha3 : (Lit.int .u8 a3).wf = true) :
    Calls Try.prog 7 #[.agg #[.int .i64 s, .int .i64 wo, .slice ak ks.length ck, .slice ad ds.length cd], .slice ap plain.length cp, .int .u8 a, .int .u8 a1, .int .u8 a2, .int .u8 a3] w fun e w' => e = .returned (.bool true) ∧ Below w.heap.size w w' := by
  have e0 := u8_b ha
  have e1 := u8_b ha1
  have e2 := u8_b ha2
  have e3 := u8_b ha3
  obtain ⟨A, rfl⟩ := Int.eq_ofNat_of_zero_le e0.1
  obtain ⟨A1, rfl⟩ := Int.eq_ofNat_of_zero_le e1.1
  obtain ⟨A2, rfl⟩ := Int.eq_ofNat_of_zero_le e2.1
  obtain ⟨A3, rfl⟩ := Int.eq_ofNat_of_zero_le e3.1
  cases hR : readyB s wo ks ds plain
  · exact wrong_a s wo ak ks ck ad ds cd ap plain cp A A1 A2 A3 w hk hd nd hp np (by omega) (by omega) (by omega) (by omega) hR
  · obtain ⟨hbk, hl10, hpa⟩ := readyB_ok hR
    obtain ⟨lk5, ld8, s0, s1, _, _, _, k0, dd0, _⟩ := bookErr_ok hbk
    have hdp : (0 : Int) < ds.length := by omega
    have hv : Valid s wo ks ds ((A : Int) % ds.length) := ⟨hbk, Int.emod_nonneg _ (by omega), Int.emod_lt_of_pos _ hdp⟩
    obtain ⟨hdE, hdO⟩ := decode_back hv plain hl10 hpa
    have hcE : codeErr s wo ks ds ((A : Int) % ds.length) plain = 0 := by unfold codeErr; rw [if_neg (by simp [hbk]), if_neg (by have := hv.d0; have := hv.d1; omega), if_neg (by omega), if_neg (by simp [hpa])]
    have hcO : codeOut s wo ks ds ((A : Int) % ds.length) plain = codeRes s ks ds ((A : Int) % ds.length) plain := if_pos hcE
    have hS := sent_of hv plain hl10 hpa
    obtain ⟨D, hD⟩ : ∃ D, codeRes s ks ds ((A : Int) % ds.length) plain = D := ⟨_, rfl⟩
    rw [hD] at hS hcO hdE hdO
    have hdl := hS.len
    have Il : A1 % (plain.length + 2) < plain.length + 2 := Nat.mod_lt _ (by omega)
    have Kl : A2 % (plain.length + 2) < plain.length + 2 := Nat.mod_lt _ (by omega)
    have hI : (A1 : Int) % (D.length : Int) = ((A1 % (plain.length + 2) : Nat) : Int) := by rw [hdl]; exact (Int.natCast_emod _ _).symm
    have hK : (A2 : Int) % (D.length : Int) = ((A2 % (plain.length + 2) : Nat) : Int) := by rw [hdl]; exact (Int.natCast_emod _ _).symm
    obtain ⟨I, hIe⟩ : ∃ I, A1 % (plain.length + 2) = I := ⟨_, rfl⟩
    obtain ⟨K, hKe⟩ : ∃ K, A2 % (plain.length + 2) = K := ⟨_, rfl⟩
    rw [hIe] at Il hI
    rw [hKe] at Kl hK
    have hID : I < D.length := by omega
    have hKD : K < D.length := by omega
    have bI := hS.b I hID
    have t0 := Int.emod_nonneg (A3 : Int) (show s - 1 ≠ 0 by omega)
    have t1 := Int.emod_lt_of_pos (A3 : Int) (show 0 < s - 1 by omega)
    have u0 := Int.emod_nonneg (D[I] + 1 + (A3 : Int) % (s - 1)) (show s ≠ 0 by omega)
    have u1 := Int.emod_lt_of_pos (D[I] + 1 + (A3 : Int) % (s - 1)) (show 0 < s by omega)
    have une : (D[I] + 1 + (A3 : Int) % (s - 1)) % s ≠ D[I] := by
      obtain ⟨q, hq⟩ := emod_split (D[I] + 1 + (A3 : Int) % (s - 1)) s
      intro h
      rw [h] at hq
      have hq2 : 1 + (A3 : Int) % (s - 1) = s * q := by omega
      rcases Int.lt_or_le 0 q with h1 | h1
      · have := Int.mul_le_mul_of_nonneg_left (show 1 ≤ q by omega) (show 0 ≤ s by omega)
        omega
      · have := Int.mul_nonpos_of_nonneg_of_nonpos (show 0 ≤ s by omega) h1
        omega
    have hX := wrong_one hv hS I hID _ u0 u1 une
    by_cases heq : D[I] = D[K]
    · have hY : (D.set I D[K]).set K D[I] = D := by
        rw [← heq, List.set_getElem_self, heq, List.set_getElem_self]
      exact wrong_c s wo ak ks ck ad ds cd ap plain cp A A1 A2 A3 w hk hd nd hp np (by omega) (by omega) (by omega) (by omega) hR I K D hI hK Il Kl _ _ _ plain (keptB wo plain) _ 0 _ rfl hdl (Lib.hid hcE) (Lib.hid hcO) D[I] D[K] (List.getElem?_eq_getElem _) (List.getElem?_eq_getElem _) bI rfl (Lib.hid rfl) (Lib.hid rfl) (Lib.hid rfl) (Lib.hid (by unfold decOut; rw [if_neg hX])) hX (Lib.hid (by rw [hY]; exact hdE)) (Lib.hid (by rw [hY]; exact hdO)) (Lib.hid rfl) rfl heq
    · have hY := wrong_swap hv hS I K hID hKD heq
      exact wrong_b s wo ak ks ck ad ds cd ap plain cp A A1 A2 A3 w hk hd nd hp np (by omega) (by omega) (by omega) (by omega) hR I K D hI hK Il Kl _ _ _ [] [] _ _ _ rfl hdl (Lib.hid hcE) (Lib.hid hcO) D[I] D[K] (List.getElem?_eq_getElem _) (List.getElem?_eq_getElem _) bI rfl (Lib.hid rfl) (Lib.hid rfl) (Lib.hid rfl) (Lib.hid (by unfold decOut; rw [if_neg hX])) hX (Lib.hid rfl) (Lib.hid (by unfold decOut; rw [if_neg hY])) (Lib.hid rfl) hY heq rfl rfl
end Go.Proofs.Ytmplgcefhpobgaa
