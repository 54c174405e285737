/- CipherFewest: the walk -/
import Derived.Test.YtmplgcefhpobgaaLh
import Derived.Test.YtmplgcefhpobgaaMf
namespace Go.Proofs.Ytmplgcefhpobgaa
set_option linter.unusedVariables false
set_option linter.unusedSimpArgs false
set_option linter.unnecessarySimpa false
open Go.RowKit Go.Flow

def isB (ks : List K3) (ds : List Int) (lost : List (Int × Int)) (most : Int) (x : List Int) : Bool := decide (x.length = ds.length) && rightB (fun j => hadN lost j) most ks.length spot0 x
theorem isRight_eq (s wo : Int) (ak : Option Addr) (ks : List (Int × Int × Int)) (ck : Nat) (ad : Option Addr) (ds : List Int) (cd : Nat) (al : Option Addr) (lost : List (Int × Int)) (cl : Nat) (m : Int) (ax : Option Addr) (l : List Int) (cx n : Nat) (hn : l.length = n) (r : Bool) (Hr0 : Hid (isB ks ds lost m l = r)) (w : World) (hk : Recs3At w ak ks) (hd : IntsAt w ad ds) (lk : ks.length ≤ 1000) (ld : ds.length ≤ 1000) (hl : Recs2At w al lost) (ll : lost.length ≤ 1000) (hx : IntsAt w ax l) (lx : n ≤ 1000) (lk5 : ks.length ≤ 5) (k0 : 0 < ks.length) (Hlo : Hid (∀ x ∈ lost, 0 ≤ x.2)) :
    Calls Try.prog 36 #[.agg #[.int .i64 s, .int .i64 wo, .slice ak ks.length ck, .slice ad ds.length cd], .slice al lost.length cl, .int .i64 m, .slice ax n cx] w fun e w' => e = .returned (.bool r) ∧ Below w.heap.size w w' := by
  subst hn; exact isRight_any s wo ak ks ck ad ds cd al lost cl m ax l cx r Hr0 w hk hd lk ld hl ll hx lx lk5 k0 Hlo.out
theorem changes_eq (a : Option Addr) (l : List Int) (c n : Nat) (hn : l.length = n) (v : Int) (hv : Hid (chgs l = v)) (w : World) (hl : IntsAt w a l) (ll : n ≤ 1000) :
    Calls Try.prog 37 #[.slice a n c] w fun e w' => e = .returned (.int .i64 v) ∧ Below w.heap.size w w' := by
  subst hn; rw [← hv.out]; exact changes_any a l c w hl ll
theorem before_eq (a : Option Addr) (l : List Int) (c n : Nat) (hn : l.length = n) (a2 : Option Addr) (l2 : List Int) (c2 : Nat) (r : Bool) (hr : Hid (lexB l l2 = r)) (w : World) (hl : IntsAt w a l) (ll : n ≤ 1000) (hl2 : IntsAt w a2 l2) (ll2 : l2.length ≤ 1000) :
    Calls Try.prog 39 #[.slice a n c, .slice a2 l2.length c2] w fun e w' => e = .returned (.bool r) ∧ Below w.heap.size w w' := by
  subst hn; rw [← hr.out]; exact before_any a l c a2 l2 c2 w hl ll hl2 ll2
def FewFin (ks : List K3) (ds : List Int) (lost : List (Int × Int)) (most : Int) (O : List Int) (n E : Int) : Prop :=
  (E = 10 ∧ ∀ x, isB ks ds lost most x = false) ∨
  (E = 0 ∧ O.length = ds.length ∧ isB ks ds lost most O = true ∧ chgs O = n ∧ provB (fun j => hadN lost j) most spot0 O n = true ∧ provB (fun j => hadN lost j) most spot0 O (n - 1) = false ∧ 0 ≤ n ∧ n ≤ 1000 ∧ O.all (ownOk ks.length) = true ∧
    ∀ x, isB ks ds lost most x = true → n ≤ chgs x ∧ (chgs x = n → lexB x O = false))

set_option maxRecDepth 100000 in
set_option maxHeartbeats 8000000 in
theorem few_a (s wo : Int) (ak : Option Addr) (ks : List (Int × Int × Int)) (ck : Nat) (ad : Option Addr) (ds : List Int) (cd : Nat) (ap : Option Addr) (lost : List (Int × Int)) (cp : Nat) (A : Nat) (au : Option Addr) (us : List Int) (cu : Nat) (w : World) (hk : Recs3At w ak ks) (hd : IntsAt w ad ds) (nd : ad = none → cd = 0) (hp : Recs2At w ap lost) (hu : U8At w au us) (lu : us.length ≤ 9223372036854775807) (hA : A ≤ 255) (hub : ∀ x ∈ us, 0 ≤ x ∧ x ≤ 255) (hR : lossedB s wo ks ds lost = false) :
    Calls Try.prog 11 #[.agg #[.int .i64 s, .int .i64 wo, .slice ak ks.length ck, .slice ad ds.length cd], .slice ap lost.length cp, .int .u8 A, .slice au us.length cu] w fun e w' => e = .returned (.bool true) ∧ Below w.heap.size w w' := by

  have HR := Lib.hid hR
  clear hR
  have Hub := Lib.hid hub
  clear hub
  go_enter Try.func11, Try.ntmps11
  go_wp2_with fail
  go_at_call 34
  refine (lossed_eq s wo ak ks ck ad ds cd ap lost cp false HR _ (hk.below (by (repeat (first | exact Below.refl _ _ | refine Below.alloc ?_ (by first | omega | (simp; done) | (simp; omega)) _ | refine Below.drew ?_ | refine Below.setCell ?_ (by first | omega | (simp; done) | (simp; omega)) _ | refine Below.trans ?_ (Below.mono (by assumption) (by first | omega | (simp; done) | (simp; omega))))))) (hd.below (by (repeat (first | exact Below.refl _ _ | refine Below.alloc ?_ (by first | omega | (simp; done) | (simp; omega)) _ | refine Below.drew ?_ | refine Below.setCell ?_ (by first | omega | (simp; done) | (simp; omega)) _ | refine Below.trans ?_ (Below.mono (by assumption) (by first | omega | (simp; done) | (simp; omega))))))) (hp.below (by (repeat (first | exact Below.refl _ _ | refine Below.alloc ?_ (by first | omega | (simp; done) | (simp; omega)) _ | refine Below.drew ?_ | refine Below.setCell ?_ (by first | omega | (simp; done) | (simp; omega)) _ | refine Below.trans ?_ (Below.mono (by assumption) (by first | omega | (simp; done) | (simp; omega)))))))).mono ?_
  rintro e w1 ⟨rfl, b1⟩
  have t1 : Below w.heap.size w w1 := by (repeat (first | exact Below.refl _ _ | refine Below.alloc ?_ (by first | omega | (simp; done) | (simp; omega)) _ | refine Below.drew ?_ | refine Below.setCell ?_ (by first | omega | (simp; done) | (simp; omega)) _ | refine Below.trans ?_ (Below.mono (by assumption) (by first | omega | (simp; done) | (simp; omega)))))
  replace hk := hk.below t1
  replace hd := hd.below t1
  replace hp := hp.below t1
  replace hu := hu.below t1
  obtain ⟨q0, q1, q2, q3⟩ := BookAt.of (b1.mono (by simp))
  have lB := cell_lt q0
  simp only at lB
  go_wp2_with fail
  go_at_call 17
  refine (awake_any _).mono ?_
  rintro e w2 ⟨rfl, b2⟩
  have j2 : Below w1.heap.size w1 w2 := by (repeat (first | exact Below.refl _ _ | refine Below.alloc ?_ (by first | omega | (simp; done) | (simp; omega)) _ | refine Below.drew ?_ | refine Below.setCell ?_ (by first | omega | (simp; done) | (simp; omega)) _ | refine Below.trans ?_ (Below.mono (by assumption) (by first | omega | (simp; done) | (simp; omega)))))
  have t2 : Below w.heap.size w w2 := t1.trans (j2.mono t1.size)
  replace hk := hk.below j2
  replace hd := hd.below j2
  replace hp := hp.below j2
  replace hu := hu.below j2
  replace q0 := below_cell j2 q0
  replace q1 := below_cell j2 q1
  replace q2 := below_cell j2 q2
  replace q3 := below_cell j2 q3
  replace lB := Nat.lt_of_lt_of_le lB j2.size
  go_wp2_with fail
  go_ret
  exact ⟨rfl, t2⟩

set_option maxRecDepth 100000 in
set_option maxHeartbeats 8000000 in
theorem few_b (s wo : Int) (ak : Option Addr) (ks : List (Int × Int × Int)) (ck : Nat) (ad : Option Addr) (ds : List Int) (cd : Nat) (ap : Option Addr) (lost : List (Int × Int)) (cp : Nat) (A : Nat) (au : Option Addr) (us : List Int) (cu : Nat) (w : World) (hk : Recs3At w ak ks) (hd : IntsAt w ad ds) (nd : ad = none → cd = 0) (hp : Recs2At w ap lost) (hu : U8At w au us) (lu : us.length ≤ 9223372036854775807) (hA : A ≤ 255) (hub : ∀ x ∈ us, 0 ≤ x ∧ x ≤ 255) (hR : lossedB s wo ks ds lost = true) (most : Int) (hmost : (A : Int) % 9 = most) (m0 : 0 ≤ most) (m8 : most ≤ 8) (O : List Int) (n E : Int) (HO : Hid (planDays s wo ks ds lost most = O)) (HN : Hid (planCh s wo ks ds lost most = n)) (HE : Hid (planErr s wo ks ds lost most = E)) (Hfin : Hid (FewFin ks ds lost most O n E)) :
    Calls Try.prog 11 #[.agg #[.int .i64 s, .int .i64 wo, .slice ak ks.length ck, .slice ad ds.length cd], .slice ap lost.length cp, .int .u8 A, .slice au us.length cu] w fun e w' => e = .returned (.bool true) ∧ Below w.heap.size w w' := by

  have HR := Lib.hid hR
  obtain ⟨hl9, hle⟩ := lossedB_ok hR
  obtain ⟨hbk, _, hlo⟩ := lossErr_ok hle
  obtain ⟨lk5, ld8, s0, s1, _, wo1, _, k0, dd0, _⟩ := bookErr_ok hbk
  have lk : ks.length ≤ 1000 := by omega
  have ld : ds.length ≤ 1000 := by omega
  have hkn : ((ks.length : Int) == 0) = false := by simp; intro h; subst h; simp at k0
  have hki : (0 : Int) < ks.length := by omega
  have Hlo : Hid (∀ x ∈ lost, 0 ≤ x.2) := Lib.hid (fun x hx => by have := List.all_eq_true.1 hlo x hx; simp [lossOk, ownOk] at this; omega)
  have Hle := Lib.hid hle
  clear hR hbk hle hlo
  have Hub := Lib.hid hub
  clear hub
  go_enter Try.func11, Try.ntmps11
  go_wp2_with fail
  go_at_call 34
  refine (lossed_eq s wo ak ks ck ad ds cd ap lost cp true HR _ (hk.below (by (repeat (first | exact Below.refl _ _ | refine Below.alloc ?_ (by first | omega | (simp; done) | (simp; omega)) _ | refine Below.drew ?_ | refine Below.setCell ?_ (by first | omega | (simp; done) | (simp; omega)) _ | refine Below.trans ?_ (Below.mono (by assumption) (by first | omega | (simp; done) | (simp; omega))))))) (hd.below (by (repeat (first | exact Below.refl _ _ | refine Below.alloc ?_ (by first | omega | (simp; done) | (simp; omega)) _ | refine Below.drew ?_ | refine Below.setCell ?_ (by first | omega | (simp; done) | (simp; omega)) _ | refine Below.trans ?_ (Below.mono (by assumption) (by first | omega | (simp; done) | (simp; omega))))))) (hp.below (by (repeat (first | exact Below.refl _ _ | refine Below.alloc ?_ (by first | omega | (simp; done) | (simp; omega)) _ | refine Below.drew ?_ | refine Below.setCell ?_ (by first | omega | (simp; done) | (simp; omega)) _ | refine Below.trans ?_ (Below.mono (by assumption) (by first | omega | (simp; done) | (simp; omega)))))))).mono ?_
  rintro e w1 ⟨rfl, b1⟩
  have t1 : Below w.heap.size w w1 := by (repeat (first | exact Below.refl _ _ | refine Below.alloc ?_ (by first | omega | (simp; done) | (simp; omega)) _ | refine Below.drew ?_ | refine Below.setCell ?_ (by first | omega | (simp; done) | (simp; omega)) _ | refine Below.trans ?_ (Below.mono (by assumption) (by first | omega | (simp; done) | (simp; omega)))))
  replace hk := hk.below t1
  replace hd := hd.below t1
  replace hp := hp.below t1
  replace hu := hu.below t1
  obtain ⟨q0, q1, q2, q3⟩ := BookAt.of (b1.mono (by simp))
  have lB := cell_lt q0
  simp only at lB
  go_wp2_with fail
  go_at_call 19
  refine (bookConv_at s wo ak ks ck ad ds cd _ hk hd lk ld nd).mono ?_
  rintro e w2 ⟨⟨akA, ckA, adA, cdA, rfl, kA, dA⟩, b2⟩
  have j2 : Below w1.heap.size w1 w2 := by (repeat (first | exact Below.refl _ _ | refine Below.alloc ?_ (by first | omega | (simp; done) | (simp; omega)) _ | refine Below.drew ?_ | refine Below.setCell ?_ (by first | omega | (simp; done) | (simp; omega)) _ | refine Below.trans ?_ (Below.mono (by assumption) (by first | omega | (simp; done) | (simp; omega)))))
  have t2 : Below w.heap.size w w2 := t1.trans (j2.mono t1.size)
  replace hk := hk.below j2
  replace hd := hd.below j2
  replace hp := hp.below j2
  replace hu := hu.below j2
  replace q0 := below_cell j2 q0
  replace q1 := below_cell j2 q1
  replace q2 := below_cell j2 q2
  replace q3 := below_cell j2 q3
  replace lB := Nat.lt_of_lt_of_le lB j2.size
  go_wp2_with fail
  go_at_call 30
  refine (lossesConv_at ap lost cp _ hp (by omega)).mono ?_
  rintro e w3 ⟨⟨aP, cP, rfl, iP, _⟩, b3⟩
  have j3 : Below w2.heap.size w2 w3 := by (repeat (first | exact Below.refl _ _ | refine Below.alloc ?_ (by first | omega | (simp; done) | (simp; omega)) _ | refine Below.drew ?_ | refine Below.setCell ?_ (by first | omega | (simp; done) | (simp; omega)) _ | refine Below.trans ?_ (Below.mono (by assumption) (by first | omega | (simp; done) | (simp; omega)))))
  have t3 : Below w.heap.size w w3 := t2.trans (j3.mono t2.size)
  replace hk := hk.below j3
  replace hd := hd.below j3
  replace hp := hp.below j3
  replace hu := hu.below j3
  replace q0 := below_cell j3 q0
  replace q1 := below_cell j3 q1
  replace q2 := below_cell j3 q2
  replace q3 := below_cell j3 q3
  replace lB := Nat.lt_of_lt_of_le lB j3.size
  replace kA := kA.below j3
  replace dA := dA.below j3
  go_wp2_with fail
  go_at_call 35
  refine (plan_at s wo akA ks ckA adA ds cdA aP lost cP most O n E HO HN HE _ kA dA lk ld iP (by omega)).mono ?_
  rintro e w4 ⟨⟨aL, cL, rfl, iL, nL⟩, b4⟩
  have j4 : Below w3.heap.size w3 w4 := by (repeat (first | exact Below.refl _ _ | refine Below.alloc ?_ (by first | omega | (simp; done) | (simp; omega)) _ | refine Below.drew ?_ | refine Below.setCell ?_ (by first | omega | (simp; done) | (simp; omega)) _ | refine Below.trans ?_ (Below.mono (by assumption) (by first | omega | (simp; done) | (simp; omega)))))
  have t4 : Below w.heap.size w w4 := t3.trans (j4.mono t3.size)
  replace hk := hk.below j4
  replace hd := hd.below j4
  replace hp := hp.below j4
  replace hu := hu.below j4
  replace q0 := below_cell j4 q0
  replace q1 := below_cell j4 q1
  replace q2 := below_cell j4 q2
  replace q3 := below_cell j4 q3
  replace lB := Nat.lt_of_lt_of_le lB j4.size
  replace kA := kA.below j4
  replace dA := dA.below j4
  replace iP := iP.below j4
  clear kA dA iP
  go_wp2_with fail
  have q2L := q2
  go_loopw [13, 14] (fun v i wr => ∃ (k : Nat) (xs : List Int) (a' : Option Addr) (c' : Nat), k ≤ ds.length ∧ i = .int .i64 k ∧ xs.length = k ∧ v = .slice a' k c' ∧ OwnL 3 1 w4.heap.size wr a' c' k (xs.map (Value.int .i64)) ∧ Below w4.heap.size w4 wr) (fun _ i _ => ds.length - (intOf i).toNat)
  case atStart => exact ⟨0, [], none, 0, Nat.zero_le _, rfl, rfl, rfl, OwnL.nil _ _ _ _, Below.refl _ _⟩
  case round =>
    obtain ⟨k, xs, a', c', hkd, rfl, hxl, rfl, own, bR⟩ := hrel
    have r2 := below_cell bR q2
    have r3 := below_cell bR q3
    have lr := Nat.lt_of_lt_of_le lB bR.size
    by_cases hrun : k < ds.length ∧ 0 < us.length
    · obtain ⟨hlt, hus⟩ := hrun
      have hltI : (k : Int) < (ds.length : Int) := by omega
      have husI : (0 : Int) < (us.length : Int) := by omega
      have husn : ((us.length : Int) == 0) = false := by simp; intro h; subst h; simp at hus
      have hjl : k % us.length < us.length := Nat.mod_lt _ hus
      have hmod : (k : Int) % (us.length : Int) = ((k % us.length : Nat) : Int) := (Int.natCast_emod _ _).symm
      obtain ⟨j, hj⟩ : ∃ j, k % us.length = j := ⟨_, rfl⟩
      rw [hj] at hjl hmod
      obtain ⟨bu, ou, rfl, lbu, cu1⟩ := (hu.below bR) j hjl
      have hvb := Hub.out us[j] (List.getElem_mem hjl)
      replace cu1 := cu1.trans (by rw [List.getD_eq_getElem?_getD, List.getElem?_eq_getElem hjl]; rfl : _ = some (Value.int .u8 us[j]))
      obtain ⟨v, hv⟩ : ∃ v, us[j] = v := ⟨_, rfl⟩
      rw [hv] at hvb cu1
      obtain ⟨v0, v1⟩ := hvb
      have zR := bR.size
      have hjI : (j : Int) < (us.length : Int) := by omega
      have Hxl := Lib.hid hxl
      have Hrel := Lib.hid own
      by_cases hback : 0 < k ∧ 128 ≤ v
      · obtain ⟨hk0, hv8⟩ := hback
        have iX := own.ints.1
        obtain ⟨p, hpI⟩ : ∃ p : Nat, (k : Int) - 1 = (p : Int) := ⟨k - 1, by omega⟩
        have hpk : p < k := by omega
        have hpki : (p : Int) < (k : Int) := by omega
        obtain ⟨bx, ox, rfl, lbx, cx1⟩ := iX p (by omega)
        obtain ⟨y, hy⟩ : ∃ y, xs.getD p 0 = y := ⟨_, rfl⟩
        rw [hy] at cx1
        have d1 : decide ((0 : Int) < (k : Int)) = true := by simp; omega
        have d2 : decide ((128 : Int) ≤ v) = true := by simpa using hv8
        clear hj hv hxl hy iX hlt hus hjl
        go_wp2_with (at_builtin; refine wpList_app_lit elInt rfl _ _ rfl w4.heap.size _ k c' _ rfl own 1 1 rfl rfl (fun u hu => ?c1) ?c2 ?c3 ?c4 ?_)
        case c1 => simp at hu; subst hu; rfl
        case c2 => unfold maxLen; omega
        case c3 => omega
        case c4 => omega
        intro a6 c6 w6 o6 b6
        clear hpI hmod
        go_wp2_with fail
        go_roundw
        case rel => exact ⟨k + 1, xs ++ [y], a6, c6, by omega, by go_num, by simp [Hxl.out], rfl, by rw [List.map_append]; exact o6, bR.trans b6⟩
        case measure => simp [intOf]; omega
      · obtain ⟨y, hy⟩ : ∃ y, v % (ks.length : Int) = y := ⟨_, rfl⟩
        by_cases hk0 : 0 < k
        · have d1 : decide ((0 : Int) < (k : Int)) = true := by simp; omega
          have d2 : decide ((128 : Int) ≤ v) = false := by simp; omega
          clear hj hv hxl hlt hus hjl hback
          go_wp2_with (at_builtin; refine wpList_app_lit elInt rfl _ _ rfl w4.heap.size _ k c' _ rfl own 1 1 rfl rfl (fun u hu => ?d1) ?d2 ?d3 ?d4 ?_)
          case d1 => simp at hu; subst hu; rfl
          case d2 => unfold maxLen; omega
          case d3 => omega
          case d4 => omega
          intro a6 c6 w6 o6 b6
          go_wp2_with fail
          go_roundw
          case rel => exact ⟨k + 1, xs ++ [y], a6, c6, by omega, by go_num, by simp [Hxl.out], rfl, by rw [List.map_append]; exact o6, bR.trans b6⟩
          case measure => simp [intOf]; omega
        · have d1 : decide ((0 : Int) < (k : Int)) = false := by simp; omega
          clear hj hv hxl hlt hus hjl hback
          go_wp2_with (at_builtin; refine wpList_app_lit elInt rfl _ _ rfl w4.heap.size _ k c' _ rfl own 1 1 rfl rfl (fun u hu => ?e1) ?e2 ?e3 ?e4 ?_)
          case e1 => simp at hu; subst hu; rfl
          case e2 => unfold maxLen; omega
          case e3 => omega
          case e4 => omega
          intro a6 c6 w6 o6 b6
          go_wp2_with fail
          go_roundw
          case rel => exact ⟨k + 1, xs ++ [y], a6, c6, by omega, by go_num, by simp [Hxl.out], rfl, by rw [List.map_append]; exact o6, bR.trans b6⟩
          case measure => simp [intOf]; omega
    · have iX := own.ints.1
      obtain ⟨r, hr⟩ : ∃ r, isB ks ds lost most xs = r := ⟨_, rfl⟩
      obtain ⟨M, hM⟩ : ∃ r, chgs xs = r := ⟨_, rfl⟩
      have Hr := Lib.hid hr
      have HM := Lib.hid hM
      have hk9 : k ≤ 1000 := by omega
      have hrel : ∃ g : Bool, (k < ds.length ∧ decide (0 < us.length) = false ∧ g = true) ∨ (k = ds.length ∧ g = false) := by
        by_cases h : k < ds.length
        · exact ⟨true, .inl ⟨h, decide_eq_false (by omega), rfl⟩⟩
        · exact ⟨false, .inr ⟨by omega, rfl⟩⟩
      clear hr hM own hrun r2 r3 lr
      have Hxl := Lib.hid hxl
      clear hxl
      rcases hrel with ⟨g, ⟨hlt, hz, rfl⟩ | ⟨hkq, rfl⟩⟩
      all_goals
        try (have hltI : (k : Int) < (ds.length : Int) := by omega)
        try (have hkz := Lib.hid hkq; have hnl : ¬ ((k : Int) < (ds.length : Int)) := by omega)
        try clear hkq
        try clear hlt
        have b5 := bR
        obtain ⟨w5, hwq⟩ : ∃ x : World, x = wr := ⟨_, rfl⟩
        subst hwq
        have j5 : Below w4.heap.size w4 w5 := by (repeat (first | exact Below.refl _ _ | refine Below.alloc ?_ (by first | omega | (simp; done) | (simp; omega)) _ | refine Below.drew ?_ | refine Below.setCell ?_ (by first | omega | (simp; done) | (simp; omega)) _ | refine Below.trans ?_ (Below.mono (by assumption) (by first | omega | (simp; done) | (simp; omega)))))
        have t5 : Below w.heap.size w w5 := t4.trans (j5.mono t4.size)
        replace hk := hk.below j5
        replace hd := hd.below j5
        replace hp := hp.below j5
        replace hu := hu.below j5
        replace q0 := below_cell j5 q0
        replace q1 := below_cell j5 q1
        replace q2 := below_cell j5 q2
        replace q3 := below_cell j5 q3
        replace lB := Nat.lt_of_lt_of_le lB j5.size
        replace iL := iL.below j5
        go_wp2_with fail
        go_at_call 36
        refine (isRight_eq s wo ak ks ck ad ds cd ap lost cp most a' xs c' k Hxl.out r Hr _ hk hd lk ld hp (by omega) iX hk9 lk5 k0 Hlo).mono ?_
        rintro e w6 ⟨rfl, b6⟩
        have j6 : Below w5.heap.size w5 w6 := by (repeat (first | exact Below.refl _ _ | refine Below.alloc ?_ (by first | omega | (simp; done) | (simp; omega)) _ | refine Below.drew ?_ | refine Below.setCell ?_ (by first | omega | (simp; done) | (simp; omega)) _ | refine Below.trans ?_ (Below.mono (by assumption) (by first | omega | (simp; done) | (simp; omega)))))
        have t6 : Below w.heap.size w w6 := t5.trans (j6.mono t5.size)
        replace hk := hk.below j6
        replace hd := hd.below j6
        replace hp := hp.below j6
        replace hu := hu.below j6
        replace q0 := below_cell j6 q0
        replace q1 := below_cell j6 q1
        replace q2 := below_cell j6 q2
        replace q3 := below_cell j6 q3
        replace lB := Nat.lt_of_lt_of_le lB j6.size
        replace iL := iL.below j6
        replace iX := iX.below j6
        have hf := Hfin.out
        unfold FewFin at hf
        rcases hf with ⟨hE0, hno⟩ | ⟨hE0, hOl, hOr, hOc, hOp, hOq, n0, n9, hOo, hbest⟩
        · have hrf : r = false := by rw [← Hr.out]; exact hno xs
          subst hE0
          subst hrf
          clear hno
          go_wp2_with fail
          go_at_call 17
          refine (awake_any _).mono ?_
          rintro e w7 ⟨rfl, b7⟩
          have j7 : Below w6.heap.size w6 w7 := by (repeat (first | exact Below.refl _ _ | refine Below.alloc ?_ (by first | omega | (simp; done) | (simp; omega)) _ | refine Below.drew ?_ | refine Below.setCell ?_ (by first | omega | (simp; done) | (simp; omega)) _ | refine Below.trans ?_ (Below.mono (by assumption) (by first | omega | (simp; done) | (simp; omega)))))
          have t7 : Below w.heap.size w w7 := t6.trans (j7.mono t6.size)
          replace hk := hk.below j7
          replace hd := hd.below j7
          replace hp := hp.below j7
          replace hu := hu.below j7
          replace q0 := below_cell j7 q0
          replace q1 := below_cell j7 q1
          replace q2 := below_cell j7 q2
          replace q3 := below_cell j7 q3
          replace lB := Nat.lt_of_lt_of_le lB j7.size
          replace iL := iL.below j7
          replace iX := iX.below j7
          go_wp2_with fail
          go_ret
          exact ⟨rfl, t7⟩
        · have HOr : Hid (isB ks ds lost most O = true) := Lib.hid hOr
          have HOc := Lib.hid hOc
          have HOp := Lib.hid hOp
          have HOq := Lib.hid hOq
          have HOo := Lib.hid hOo
          have Hbest := Lib.hid hbest
          have HOl := Lib.hid hOl
          have lO : O.length ≤ 1000 := by omega
          subst hE0
          clear hOr hOc hOp hOq hOo hbest hOl
          go_wp2_with fail
          go_at_call 36
          refine (isRight_eq s wo ak ks ck ad ds cd ap lost cp most aL O cL O.length rfl true HOr _ hk hd lk ld hp (by omega) iL lO lk5 k0 Hlo).mono ?_
          rintro e w7 ⟨rfl, b7⟩
          have j7 : Below w6.heap.size w6 w7 := by (repeat (first | exact Below.refl _ _ | refine Below.alloc ?_ (by first | omega | (simp; done) | (simp; omega)) _ | refine Below.drew ?_ | refine Below.setCell ?_ (by first | omega | (simp; done) | (simp; omega)) _ | refine Below.trans ?_ (Below.mono (by assumption) (by first | omega | (simp; done) | (simp; omega)))))
          have t7 : Below w.heap.size w w7 := t6.trans (j7.mono t6.size)
          replace hk := hk.below j7
          replace hd := hd.below j7
          replace hp := hp.below j7
          replace hu := hu.below j7
          replace q0 := below_cell j7 q0
          replace q1 := below_cell j7 q1
          replace q2 := below_cell j7 q2
          replace q3 := below_cell j7 q3
          replace lB := Nat.lt_of_lt_of_le lB j7.size
          replace iL := iL.below j7
          replace iX := iX.below j7
          go_wp2_with fail
          go_at_call 37
          refine (changes_eq aL O cL O.length rfl n HOc _ iL lO).mono ?_
          rintro e w8 ⟨rfl, b8⟩
          have j8 : Below w7.heap.size w7 w8 := by (repeat (first | exact Below.refl _ _ | refine Below.alloc ?_ (by first | omega | (simp; done) | (simp; omega)) _ | refine Below.drew ?_ | refine Below.setCell ?_ (by first | omega | (simp; done) | (simp; omega)) _ | refine Below.trans ?_ (Below.mono (by assumption) (by first | omega | (simp; done) | (simp; omega)))))
          have t8 : Below w.heap.size w w8 := t7.trans (j8.mono t7.size)
          replace hk := hk.below j8
          replace hd := hd.below j8
          replace hp := hp.below j8
          replace hu := hu.below j8
          replace q0 := below_cell j8 q0
          replace q1 := below_cell j8 q1
          replace q2 := below_cell j8 q2
          replace q3 := below_cell j8 q3
          replace lB := Nat.lt_of_lt_of_le lB j8.size
          replace iL := iL.below j8
          replace iX := iX.below j8
          go_wp2_with fail
          go_at_call 19
          refine (bookConv_at s wo ak ks ck ad ds cd _ hk hd lk ld nd).mono ?_
          rintro e w9 ⟨⟨akA, ckA, adA, cdA, rfl, kA, dA⟩, b9⟩
          have j9 : Below w8.heap.size w8 w9 := by (repeat (first | exact Below.refl _ _ | refine Below.alloc ?_ (by first | omega | (simp; done) | (simp; omega)) _ | refine Below.drew ?_ | refine Below.setCell ?_ (by first | omega | (simp; done) | (simp; omega)) _ | refine Below.trans ?_ (Below.mono (by assumption) (by first | omega | (simp; done) | (simp; omega)))))
          have t9 : Below w.heap.size w w9 := t8.trans (j9.mono t8.size)
          replace hk := hk.below j9
          replace hd := hd.below j9
          replace hp := hp.below j9
          replace hu := hu.below j9
          replace q0 := below_cell j9 q0
          replace q1 := below_cell j9 q1
          replace q2 := below_cell j9 q2
          replace q3 := below_cell j9 q3
          replace lB := Nat.lt_of_lt_of_le lB j9.size
          replace iL := iL.below j9
          replace iX := iX.below j9
          go_wp2_with fail
          go_at_call 30
          refine (lossesConv_at ap lost cp _ hp (by omega)).mono ?_
          rintro e w10 ⟨⟨aP, cP, rfl, iP, _⟩, b10⟩
          have j10 : Below w9.heap.size w9 w10 := by (repeat (first | exact Below.refl _ _ | refine Below.alloc ?_ (by first | omega | (simp; done) | (simp; omega)) _ | refine Below.drew ?_ | refine Below.setCell ?_ (by first | omega | (simp; done) | (simp; omega)) _ | refine Below.trans ?_ (Below.mono (by assumption) (by first | omega | (simp; done) | (simp; omega)))))
          have t10 : Below w.heap.size w w10 := t9.trans (j10.mono t9.size)
          replace hk := hk.below j10
          replace hd := hd.below j10
          replace hp := hp.below j10
          replace hu := hu.below j10
          replace q0 := below_cell j10 q0
          replace q1 := below_cell j10 q1
          replace q2 := below_cell j10 q2
          replace q3 := below_cell j10 q3
          replace lB := Nat.lt_of_lt_of_le lB j10.size
          replace iL := iL.below j10
          replace iX := iX.below j10
          replace kA := kA.below j10
          replace dA := dA.below j10
          go_wp2_with fail
          go_at_call 21
          refine (list_at aL O cL _ iL (by omega) nL).mono ?_
          rintro e w11 ⟨⟨aM, cM, rfl, iM, _⟩, b11⟩
          have j11 : Below w10.heap.size w10 w11 := by (repeat (first | exact Below.refl _ _ | refine Below.alloc ?_ (by first | omega | (simp; done) | (simp; omega)) _ | refine Below.drew ?_ | refine Below.setCell ?_ (by first | omega | (simp; done) | (simp; omega)) _ | refine Below.trans ?_ (Below.mono (by assumption) (by first | omega | (simp; done) | (simp; omega)))))
          have t11 : Below w.heap.size w w11 := t10.trans (j11.mono t10.size)
          replace hk := hk.below j11
          replace hd := hd.below j11
          replace hp := hp.below j11
          replace hu := hu.below j11
          replace q0 := below_cell j11 q0
          replace q1 := below_cell j11 q1
          replace q2 := below_cell j11 q2
          replace q3 := below_cell j11 q3
          replace lB := Nat.lt_of_lt_of_le lB j11.size
          replace iL := iL.below j11
          replace iX := iX.below j11
          replace kA := kA.below j11
          replace dA := dA.below j11
          replace iP := iP.below j11
          go_wp2_with fail
          go_at_call 38
          refine (prove_any s wo akA ks ckA adA ds cdA aP lost cP most aM O cM n true HOp _ kA dA lk ld iP (by omega) iM Hle m0 m8 HOl.out HOo lk5 (by omega) (by omega)).mono ?_
          rintro e w12 ⟨rfl, b12⟩
          have j12 : Below w11.heap.size w11 w12 := by (repeat (first | exact Below.refl _ _ | refine Below.alloc ?_ (by first | omega | (simp; done) | (simp; omega)) _ | refine Below.drew ?_ | refine Below.setCell ?_ (by first | omega | (simp; done) | (simp; omega)) _ | refine Below.trans ?_ (Below.mono (by assumption) (by first | omega | (simp; done) | (simp; omega)))))
          have t12 : Below w.heap.size w w12 := t11.trans (j12.mono t11.size)
          replace hk := hk.below j12
          replace hd := hd.below j12
          replace hp := hp.below j12
          replace hu := hu.below j12
          replace q0 := below_cell j12 q0
          replace q1 := below_cell j12 q1
          replace q2 := below_cell j12 q2
          replace q3 := below_cell j12 q3
          replace lB := Nat.lt_of_lt_of_le lB j12.size
          replace iL := iL.below j12
          replace iX := iX.below j12
          replace kA := kA.below j12
          replace dA := dA.below j12
          replace iP := iP.below j12
          replace iM := iM.below j12
          clear kA dA iP iM
          go_wp2_with fail
          go_at_call 19
          refine (bookConv_at s wo ak ks ck ad ds cd _ hk hd lk ld nd).mono ?_
          rintro e w13 ⟨⟨akA, ckA, adA, cdA, rfl, kA, dA⟩, b13⟩
          have j13 : Below w12.heap.size w12 w13 := by (repeat (first | exact Below.refl _ _ | refine Below.alloc ?_ (by first | omega | (simp; done) | (simp; omega)) _ | refine Below.drew ?_ | refine Below.setCell ?_ (by first | omega | (simp; done) | (simp; omega)) _ | refine Below.trans ?_ (Below.mono (by assumption) (by first | omega | (simp; done) | (simp; omega)))))
          have t13 : Below w.heap.size w w13 := t12.trans (j13.mono t12.size)
          replace hk := hk.below j13
          replace hd := hd.below j13
          replace hp := hp.below j13
          replace hu := hu.below j13
          replace q0 := below_cell j13 q0
          replace q1 := below_cell j13 q1
          replace q2 := below_cell j13 q2
          replace q3 := below_cell j13 q3
          replace lB := Nat.lt_of_lt_of_le lB j13.size
          replace iL := iL.below j13
          replace iX := iX.below j13
          go_wp2_with fail
          go_at_call 30
          refine (lossesConv_at ap lost cp _ hp (by omega)).mono ?_
          rintro e w14 ⟨⟨aP, cP, rfl, iP, _⟩, b14⟩
          have j14 : Below w13.heap.size w13 w14 := by (repeat (first | exact Below.refl _ _ | refine Below.alloc ?_ (by first | omega | (simp; done) | (simp; omega)) _ | refine Below.drew ?_ | refine Below.setCell ?_ (by first | omega | (simp; done) | (simp; omega)) _ | refine Below.trans ?_ (Below.mono (by assumption) (by first | omega | (simp; done) | (simp; omega)))))
          have t14 : Below w.heap.size w w14 := t13.trans (j14.mono t13.size)
          replace hk := hk.below j14
          replace hd := hd.below j14
          replace hp := hp.below j14
          replace hu := hu.below j14
          replace q0 := below_cell j14 q0
          replace q1 := below_cell j14 q1
          replace q2 := below_cell j14 q2
          replace q3 := below_cell j14 q3
          replace lB := Nat.lt_of_lt_of_le lB j14.size
          replace iL := iL.below j14
          replace iX := iX.below j14
          replace kA := kA.below j14
          replace dA := dA.below j14
          go_wp2_with fail
          go_at_call 21
          refine (list_at aL O cL _ iL (by omega) nL).mono ?_
          rintro e w15 ⟨⟨aM, cM, rfl, iM, _⟩, b15⟩
          have j15 : Below w14.heap.size w14 w15 := by (repeat (first | exact Below.refl _ _ | refine Below.alloc ?_ (by first | omega | (simp; done) | (simp; omega)) _ | refine Below.drew ?_ | refine Below.setCell ?_ (by first | omega | (simp; done) | (simp; omega)) _ | refine Below.trans ?_ (Below.mono (by assumption) (by first | omega | (simp; done) | (simp; omega)))))
          have t15 : Below w.heap.size w w15 := t14.trans (j15.mono t14.size)
          replace hk := hk.below j15
          replace hd := hd.below j15
          replace hp := hp.below j15
          replace hu := hu.below j15
          replace q0 := below_cell j15 q0
          replace q1 := below_cell j15 q1
          replace q2 := below_cell j15 q2
          replace q3 := below_cell j15 q3
          replace lB := Nat.lt_of_lt_of_le lB j15.size
          replace iL := iL.below j15
          replace iX := iX.below j15
          replace kA := kA.below j15
          replace dA := dA.below j15
          replace iP := iP.below j15
          go_wp2_with fail
          go_at_call 38
          refine (prove_any s wo akA ks ckA adA ds cdA aP lost cP most aM O cM (n - 1) false HOq _ kA dA lk ld iP (by omega) iM Hle m0 m8 HOl.out HOo lk5 (by omega) (by omega)).mono ?_
          rintro e w16 ⟨rfl, b16⟩
          have j16 : Below w15.heap.size w15 w16 := by (repeat (first | exact Below.refl _ _ | refine Below.alloc ?_ (by first | omega | (simp; done) | (simp; omega)) _ | refine Below.drew ?_ | refine Below.setCell ?_ (by first | omega | (simp; done) | (simp; omega)) _ | refine Below.trans ?_ (Below.mono (by assumption) (by first | omega | (simp; done) | (simp; omega)))))
          have t16 : Below w.heap.size w w16 := t15.trans (j16.mono t15.size)
          replace hk := hk.below j16
          replace hd := hd.below j16
          replace hp := hp.below j16
          replace hu := hu.below j16
          replace q0 := below_cell j16 q0
          replace q1 := below_cell j16 q1
          replace q2 := below_cell j16 q2
          replace q3 := below_cell j16 q3
          replace lB := Nat.lt_of_lt_of_le lB j16.size
          replace iL := iL.below j16
          replace iX := iX.below j16
          replace kA := kA.below j16
          replace dA := dA.below j16
          replace iP := iP.below j16
          replace iM := iM.below j16
          clear kA dA iP iM
          go_wp2_with fail
          go_at_call 37
          refine (changes_eq a' xs c' k Hxl.out M HM _ iX hk9).mono ?_
          rintro e w17 ⟨rfl, b17⟩
          have j17 : Below w16.heap.size w16 w17 := by (repeat (first | exact Below.refl _ _ | refine Below.alloc ?_ (by first | omega | (simp; done) | (simp; omega)) _ | refine Below.drew ?_ | refine Below.setCell ?_ (by first | omega | (simp; done) | (simp; omega)) _ | refine Below.trans ?_ (Below.mono (by assumption) (by first | omega | (simp; done) | (simp; omega)))))
          have t17 : Below w.heap.size w w17 := t16.trans (j17.mono t16.size)
          replace hk := hk.below j17
          replace hd := hd.below j17
          replace hp := hp.below j17
          replace hu := hu.below j17
          replace q0 := below_cell j17 q0
          replace q1 := below_cell j17 q1
          replace q2 := below_cell j17 q2
          replace q3 := below_cell j17 q3
          replace lB := Nat.lt_of_lt_of_le lB j17.size
          replace iL := iL.below j17
          replace iX := iX.below j17
          cases r
          · clear Hbest
            go_wp2_with fail
            go_at_call 17
            refine (awake_any _).mono ?_
            rintro e w18 ⟨rfl, b18⟩
            have j18 : Below w17.heap.size w17 w18 := by (repeat (first | exact Below.refl _ _ | refine Below.alloc ?_ (by first | omega | (simp; done) | (simp; omega)) _ | refine Below.drew ?_ | refine Below.setCell ?_ (by first | omega | (simp; done) | (simp; omega)) _ | refine Below.trans ?_ (Below.mono (by assumption) (by first | omega | (simp; done) | (simp; omega)))))
            have t18 : Below w.heap.size w w18 := t17.trans (j18.mono t17.size)
            replace hk := hk.below j18
            replace hd := hd.below j18
            replace hp := hp.below j18
            replace hu := hu.below j18
            replace q0 := below_cell j18 q0
            replace q1 := below_cell j18 q1
            replace q2 := below_cell j18 q2
            replace q3 := below_cell j18 q3
            replace lB := Nat.lt_of_lt_of_le lB j18.size
            replace iL := iL.below j18
            replace iX := iX.below j18
            go_wp2_with fail
            go_ret
            exact ⟨rfl, t18⟩
          · have hb := Hbest.out xs Hr.out
            rw [HM.out] at hb
            obtain ⟨hb1, hb2⟩ := hb
            by_cases hMn : M = n
            · have HL : Hid (lexB xs O = false) := Lib.hid (hb2 hMn)
              have f1 : decide (n < M) = false := by simp; omega
              have f2 : (M == n) = true := by simpa using hMn
              clear hb1 hb2 hMn Hbest
              go_wp2_with fail
              go_at_call 39
              refine (before_eq a' xs c' k Hxl.out aL O cL false HL _ iX hk9 iL lO).mono ?_
              rintro e w18 ⟨rfl, b18⟩
              have j18 : Below w17.heap.size w17 w18 := by (repeat (first | exact Below.refl _ _ | refine Below.alloc ?_ (by first | omega | (simp; done) | (simp; omega)) _ | refine Below.drew ?_ | refine Below.setCell ?_ (by first | omega | (simp; done) | (simp; omega)) _ | refine Below.trans ?_ (Below.mono (by assumption) (by first | omega | (simp; done) | (simp; omega)))))
              have t18 : Below w.heap.size w w18 := t17.trans (j18.mono t17.size)
              replace hk := hk.below j18
              replace hd := hd.below j18
              replace hp := hp.below j18
              replace hu := hu.below j18
              replace q0 := below_cell j18 q0
              replace q1 := below_cell j18 q1
              replace q2 := below_cell j18 q2
              replace q3 := below_cell j18 q3
              replace lB := Nat.lt_of_lt_of_le lB j18.size
              replace iL := iL.below j18
              replace iX := iX.below j18
              go_wp2_with fail
              go_at_call 17
              refine (awake_any _).mono ?_
              rintro e w19 ⟨rfl, b19⟩
              have j19 : Below w18.heap.size w18 w19 := by (repeat (first | exact Below.refl _ _ | refine Below.alloc ?_ (by first | omega | (simp; done) | (simp; omega)) _ | refine Below.drew ?_ | refine Below.setCell ?_ (by first | omega | (simp; done) | (simp; omega)) _ | refine Below.trans ?_ (Below.mono (by assumption) (by first | omega | (simp; done) | (simp; omega)))))
              have t19 : Below w.heap.size w w19 := t18.trans (j19.mono t18.size)
              replace hk := hk.below j19
              replace hd := hd.below j19
              replace hp := hp.below j19
              replace hu := hu.below j19
              replace q0 := below_cell j19 q0
              replace q1 := below_cell j19 q1
              replace q2 := below_cell j19 q2
              replace q3 := below_cell j19 q3
              replace lB := Nat.lt_of_lt_of_le lB j19.size
              replace iL := iL.below j19
              replace iX := iX.below j19
              go_wp2_with fail
              go_ret
              exact ⟨rfl, t19⟩
            · have f1 : decide (n < M) = true := by simp; omega
              clear hb1 hb2 hMn Hbest
              go_wp2_with fail
              go_at_call 17
              refine (awake_any _).mono ?_
              rintro e w18 ⟨rfl, b18⟩
              have j18 : Below w17.heap.size w17 w18 := by (repeat (first | exact Below.refl _ _ | refine Below.alloc ?_ (by first | omega | (simp; done) | (simp; omega)) _ | refine Below.drew ?_ | refine Below.setCell ?_ (by first | omega | (simp; done) | (simp; omega)) _ | refine Below.trans ?_ (Below.mono (by assumption) (by first | omega | (simp; done) | (simp; omega)))))
              have t18 : Below w.heap.size w w18 := t17.trans (j18.mono t17.size)
              replace hk := hk.below j18
              replace hd := hd.below j18
              replace hp := hp.below j18
              replace hu := hu.below j18
              replace q0 := below_cell j18 q0
              replace q1 := below_cell j18 q1
              replace q2 := below_cell j18 q2
              replace q3 := below_cell j18 q3
              replace lB := Nat.lt_of_lt_of_le lB j18.size
              replace iL := iL.below j18
              replace iX := iX.below j18
              go_wp2_with fail
              go_ret
              exact ⟨rfl, t18⟩


theorem few_walk (s wo : Int) (ak : Option Addr) (ks : List (Int × Int × Int)) (ck : Nat) (ad : Option Addr) (ds : List Int) (cd : Nat) (ap : Option Addr) (lost : List (Int × Int)) (cp : Nat) (a : Int) (au : Option Addr) (us : List Int) (cu : Nat) (w : World) (hk : Recs3At w ak ks) (hd : IntsAt w ad ds) (nd : ad = none → cd = 0) (hp : Recs2At w ap lost) (np : ap = none → cp = 0) (ha : (Lit.int .u8 a).wf = true) (hu : U8At w au us) (nu : au = none → cu = 0) (lu : us.length ≤ 9223372036854775807) (hub : ∀ x ∈ us, 0 ≤ x ∧ x ≤ 255) :
    Calls Try.prog 11 #[.agg #[.int .i64 s, .int .i64 wo, .slice ak ks.length ck, .slice ad ds.length cd], .slice ap lost.length cp, .int .u8 a, .slice au us.length cu] w fun e w' => e = .returned (.bool true) ∧ Below w.heap.size w w' := by
  have e0 := u8_b ha
  obtain ⟨A, rfl⟩ := Int.eq_ofNat_of_zero_le e0.1
  cases hR : lossedB s wo ks ds lost
  · exact few_a s wo ak ks ck ad ds cd ap lost cp A au us cu w hk hd nd hp hu lu (by omega) hub hR
  have hle := (lossedB_ok hR).2
  obtain ⟨hbk, _, _⟩ := lossErr_ok hle
  obtain ⟨lk5, ld8, _⟩ := bookErr_ok hbk
  have hm0 : 0 ≤ (A : Int) % 9 := by omega
  have hm8 : (A : Int) % 9 ≤ 8 := by omega
  refine few_b s wo ak ks ck ad ds cd ap lost cp A au us cu w hk hd nd hp hu lu (by omega) hub hR _ rfl hm0 hm8 _ _ _ (Lib.hid rfl) (Lib.hid rfl) (Lib.hid rfl) (Lib.hid ?_)
  rcases planErr_of hle hm0 hm8 with ⟨h1, h2, h3⟩ | ⟨h1, h2, h3⟩
  · exact .inl ⟨h2, fun x => few_stuck (by omega) h1 x⟩
  · obtain ⟨l, l1, l2, l3, l4, l5, l6, l7, l8, l9⟩ := few_best lk5 h1
    have hO : planDays s wo ks ds lost ((A : Int) % 9) = zs l := by unfold planDays; rw [if_pos h2]; exact l1
    rw [hO, h3]
    refine .inr ⟨h2, by simpa using l2, by unfold isB; rw [l4]; simpa using l2, l5, by rw [l6]; simp, by rw [l6]; simp; omega, l7, by omega, ?_, fun x hx => l9 x hx⟩
    rw [List.all_eq_true]
    intro x hx
    obtain ⟨k, hk1, rfl⟩ := List.mem_map.1 hx
    have := l3 k hk1
    simp [ownOk]; omega
end Go.Proofs.Ytmplgcefhpobgaa
