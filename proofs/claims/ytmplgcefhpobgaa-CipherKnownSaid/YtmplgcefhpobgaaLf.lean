/- CipherNulls: the walk -/
import Derived.Test.YtmplgcefhpobgaaLd
namespace Go.Proofs.Ytmplgcefhpobgaa
set_option linter.unusedVariables false
set_option linter.unusedSimpArgs false
set_option linter.unnecessarySimpa false
open Go.RowKit Go.Flow

theorem list_anyN (a : Option Addr) (l : List Int) (c n : Nat) (hn : l.length = n) (w : World) (hl : IntsAt w a l) (ln : n ≤ 1000000) (hc : a = none → c = 0) :
    Calls Try.prog 21 #[.slice a n c] w fun e w' => ∃ a c, e = .returned (.slice a n c) ∧ OwnL 3 1 w.heap.size w' a c n (l.map (Value.int .i64)) ∧ Below w.heap.size w w' := by
  subst hn; exact list_any a l c w hl ln hc
theorem list_atN (a : Option Addr) (l : List Int) (c n : Nat) (hn : l.length = n) (w : World) (hl : IntsAt w a l) (ln : l.length ≤ 1000000) (hc : a = none → c = 0) :
    Calls Try.prog 21 #[.slice a n c] w fun e w' => (∃ a c, e = .returned (.slice a l.length c) ∧ IntsAt w' a l ∧ (a = none → c = 0) ∧ l.length ≤ c ∧ c ≤ maxLen) ∧ Below w.heap.size w w' := by
  subst hn; exact list_at a l c w hl ln hc
theorem same_eqN (a : Option Addr) (xs : List Int) (c : Nat) (b : Option Addr) (d n : Nat) (hn : xs.length = n) (w : World) (hx : IntsAt w a xs) (hy : IntsAt w b xs) (lx : xs.length ≤ 1000000) :
    Calls Try.prog 25 #[.slice a xs.length c, .slice b n d] w fun e w' => e = .returned (.bool true) ∧ Below w.heap.size w w' := by
  subst hn; exact same_eq a xs c b d w hx hy lx
theorem ints_take {w : World} {a : Option Addr} {l : List Int} (h : IntsAt w a l) (k : Nat) : IntsAt w a (l.take k) := fun j hj => by
  have hj2 : j < l.length := by rw [List.length_take] at hj; omega
  have hjk : j < k := by rw [List.length_take] at hj; omega
  obtain ⟨b, off, h1, h2, h3⟩ := h j hj2
  refine ⟨b, off, h1, h2, h3.trans ?_⟩
  rw [List.getD_eq_getElem?_getD, List.getD_eq_getElem?_getD, List.getElem?_take_of_lt hjk]
theorem ints_drop {w : World} {p : Addr} {l : List Int} (h : IntsAt w (some p) l) (k : Nat) : IntsAt w (some (p.add k)) (l.drop k) := fun j hj => by
  have hj2 : k + j < l.length := by rw [List.length_drop] at hj; omega
  obtain ⟨b, off, h1, h2, h3⟩ := h (k + j) hj2
  simp only [Option.some.injEq] at h1
  subst h1
  refine ⟨b, off + k, by simp [Addr.add], h2, ?_⟩
  rw [show off + k + j = off + (k + j) by omega]
  refine h3.trans ?_
  rw [List.getD_eq_getElem?_getD, List.getD_eq_getElem?_getD, List.getElem?_drop]
theorem kept_null {wo z : Int} (h : wo ≤ z) (T R : List Int) : keptB wo (T ++ [z] ++ R) = keptB wo (T ++ R) := by
  unfold keptB kept
  simp [List.filter_append, h]
theorem src_ints {w : World} {a : Option Addr} {l : List Int} (h : IntsAt w a l) : SrcAt w a (l.map (Value.int .i64)) := SrcAt.ints h

set_option maxRecDepth 100000 in
set_option maxHeartbeats 4000000 in
theorem nulls_a1 (s wo : Int) (ak : Option Addr) (ks : List (Int × Int × Int)) (ck : Nat) (ad : Option Addr) (ds : List Int) (cd : Nat) (ap : Option Addr) (plain : List Int) (cp : Nat) (A A1 A2 : Nat) (w : World) (hk : Recs3At w ak ks) (hd : IntsAt w ad ds) (nd : ad = none → cd = 0) (hp : IntsAt w ap plain) (np : ap = none → cp = 0) (hcp : plain.length ≤ cp) (hcm : cp ≤ 9223372036854775807) (hA : A ≤ 255) (hA1 : A1 ≤ 255) (hA2 : A2 ≤ 255) (hR : readyB s wo ks ds plain = false) :
    Calls Try.prog 8 #[.agg #[.int .i64 s, .int .i64 wo, .slice ak ks.length ck, .slice ad ds.length cd], .slice ap plain.length cp, .int .u8 A, .int .u8 A1, .int .u8 A2] w fun e w' => e = .returned (.bool true) ∧ Below w.heap.size w w' := by

  have HR := Lib.hid hR
  clear hR
  go_enter Try.func8, Try.ntmps8
  go_wp2_with fail
  go_at_call 33
  refine (ready_eq s wo ak ks ck ad ds cd ap plain cp false HR _ (hk.below (by (repeat (first | exact Below.refl _ _ | refine Below.alloc ?_ (by first | omega | (simp; done) | (simp; omega)) _ | refine Below.drew ?_ | refine Below.setCell ?_ (by first | omega | (simp; done) | (simp; omega)) _ | refine Below.trans ?_ (Below.mono (by assumption) (by first | omega | (simp; done) | (simp; omega))))))) (hd.below (by (repeat (first | exact Below.refl _ _ | refine Below.alloc ?_ (by first | omega | (simp; done) | (simp; omega)) _ | refine Below.drew ?_ | refine Below.setCell ?_ (by first | omega | (simp; done) | (simp; omega)) _ | refine Below.trans ?_ (Below.mono (by assumption) (by first | omega | (simp; done) | (simp; omega))))))) (hp.below (by (repeat (first | exact Below.refl _ _ | refine Below.alloc ?_ (by first | omega | (simp; done) | (simp; omega)) _ | refine Below.drew ?_ | refine Below.setCell ?_ (by first | omega | (simp; done) | (simp; omega)) _ | refine Below.trans ?_ (Below.mono (by assumption) (by first | omega | (simp; done) | (simp; omega)))))))).mono ?_
  rintro e w1 ⟨rfl, b1⟩
  have t1 : Below w.heap.size w w1 := by (repeat (first | exact Below.refl _ _ | refine Below.alloc ?_ (by first | omega | (simp; done) | (simp; omega)) _ | refine Below.drew ?_ | refine Below.setCell ?_ (by first | omega | (simp; done) | (simp; omega)) _ | refine Below.trans ?_ (Below.mono (by assumption) (by first | omega | (simp; done) | (simp; omega)))))
  replace hk := hk.below t1
  replace hd := hd.below t1
  replace hp := hp.below t1
  obtain ⟨q0, q1, q2, q3⟩ := BookAt.of (b1.mono (by simp))
  have lB := cell_lt q0
  simp only at lB
  go_wp2_with fail
  go_at_call 17
  refine (awake_any _).mono ?_
  rintro e w2 ⟨rfl, b2⟩
  have j2 : Below w1.heap.size w1 w2 := by (repeat (first | exact Below.refl _ _ | refine Below.alloc ?_ (by first | omega | (simp; done) | (simp; omega)) _ | refine Below.drew ?_ | refine Below.setCell ?_ (by first | omega | (simp; done) | (simp; omega)) _ | refine Below.trans ?_ (Below.mono (by assumption) (by first | omega | (simp; done) | (simp; omega)))))
  have t2 : Below w.heap.size w w2 := t1.trans (j2.mono t1.size)
  replace hk := hk.below j2
  replace hd := hd.below j2
  replace hp := hp.below j2
  replace q0 := below_cell j2 q0
  replace q1 := below_cell j2 q1
  replace q2 := below_cell j2 q2
  replace q3 := below_cell j2 q3
  replace lB := Nat.lt_of_lt_of_le lB j2.size
  go_wp2_with fail
  go_ret
  exact ⟨rfl, t2⟩

set_option maxRecDepth 100000 in
set_option maxHeartbeats 4000000 in
theorem nulls_a2 (s wo : Int) (ak : Option Addr) (ks : List (Int × Int × Int)) (ck : Nat) (ad : Option Addr) (ds : List Int) (cd : Nat) (ap : Option Addr) (plain : List Int) (cp : Nat) (A A1 A2 : Nat) (w : World) (hk : Recs3At w ak ks) (hd : IntsAt w ad ds) (nd : ad = none → cd = 0) (hp : IntsAt w ap plain) (np : ap = none → cp = 0) (hcp : plain.length ≤ cp) (hcm : cp ≤ 9223372036854775807) (hA : A ≤ 255) (hA1 : A1 ≤ 255) (hA2 : A2 ≤ 255) (hR : readyB s wo ks ds plain = true) (h9 : 9 < (plain.length : Int)) :
    Calls Try.prog 8 #[.agg #[.int .i64 s, .int .i64 wo, .slice ak ks.length ck, .slice ad ds.length cd], .slice ap plain.length cp, .int .u8 A, .int .u8 A1, .int .u8 A2] w fun e w' => e = .returned (.bool true) ∧ Below w.heap.size w w' := by

  have HR := Lib.hid hR
  clear hR
  go_enter Try.func8, Try.ntmps8
  go_wp2_with fail
  go_at_call 33
  refine (ready_eq s wo ak ks ck ad ds cd ap plain cp true HR _ (hk.below (by (repeat (first | exact Below.refl _ _ | refine Below.alloc ?_ (by first | omega | (simp; done) | (simp; omega)) _ | refine Below.drew ?_ | refine Below.setCell ?_ (by first | omega | (simp; done) | (simp; omega)) _ | refine Below.trans ?_ (Below.mono (by assumption) (by first | omega | (simp; done) | (simp; omega))))))) (hd.below (by (repeat (first | exact Below.refl _ _ | refine Below.alloc ?_ (by first | omega | (simp; done) | (simp; omega)) _ | refine Below.drew ?_ | refine Below.setCell ?_ (by first | omega | (simp; done) | (simp; omega)) _ | refine Below.trans ?_ (Below.mono (by assumption) (by first | omega | (simp; done) | (simp; omega))))))) (hp.below (by (repeat (first | exact Below.refl _ _ | refine Below.alloc ?_ (by first | omega | (simp; done) | (simp; omega)) _ | refine Below.drew ?_ | refine Below.setCell ?_ (by first | omega | (simp; done) | (simp; omega)) _ | refine Below.trans ?_ (Below.mono (by assumption) (by first | omega | (simp; done) | (simp; omega)))))))).mono ?_
  rintro e w1 ⟨rfl, b1⟩
  have t1 : Below w.heap.size w w1 := by (repeat (first | exact Below.refl _ _ | refine Below.alloc ?_ (by first | omega | (simp; done) | (simp; omega)) _ | refine Below.drew ?_ | refine Below.setCell ?_ (by first | omega | (simp; done) | (simp; omega)) _ | refine Below.trans ?_ (Below.mono (by assumption) (by first | omega | (simp; done) | (simp; omega)))))
  replace hk := hk.below t1
  replace hd := hd.below t1
  replace hp := hp.below t1
  obtain ⟨q0, q1, q2, q3⟩ := BookAt.of (b1.mono (by simp))
  have lB := cell_lt q0
  simp only at lB
  go_wp2_with fail
  go_at_call 17
  refine (awake_any _).mono ?_
  rintro e w2 ⟨rfl, b2⟩
  have j2 : Below w1.heap.size w1 w2 := by (repeat (first | exact Below.refl _ _ | refine Below.alloc ?_ (by first | omega | (simp; done) | (simp; omega)) _ | refine Below.drew ?_ | refine Below.setCell ?_ (by first | omega | (simp; done) | (simp; omega)) _ | refine Below.trans ?_ (Below.mono (by assumption) (by first | omega | (simp; done) | (simp; omega)))))
  have t2 : Below w.heap.size w w2 := t1.trans (j2.mono t1.size)
  replace hk := hk.below j2
  replace hd := hd.below j2
  replace hp := hp.below j2
  replace q0 := below_cell j2 q0
  replace q1 := below_cell j2 q1
  replace q2 := below_cell j2 q2
  replace q3 := below_cell j2 q3
  replace lB := Nat.lt_of_lt_of_le lB j2.size
  go_wp2_with fail
  go_ret
  exact ⟨rfl, t2⟩

set_option maxRecDepth 100000 in
set_option maxHeartbeats 4000000 in
theorem nulls_a3 (s wo : Int) (ak : Option Addr) (ks : List (Int × Int × Int)) (ck : Nat) (ad : Option Addr) (ds : List Int) (cd : Nat) (ap : Option Addr) (plain : List Int) (cp : Nat) (A A1 A2 : Nat) (w : World) (hk : Recs3At w ak ks) (hd : IntsAt w ad ds) (nd : ad = none → cd = 0) (hp : IntsAt w ap plain) (np : ap = none → cp = 0) (hcp : plain.length ≤ cp) (hcm : cp ≤ 9223372036854775807) (hA : A ≤ 255) (hA1 : A1 ≤ 255) (hA2 : A2 ≤ 255) (hR : readyB s wo ks ds plain = true) (h9 : (plain.length : Int) ≤ 9) (hws : wo = s) :
    Calls Try.prog 8 #[.agg #[.int .i64 s, .int .i64 wo, .slice ak ks.length ck, .slice ad ds.length cd], .slice ap plain.length cp, .int .u8 A, .int .u8 A1, .int .u8 A2] w fun e w' => e = .returned (.bool true) ∧ Below w.heap.size w w' := by

  have HR := Lib.hid hR
  have hwe : (wo == s) = true := by simpa using hws
  clear hR hws
  go_enter Try.func8, Try.ntmps8
  go_wp2_with fail
  go_at_call 33
  refine (ready_eq s wo ak ks ck ad ds cd ap plain cp true HR _ (hk.below (by (repeat (first | exact Below.refl _ _ | refine Below.alloc ?_ (by first | omega | (simp; done) | (simp; omega)) _ | refine Below.drew ?_ | refine Below.setCell ?_ (by first | omega | (simp; done) | (simp; omega)) _ | refine Below.trans ?_ (Below.mono (by assumption) (by first | omega | (simp; done) | (simp; omega))))))) (hd.below (by (repeat (first | exact Below.refl _ _ | refine Below.alloc ?_ (by first | omega | (simp; done) | (simp; omega)) _ | refine Below.drew ?_ | refine Below.setCell ?_ (by first | omega | (simp; done) | (simp; omega)) _ | refine Below.trans ?_ (Below.mono (by assumption) (by first | omega | (simp; done) | (simp; omega))))))) (hp.below (by (repeat (first | exact Below.refl _ _ | refine Below.alloc ?_ (by first | omega | (simp; done) | (simp; omega)) _ | refine Below.drew ?_ | refine Below.setCell ?_ (by first | omega | (simp; done) | (simp; omega)) _ | refine Below.trans ?_ (Below.mono (by assumption) (by first | omega | (simp; done) | (simp; omega)))))))).mono ?_
  rintro e w1 ⟨rfl, b1⟩
  have t1 : Below w.heap.size w w1 := by (repeat (first | exact Below.refl _ _ | refine Below.alloc ?_ (by first | omega | (simp; done) | (simp; omega)) _ | refine Below.drew ?_ | refine Below.setCell ?_ (by first | omega | (simp; done) | (simp; omega)) _ | refine Below.trans ?_ (Below.mono (by assumption) (by first | omega | (simp; done) | (simp; omega)))))
  replace hk := hk.below t1
  replace hd := hd.below t1
  replace hp := hp.below t1
  obtain ⟨q0, q1, q2, q3⟩ := BookAt.of (b1.mono (by simp))
  have lB := cell_lt q0
  simp only at lB
  go_wp2_with fail
  go_at_call 17
  refine (awake_any _).mono ?_
  rintro e w2 ⟨rfl, b2⟩
  have j2 : Below w1.heap.size w1 w2 := by (repeat (first | exact Below.refl _ _ | refine Below.alloc ?_ (by first | omega | (simp; done) | (simp; omega)) _ | refine Below.drew ?_ | refine Below.setCell ?_ (by first | omega | (simp; done) | (simp; omega)) _ | refine Below.trans ?_ (Below.mono (by assumption) (by first | omega | (simp; done) | (simp; omega)))))
  have t2 : Below w.heap.size w w2 := t1.trans (j2.mono t1.size)
  replace hk := hk.below j2
  replace hd := hd.below j2
  replace hp := hp.below j2
  replace q0 := below_cell j2 q0
  replace q1 := below_cell j2 q1
  replace q2 := below_cell j2 q2
  replace q3 := below_cell j2 q3
  replace lB := Nat.lt_of_lt_of_le lB j2.size
  go_wp2_with fail
  go_ret
  exact ⟨rfl, t2⟩

set_option maxRecDepth 100000 in
set_option maxHeartbeats 4000000 in
theorem nulls_b0 (s wo : Int) (ak : Option Addr) (ks : List (Int × Int × Int)) (ck : Nat) (ad : Option Addr) (ds : List Int) (cd : Nat) (ap : Option Addr) (plain : List Int) (cp : Nat) (A A1 A2 : Nat) (w : World) (hk : Recs3At w ak ks) (hd : IntsAt w ad ds) (nd : ad = none → cd = 0) (hp : IntsAt w ap plain) (np : ap = none → cp = 0) (hcp : plain.length ≤ cp) (hcm : cp ≤ 9223372036854775807) (hA : A ≤ 255) (hA1 : A1 ≤ 255) (hA2 : A2 ≤ 255) (hR : readyB s wo ks ds plain = true) (h9 : (plain.length : Int) ≤ 9) (hws : wo < s) (k : Nat) (hk1 : (A1 : Int) % ((plain.length : Int) + 1) = (k : Int)) (kl : k ≤ plain.length) (Z : Int) (hZ : wo + (A2 : Int) % (s - wo) = Z) (Z0 : wo ≤ Z) (Z1 : Z < s) (M D1 D2 K : List Int) (day : Int) (hday : (A : Int) % (ds.length : Int) = day) (HM : Hid (plain.take k ++ [Z] ++ plain.drop k = M)) (HcE : Hid (codeErr s wo ks ds day plain = 0)) (HcO : Hid (codeOut s wo ks ds day plain = D1)) (HdE : Hid (decodeErr s wo ks ds day D1 = 0)) (HdO : Hid (decOut s wo ks ds day D1 = plain)) (HcE2 : Hid (codeErr s wo ks ds day M = 0)) (HcO2 : Hid (codeOut s wo ks ds day M = D2)) (HdE2 : Hid (decodeErr s wo ks ds day D2 = 0)) (HdO2 : Hid (decOut s wo ks ds day D2 = M)) (HK : Hid (keptB wo plain = K)) (HK2 : Hid (keptB wo M = K)) (LD1 : D1.length ≤ 12) (LD2 : D2.length ≤ 12) (h0 : cp = 0) :
    Calls Try.prog 8 #[.agg #[.int .i64 s, .int .i64 wo, .slice ak ks.length ck, .slice ad ds.length cd], .slice ap plain.length cp, .int .u8 A, .int .u8 A1, .int .u8 A2] w fun e w' => e = .returned (.bool true) ∧ Below w.heap.size w w' := by

  subst h0
  obtain rfl : k = 0 := by omega
  obtain rfl : plain = [] := List.length_eq_zero_iff.1 (by omega)
  simp only [List.length_nil, Nat.le_refl] at *
  have HR := Lib.hid hR
  obtain ⟨hbk, hl10, hpa⟩ := readyB_ok hR
  obtain ⟨lk5, ld8, s0, s1, _, wo1, _, k0, dd0, _⟩ := bookErr_ok hbk
  have lk : ks.length ≤ 1000 := by omega
  have ld : ds.length ≤ 1000 := by omega
  have hne : ((ds.length : Int) == 0) = false := by simp; intro h; subst h; simp at dd0
  have hdp : (0 : Int) < ds.length := by omega
  have hwe : (wo == s) = false := by simp; omega
  have kli : ((0) : Int) ≤ (([] : List Int).length : Int) := by omega
  have klc : ((0) : Int) ≤ ((0) : Int) := by omega
  obtain ⟨r, hr⟩ : ∃ r, s - wo = r := ⟨_, rfl⟩
  rw [hr] at hZ
  have hrn : ¬ r = 0 := by omega
  obtain ⟨t, ht⟩ : ∃ t, (A2 : Int) % r = t := ⟨_, rfl⟩
  have ht0 : 0 ≤ t := by rw [← ht]; exact Int.emod_nonneg _ (by omega)
  have ht1 : t < r := by rw [← ht]; exact Int.emod_lt_of_pos _ (by omega)
  rw [ht] at hZ
  have x0 : IntKind.i64.wrap (A2 : Int) = A2 := IntWalk.i64_in _ (by omega)
  have x1 : IntKind.i64.wrap (s - wo) = r := by rw [← hr]; exact IntWalk.i64_in _ (by omega)
  have x2 : IntKind.i64.wrap (wo + t) = Z := by rw [← hZ]; exact IntWalk.i64_in _ (by omega)
  have tm1 : (A2 : Int).tmod r = t := by rw [Int.tmod_eq_emod_of_nonneg (by omega), ht]
  have hTl : (([] : List Int).take 0).length = 0 := by rw [List.length_take]; omega
  have hRl : (([] : List Int).drop 0).length = 0 := by first | (rw [List.length_drop]; omega) | (rw [List.length_drop]; done) | simp
  have hTa : IntsAt w ap (([] : List Int).take 0) := ints_take hp 0
  have hMl : M.length = ([] : List Int).length + 1 := by rw [← HM.out]; simp [hTl]; try omega
  obtain ⟨Tl, hTe⟩ : ∃ l, ([] : List Int).take 0 = l := ⟨_, rfl⟩
  obtain ⟨Rl, hRe⟩ : ∃ l, ([] : List Int).drop 0 = l := ⟨_, rfl⟩
  have hRa : IntsAt w ap (([] : List Int).drop 0) := fun j hj => by simp at hj
  rw [hTe] at HM hTl hTa
  rw [hRe] at HM hRl hRa
  have HTl := Lib.hid hTl
  have HRl := Lib.hid hRl
  have HMl := Lib.hid hMl
  have hM10 : M.length ≤ 10 := by first | omega | (simp at hMl; omega)
  have hK10 : K.length ≤ 10 := by rw [← HK.out]; exact Nat.le_trans (List.length_filter_le _ _) (by first | omega | simp)
  clear hR hbk hpa hr hTl hRl hMl hTe hRe hZ ht hws
  go_enter Try.func8, Try.ntmps8
  go_wp2_with fail
  go_at_call 33
  refine (ready_eq s wo ak ks ck ad ds cd ap ([] : List Int) 0 true HR _ (hk.below (by (repeat (first | exact Below.refl _ _ | refine Below.alloc ?_ (by first | omega | (simp; done) | (simp; omega)) _ | refine Below.drew ?_ | refine Below.setCell ?_ (by first | omega | (simp; done) | (simp; omega)) _ | refine Below.trans ?_ (Below.mono (by assumption) (by first | omega | (simp; done) | (simp; omega))))))) (hd.below (by (repeat (first | exact Below.refl _ _ | refine Below.alloc ?_ (by first | omega | (simp; done) | (simp; omega)) _ | refine Below.drew ?_ | refine Below.setCell ?_ (by first | omega | (simp; done) | (simp; omega)) _ | refine Below.trans ?_ (Below.mono (by assumption) (by first | omega | (simp; done) | (simp; omega))))))) (hp.below (by (repeat (first | exact Below.refl _ _ | refine Below.alloc ?_ (by first | omega | (simp; done) | (simp; omega)) _ | refine Below.drew ?_ | refine Below.setCell ?_ (by first | omega | (simp; done) | (simp; omega)) _ | refine Below.trans ?_ (Below.mono (by assumption) (by first | omega | (simp; done) | (simp; omega)))))))).mono ?_
  rintro e w1 ⟨rfl, b1⟩
  have t1 : Below w.heap.size w w1 := by (repeat (first | exact Below.refl _ _ | refine Below.alloc ?_ (by first | omega | (simp; done) | (simp; omega)) _ | refine Below.drew ?_ | refine Below.setCell ?_ (by first | omega | (simp; done) | (simp; omega)) _ | refine Below.trans ?_ (Below.mono (by assumption) (by first | omega | (simp; done) | (simp; omega)))))
  replace hk := hk.below t1
  replace hd := hd.below t1
  replace hp := hp.below t1
  obtain ⟨q0, q1, q2, q3⟩ := BookAt.of (b1.mono (by simp))
  have lB := cell_lt q0
  simp only at lB
  replace hTa := hTa.below t1
  replace hRa := hRa.below t1
  go_wp2_with fail
  (refine wp_region_seq 16 [] [16, 17] 138 [true, true, true, false, true, true, true, true, true, true, true, true, true, true, true, false] [OwnV 3 1 w1.heap.size 0 (Tl.map (Value.int .i64)), LitV w1.heap.size 1 #[.int .i64 Z] 3] (by kernel_rfl) (by kernel_rfl) rfl (mono_cons (fun v w w' h hb => h.kept hb) (mono_cons (fun v w w' h hb => h.kept hb) mono_nil)) ?_; simp only [pickOps, List.filterMap_cons, List.filterMap_nil, List.getElem?_toArray, List.getElem?_cons_succ, List.getElem?_cons_zero]; (repeat (refine wpFl_step _ rfl (fun w => (by go_simp; rfl)) ?_)); refine wpFl_nil ?_; simp only [maskOps, dummy, Act.put, List.setIfInBounds_toArray, List.set_cons_zero, List.set_cons_succ, List.take_succ_cons, List.take_zero, List.drop_succ_cons, List.drop_zero]; (repeat (refine wpQB_step (fun K hK => ?_); go_simp; first | (refine hK _ ?_; clear hK K) | (apply Exists.intro; refine ⟨fun ex => ?_, hK _ ?_⟩; (fail); clear hK K))); refine wpQB_nil ?_; simp only [relObl2, under, relEnd, and_true, List.nil_append, List.cons_append])
  refine ⟨⟨fun e => ?_, fun e v1 h1 => ?_⟩, fun e => ?_⟩
  · go_simp
    have heb := e.below
    refine (list_anyN ap Tl 0 0 HTl.out e.to (hTa.below heb) (by omega) (fun h => rfl)).mono ?_
    rintro r' w' ⟨a1, c1, rfl, o1, hb⟩
    exact ⟨hb, a1, c1, rfl, o1.base_le (by have := e.size; omega)⟩
  · go_simp
    exact ⟨(Below.refl _ _).alloc (Nat.le_refl _) _, e.to.heap.size, rfl, by have := e.size; omega, Cells.new _ _ _⟩
  rintro v1 ⟨a1, c1, rfl, o1⟩ v2 ⟨gg, rfl, hg1, hgg⟩
  simp only [Act.put, List.setIfInBounds_toArray, List.set_cons_zero, List.set_cons_succ]
  have heb := e.below
  have hez := e.size
  obtain ⟨x2, hx2⟩ : ∃ x : World, x = e.to := ⟨_, rfl⟩
  rw [← hx2] at heb hez hgg o1 ⊢
  clear hx2
  refine wpList_app elInt rfl _ _ rfl w1.heap.size a1 0 c1 _ rfl o1 (some ⟨gg, 0, none⟩) 1 1 _ rfl (fun h => by cases h) rfl hgg.src (fun u hu => by simp at hu; subst hu; rfl) (by unfold maxLen; omega) (by omega) (by omega) ?_
  intro a6 c6 x3 o6 b6
  have bT3 := heb.trans b6
  have zT3 := bT3.size
  go_wp2_with (at_builtin; refine wpList_app elInt rfl _ _ rfl w1.heap.size a6 (0 + 1) c6 _ rfl o6 ap 0 0 (Rl.map (Value.int .i64)) rfl (fun _ => ⟨rfl, rfl⟩) (by rw [List.length_map, HRl.out, Nat.mul_one]) (SrcAt.ints (hRa.below bT3)) (fun u hu => ?c3) (by unfold maxLen; omega) (by omega) zT3 ?_)
  case c3 => obtain ⟨z, _, rfl⟩ := List.mem_map.1 hu; rfl
  intro a7 c7 x4 o7 b7
  have eML : M.length = 0 + 1 + 0 := by have := HMl.out; omega
  have oM : OwnL 3 1 w1.heap.size x4 a7 c7 M.length (M.map (Value.int .i64)) := by
    rw [eML, ← HM.out, List.map_append, List.map_append]
    rw [List.append_assoc]
    exact o7
  have iM := oM.ints.1
  have nM : a7 = none → c7 = 0 := fun h => by subst h; exact oM.isnil.2
  have HeML := Lib.hid eML
  have bT4 := bT3.trans b7
  clear o7 o6 oM eML bT3 b7 b6 zT3 hez heb o1 hgg hg1 hTa hRa
  have b2 := bT4
  obtain ⟨w2, hwq⟩ : ∃ x : World, x = x4 := ⟨_, rfl⟩
  subst hwq
  have j2 : Below w1.heap.size w1 w2 := by (repeat (first | exact Below.refl _ _ | refine Below.alloc ?_ (by first | omega | (simp; done) | (simp; omega)) _ | refine Below.drew ?_ | refine Below.setCell ?_ (by first | omega | (simp; done) | (simp; omega)) _ | refine Below.trans ?_ (Below.mono (by assumption) (by first | omega | (simp; done) | (simp; omega)))))
  have t2 : Below w.heap.size w w2 := t1.trans (j2.mono t1.size)
  replace hk := hk.below j2
  replace hd := hd.below j2
  replace hp := hp.below j2
  replace q0 := below_cell j2 q0
  replace q1 := below_cell j2 q1
  replace q2 := below_cell j2 q2
  replace q3 := below_cell j2 q3
  replace lB := Nat.lt_of_lt_of_le lB j2.size
  go_wp2_with fail
  go_at_call 19
  refine (bookConv_at s wo ak ks ck ad ds cd _ hk hd lk ld nd).mono ?_
  rintro e w3 ⟨⟨akA, ckA, adA, cdA, rfl, kA, dA⟩, b3⟩
  have j3 : Below w2.heap.size w2 w3 := by (repeat (first | exact Below.refl _ _ | refine Below.alloc ?_ (by first | omega | (simp; done) | (simp; omega)) _ | refine Below.drew ?_ | refine Below.setCell ?_ (by first | omega | (simp; done) | (simp; omega)) _ | refine Below.trans ?_ (Below.mono (by assumption) (by first | omega | (simp; done) | (simp; omega)))))
  have t3 : Below w.heap.size w w3 := t2.trans (j3.mono t2.size)
  replace hk := hk.below j3
  replace hd := hd.below j3
  replace hp := hp.below j3
  replace q0 := below_cell j3 q0
  replace q1 := below_cell j3 q1
  replace q2 := below_cell j3 q2
  replace q3 := below_cell j3 q3
  replace lB := Nat.lt_of_lt_of_le lB j3.size
  replace iM := iM.below j3
  go_wp2_with fail
  go_at_call 21
  refine (list_at ap ([] : List Int) 0 _ hp (by omega) (fun _ => rfl)).mono ?_
  rintro e w4 ⟨⟨aP, cP, rfl, iP, _⟩, b4⟩
  have j4 : Below w3.heap.size w3 w4 := by (repeat (first | exact Below.refl _ _ | refine Below.alloc ?_ (by first | omega | (simp; done) | (simp; omega)) _ | refine Below.drew ?_ | refine Below.setCell ?_ (by first | omega | (simp; done) | (simp; omega)) _ | refine Below.trans ?_ (Below.mono (by assumption) (by first | omega | (simp; done) | (simp; omega)))))
  have t4 : Below w.heap.size w w4 := t3.trans (j4.mono t3.size)
  replace hk := hk.below j4
  replace hd := hd.below j4
  replace hp := hp.below j4
  replace q0 := below_cell j4 q0
  replace q1 := below_cell j4 q1
  replace q2 := below_cell j4 q2
  replace q3 := below_cell j4 q3
  replace lB := Nat.lt_of_lt_of_le lB j4.size
  replace iM := iM.below j4
  replace kA := kA.below j4
  replace dA := dA.below j4
  go_wp2_with fail
  go_at_call 20
  refine (code_at s wo akA ks ckA adA ds cdA day aP ([] : List Int) cP D1 0 HcO HcE _ kA dA lk ld iP (by omega)).mono ?_
  rintro e w5 ⟨⟨aD, cD, rfl, iD, nD, lD, mD⟩, b5⟩
  have j5 : Below w4.heap.size w4 w5 := by (repeat (first | exact Below.refl _ _ | refine Below.alloc ?_ (by first | omega | (simp; done) | (simp; omega)) _ | refine Below.drew ?_ | refine Below.setCell ?_ (by first | omega | (simp; done) | (simp; omega)) _ | refine Below.trans ?_ (Below.mono (by assumption) (by first | omega | (simp; done) | (simp; omega)))))
  have t5 : Below w.heap.size w w5 := t4.trans (j5.mono t4.size)
  replace hk := hk.below j5
  replace hd := hd.below j5
  replace hp := hp.below j5
  replace q0 := below_cell j5 q0
  replace q1 := below_cell j5 q1
  replace q2 := below_cell j5 q2
  replace q3 := below_cell j5 q3
  replace lB := Nat.lt_of_lt_of_le lB j5.size
  replace iM := iM.below j5
  replace kA := kA.below j5
  replace dA := dA.below j5
  replace iP := iP.below j5
  unfold maxLen at mD
  clear kA dA iP
  go_wp2_with fail
  go_at_call 19
  refine (bookConv_at s wo ak ks ck ad ds cd _ hk hd lk ld nd).mono ?_
  rintro e w6 ⟨⟨akB, ckB, adB, cdB, rfl, kB, dB⟩, b6⟩
  have j6 : Below w5.heap.size w5 w6 := by (repeat (first | exact Below.refl _ _ | refine Below.alloc ?_ (by first | omega | (simp; done) | (simp; omega)) _ | refine Below.drew ?_ | refine Below.setCell ?_ (by first | omega | (simp; done) | (simp; omega)) _ | refine Below.trans ?_ (Below.mono (by assumption) (by first | omega | (simp; done) | (simp; omega)))))
  have t6 : Below w.heap.size w w6 := t5.trans (j6.mono t5.size)
  replace hk := hk.below j6
  replace hd := hd.below j6
  replace hp := hp.below j6
  replace q0 := below_cell j6 q0
  replace q1 := below_cell j6 q1
  replace q2 := below_cell j6 q2
  replace q3 := below_cell j6 q3
  replace lB := Nat.lt_of_lt_of_le lB j6.size
  replace iM := iM.below j6
  replace iD := iD.below j6
  go_wp2_with fail
  go_at_call 21
  refine (list_atN a7 M c7 (0 + 1 + 0) HeML.out _ iM (by omega) nM).mono ?_
  rintro e w7 ⟨⟨aQ, cQ, rfl, iQ, _⟩, b7⟩
  have j7 : Below w6.heap.size w6 w7 := by (repeat (first | exact Below.refl _ _ | refine Below.alloc ?_ (by first | omega | (simp; done) | (simp; omega)) _ | refine Below.drew ?_ | refine Below.setCell ?_ (by first | omega | (simp; done) | (simp; omega)) _ | refine Below.trans ?_ (Below.mono (by assumption) (by first | omega | (simp; done) | (simp; omega)))))
  have t7 : Below w.heap.size w w7 := t6.trans (j7.mono t6.size)
  replace hk := hk.below j7
  replace hd := hd.below j7
  replace hp := hp.below j7
  replace q0 := below_cell j7 q0
  replace q1 := below_cell j7 q1
  replace q2 := below_cell j7 q2
  replace q3 := below_cell j7 q3
  replace lB := Nat.lt_of_lt_of_le lB j7.size
  replace iM := iM.below j7
  replace iD := iD.below j7
  replace kB := kB.below j7
  replace dB := dB.below j7
  go_wp2_with fail
  go_at_call 20
  refine (code_at s wo akB ks ckB adB ds cdB day aQ M cQ D2 0 HcO2 HcE2 _ kB dB lk ld iQ (by omega)).mono ?_
  rintro e w8 ⟨⟨aE, cE, rfl, iE, nE, lE, mE⟩, b8⟩
  have j8 : Below w7.heap.size w7 w8 := by (repeat (first | exact Below.refl _ _ | refine Below.alloc ?_ (by first | omega | (simp; done) | (simp; omega)) _ | refine Below.drew ?_ | refine Below.setCell ?_ (by first | omega | (simp; done) | (simp; omega)) _ | refine Below.trans ?_ (Below.mono (by assumption) (by first | omega | (simp; done) | (simp; omega)))))
  have t8 : Below w.heap.size w w8 := t7.trans (j8.mono t7.size)
  replace hk := hk.below j8
  replace hd := hd.below j8
  replace hp := hp.below j8
  replace q0 := below_cell j8 q0
  replace q1 := below_cell j8 q1
  replace q2 := below_cell j8 q2
  replace q3 := below_cell j8 q3
  replace lB := Nat.lt_of_lt_of_le lB j8.size
  replace iM := iM.below j8
  replace iD := iD.below j8
  replace kB := kB.below j8
  replace dB := dB.below j8
  replace iQ := iQ.below j8
  unfold maxLen at mE
  clear kB dB iQ
  go_wp2_with fail
  go_at_call 19
  refine (bookConv_at s wo ak ks ck ad ds cd _ hk hd lk ld nd).mono ?_
  rintro e w9 ⟨⟨akC, ckC, adC, cdC, rfl, kC, dC⟩, b9⟩
  have j9 : Below w8.heap.size w8 w9 := by (repeat (first | exact Below.refl _ _ | refine Below.alloc ?_ (by first | omega | (simp; done) | (simp; omega)) _ | refine Below.drew ?_ | refine Below.setCell ?_ (by first | omega | (simp; done) | (simp; omega)) _ | refine Below.trans ?_ (Below.mono (by assumption) (by first | omega | (simp; done) | (simp; omega)))))
  have t9 : Below w.heap.size w w9 := t8.trans (j9.mono t8.size)
  replace hk := hk.below j9
  replace hd := hd.below j9
  replace hp := hp.below j9
  replace q0 := below_cell j9 q0
  replace q1 := below_cell j9 q1
  replace q2 := below_cell j9 q2
  replace q3 := below_cell j9 q3
  replace lB := Nat.lt_of_lt_of_le lB j9.size
  replace iM := iM.below j9
  replace iD := iD.below j9
  replace iE := iE.below j9
  go_wp2_with fail
  go_at_call 27
  refine (decode_at s wo akC ks ckC adC ds cdC day aD D1 cD ([] : List Int) K 0 HdO HK HdE _ kC dC lk ld iD (by omega) lD mD).mono ?_
  rintro e w10 ⟨⟨aF, cF, aW, cW, rfl, iF, iW, _⟩, b10⟩
  have j10 : Below w9.heap.size w9 w10 := by (repeat (first | exact Below.refl _ _ | refine Below.alloc ?_ (by first | omega | (simp; done) | (simp; omega)) _ | refine Below.drew ?_ | refine Below.setCell ?_ (by first | omega | (simp; done) | (simp; omega)) _ | refine Below.trans ?_ (Below.mono (by assumption) (by first | omega | (simp; done) | (simp; omega)))))
  have t10 : Below w.heap.size w w10 := t9.trans (j10.mono t9.size)
  replace hk := hk.below j10
  replace hd := hd.below j10
  replace hp := hp.below j10
  replace q0 := below_cell j10 q0
  replace q1 := below_cell j10 q1
  replace q2 := below_cell j10 q2
  replace q3 := below_cell j10 q3
  replace lB := Nat.lt_of_lt_of_le lB j10.size
  replace iM := iM.below j10
  replace iD := iD.below j10
  replace iE := iE.below j10
  replace kC := kC.below j10
  replace dC := dC.below j10
  clear kC dC iD iF
  go_wp2_with fail
  go_at_call 19
  refine (bookConv_at s wo ak ks ck ad ds cd _ hk hd lk ld nd).mono ?_
  rintro e w11 ⟨⟨akG, ckG, adG, cdG, rfl, kG, dG⟩, b11⟩
  have j11 : Below w10.heap.size w10 w11 := by (repeat (first | exact Below.refl _ _ | refine Below.alloc ?_ (by first | omega | (simp; done) | (simp; omega)) _ | refine Below.drew ?_ | refine Below.setCell ?_ (by first | omega | (simp; done) | (simp; omega)) _ | refine Below.trans ?_ (Below.mono (by assumption) (by first | omega | (simp; done) | (simp; omega)))))
  have t11 : Below w.heap.size w w11 := t10.trans (j11.mono t10.size)
  replace hk := hk.below j11
  replace hd := hd.below j11
  replace hp := hp.below j11
  replace q0 := below_cell j11 q0
  replace q1 := below_cell j11 q1
  replace q2 := below_cell j11 q2
  replace q3 := below_cell j11 q3
  replace lB := Nat.lt_of_lt_of_le lB j11.size
  replace iM := iM.below j11
  replace iE := iE.below j11
  replace iW := iW.below j11
  go_wp2_with fail
  go_at_call 27
  refine (decode_at s wo akG ks ckG adG ds cdG day aE D2 cE M K 0 HdO2 HK2 HdE2 _ kG dG lk ld iE (by omega) lE mE).mono ?_
  rintro e w12 ⟨⟨aH, cH, aV, cV, rfl, iH, iV, _⟩, b12⟩
  have j12 : Below w11.heap.size w11 w12 := by (repeat (first | exact Below.refl _ _ | refine Below.alloc ?_ (by first | omega | (simp; done) | (simp; omega)) _ | refine Below.drew ?_ | refine Below.setCell ?_ (by first | omega | (simp; done) | (simp; omega)) _ | refine Below.trans ?_ (Below.mono (by assumption) (by first | omega | (simp; done) | (simp; omega)))))
  have t12 : Below w.heap.size w w12 := t11.trans (j12.mono t11.size)
  replace hk := hk.below j12
  replace hd := hd.below j12
  replace hp := hp.below j12
  replace q0 := below_cell j12 q0
  replace q1 := below_cell j12 q1
  replace q2 := below_cell j12 q2
  replace q3 := below_cell j12 q3
  replace lB := Nat.lt_of_lt_of_le lB j12.size
  replace iM := iM.below j12
  replace iE := iE.below j12
  replace iW := iW.below j12
  replace kG := kG.below j12
  replace dG := dG.below j12
  clear kG dG iE
  go_wp2_with fail
  go_at_call 25
  refine (same_eq aW K cW aV cV _ iW iV (by omega)).mono ?_
  rintro e w13 ⟨rfl, b13⟩
  have j13 : Below w12.heap.size w12 w13 := by (repeat (first | exact Below.refl _ _ | refine Below.alloc ?_ (by first | omega | (simp; done) | (simp; omega)) _ | refine Below.drew ?_ | refine Below.setCell ?_ (by first | omega | (simp; done) | (simp; omega)) _ | refine Below.trans ?_ (Below.mono (by assumption) (by first | omega | (simp; done) | (simp; omega)))))
  have t13 : Below w.heap.size w w13 := t12.trans (j13.mono t12.size)
  replace hk := hk.below j13
  replace hd := hd.below j13
  replace hp := hp.below j13
  replace q0 := below_cell j13 q0
  replace q1 := below_cell j13 q1
  replace q2 := below_cell j13 q2
  replace q3 := below_cell j13 q3
  replace lB := Nat.lt_of_lt_of_le lB j13.size
  replace iM := iM.below j13
  replace iW := iW.below j13
  replace iH := iH.below j13
  replace iV := iV.below j13
  go_wp2_with fail
  go_at_call 25
  refine (same_eqN aH M cH a7 c7 (0 + 1 + 0) HeML.out _ iH iM (by omega)).mono ?_
  rintro e w14 ⟨rfl, b14⟩
  have j14 : Below w13.heap.size w13 w14 := by (repeat (first | exact Below.refl _ _ | refine Below.alloc ?_ (by first | omega | (simp; done) | (simp; omega)) _ | refine Below.drew ?_ | refine Below.setCell ?_ (by first | omega | (simp; done) | (simp; omega)) _ | refine Below.trans ?_ (Below.mono (by assumption) (by first | omega | (simp; done) | (simp; omega)))))
  have t14 : Below w.heap.size w w14 := t13.trans (j14.mono t13.size)
  replace hk := hk.below j14
  replace hd := hd.below j14
  replace hp := hp.below j14
  replace q0 := below_cell j14 q0
  replace q1 := below_cell j14 q1
  replace q2 := below_cell j14 q2
  replace q3 := below_cell j14 q3
  replace lB := Nat.lt_of_lt_of_le lB j14.size
  replace iM := iM.below j14
  replace iW := iW.below j14
  replace iH := iH.below j14
  replace iV := iV.below j14
  go_wp2_with fail
  go_at_call 17
  refine (awake_any _).mono ?_
  rintro e w15 ⟨rfl, b15⟩
  have j15 : Below w14.heap.size w14 w15 := by (repeat (first | exact Below.refl _ _ | refine Below.alloc ?_ (by first | omega | (simp; done) | (simp; omega)) _ | refine Below.drew ?_ | refine Below.setCell ?_ (by first | omega | (simp; done) | (simp; omega)) _ | refine Below.trans ?_ (Below.mono (by assumption) (by first | omega | (simp; done) | (simp; omega)))))
  have t15 : Below w.heap.size w w15 := t14.trans (j15.mono t14.size)
  replace hk := hk.below j15
  replace hd := hd.below j15
  replace hp := hp.below j15
  replace q0 := below_cell j15 q0
  replace q1 := below_cell j15 q1
  replace q2 := below_cell j15 q2
  replace q3 := below_cell j15 q3
  replace lB := Nat.lt_of_lt_of_le lB j15.size
  replace iM := iM.below j15
  replace iW := iW.below j15
  replace iH := iH.below j15
  replace iV := iV.below j15
  go_wp2_with fail
  go_ret
  exact ⟨rfl, t15⟩

set_option maxRecDepth 100000 in
set_option maxHeartbeats 4000000 in
theorem nulls_b1 (s wo : Int) (ak : Option Addr) (ks : List (Int × Int × Int)) (ck : Nat) (ad : Option Addr) (ds : List Int) (cd : Nat) (p : Addr) (plain : List Int) (cp : Nat) (A A1 A2 : Nat) (w : World) (hk : Recs3At w ak ks) (hd : IntsAt w ad ds) (nd : ad = none → cd = 0) (hp : IntsAt w (some p) plain) (hcp : plain.length ≤ cp) (hcm : cp ≤ 9223372036854775807) (hA : A ≤ 255) (hA1 : A1 ≤ 255) (hA2 : A2 ≤ 255) (hR : readyB s wo ks ds plain = true) (h9 : (plain.length : Int) ≤ 9) (hws : wo < s) (k : Nat) (hk1 : (A1 : Int) % ((plain.length : Int) + 1) = (k : Int)) (kl : k ≤ plain.length) (Z : Int) (hZ : wo + (A2 : Int) % (s - wo) = Z) (Z0 : wo ≤ Z) (Z1 : Z < s) (M D1 D2 K : List Int) (day : Int) (hday : (A : Int) % (ds.length : Int) = day) (HM : Hid (plain.take k ++ [Z] ++ plain.drop k = M)) (HcE : Hid (codeErr s wo ks ds day plain = 0)) (HcO : Hid (codeOut s wo ks ds day plain = D1)) (HdE : Hid (decodeErr s wo ks ds day D1 = 0)) (HdO : Hid (decOut s wo ks ds day D1 = plain)) (HcE2 : Hid (codeErr s wo ks ds day M = 0)) (HcO2 : Hid (codeOut s wo ks ds day M = D2)) (HdE2 : Hid (decodeErr s wo ks ds day D2 = 0)) (HdO2 : Hid (decOut s wo ks ds day D2 = M)) (HK : Hid (keptB wo plain = K)) (HK2 : Hid (keptB wo M = K)) (LD1 : D1.length ≤ 12) (LD2 : D2.length ≤ 12) (h0 : ¬ cp = 0) (hck : cp = k) :
    Calls Try.prog 8 #[.agg #[.int .i64 s, .int .i64 wo, .slice ak ks.length ck, .slice ad ds.length cd], Value.slice (some p) plain.length cp, .int .u8 A, .int .u8 A1, .int .u8 A2] w fun e w' => e = .returned (.bool true) ∧ Below w.heap.size w w' := by

  subst hck
  obtain rfl : cp = plain.length := by omega
  have HR := Lib.hid hR
  obtain ⟨hbk, hl10, hpa⟩ := readyB_ok hR
  obtain ⟨lk5, ld8, s0, s1, _, wo1, _, k0, dd0, _⟩ := bookErr_ok hbk
  have lk : ks.length ≤ 1000 := by omega
  have ld : ds.length ≤ 1000 := by omega
  have hne : ((ds.length : Int) == 0) = false := by simp; intro h; subst h; simp at dd0
  have hdp : (0 : Int) < ds.length := by omega
  have hwe : (wo == s) = false := by simp; omega
  have kli : ((plain.length) : Int) ≤ (plain.length : Int) := by omega
  have klc : ((plain.length) : Int) ≤ ((plain.length) : Int) := by omega
  obtain ⟨r, hr⟩ : ∃ r, s - wo = r := ⟨_, rfl⟩
  rw [hr] at hZ
  have hrn : ¬ r = 0 := by omega
  obtain ⟨t, ht⟩ : ∃ t, (A2 : Int) % r = t := ⟨_, rfl⟩
  have ht0 : 0 ≤ t := by rw [← ht]; exact Int.emod_nonneg _ (by omega)
  have ht1 : t < r := by rw [← ht]; exact Int.emod_lt_of_pos _ (by omega)
  rw [ht] at hZ
  have x0 : IntKind.i64.wrap (A2 : Int) = A2 := IntWalk.i64_in _ (by omega)
  have x1 : IntKind.i64.wrap (s - wo) = r := by rw [← hr]; exact IntWalk.i64_in _ (by omega)
  have x2 : IntKind.i64.wrap (wo + t) = Z := by rw [← hZ]; exact IntWalk.i64_in _ (by omega)
  have tm1 : (A2 : Int).tmod r = t := by rw [Int.tmod_eq_emod_of_nonneg (by omega), ht]
  have hTl : (plain.take plain.length).length = plain.length := by rw [List.length_take]; omega
  have hRl : (plain.drop plain.length).length = 0 := by first | (rw [List.length_drop]; omega) | (rw [List.length_drop]; done) | simp
  have hTa : IntsAt w (some p) (plain.take plain.length) := ints_take hp plain.length
  have hMl : M.length = plain.length + 1 := by rw [← HM.out]; simp [hTl]; try omega
  obtain ⟨Tl, hTe⟩ : ∃ l, plain.take plain.length = l := ⟨_, rfl⟩
  obtain ⟨Rl, hRe⟩ : ∃ l, plain.drop plain.length = l := ⟨_, rfl⟩
  have hRa : IntsAt w (some p) (plain.drop plain.length) := fun j hj => by rw [List.length_drop] at hj; omega
  rw [hTe] at HM hTl hTa
  rw [hRe] at HM hRl hRa
  have HTl := Lib.hid hTl
  have HRl := Lib.hid hRl
  have HMl := Lib.hid hMl
  have hM10 : M.length ≤ 10 := by first | omega | (simp at hMl; omega)
  have hK10 : K.length ≤ 10 := by rw [← HK.out]; exact Nat.le_trans (List.length_filter_le _ _) (by first | omega | simp)
  clear hR hbk hpa hr hTl hRl hMl hTe hRe hZ ht hws
  go_enter Try.func8, Try.ntmps8
  go_wp2_with fail
  go_at_call 33
  refine (ready_eq s wo ak ks ck ad ds cd (some p) plain plain.length true HR _ (hk.below (by (repeat (first | exact Below.refl _ _ | refine Below.alloc ?_ (by first | omega | (simp; done) | (simp; omega)) _ | refine Below.drew ?_ | refine Below.setCell ?_ (by first | omega | (simp; done) | (simp; omega)) _ | refine Below.trans ?_ (Below.mono (by assumption) (by first | omega | (simp; done) | (simp; omega))))))) (hd.below (by (repeat (first | exact Below.refl _ _ | refine Below.alloc ?_ (by first | omega | (simp; done) | (simp; omega)) _ | refine Below.drew ?_ | refine Below.setCell ?_ (by first | omega | (simp; done) | (simp; omega)) _ | refine Below.trans ?_ (Below.mono (by assumption) (by first | omega | (simp; done) | (simp; omega))))))) (hp.below (by (repeat (first | exact Below.refl _ _ | refine Below.alloc ?_ (by first | omega | (simp; done) | (simp; omega)) _ | refine Below.drew ?_ | refine Below.setCell ?_ (by first | omega | (simp; done) | (simp; omega)) _ | refine Below.trans ?_ (Below.mono (by assumption) (by first | omega | (simp; done) | (simp; omega)))))))).mono ?_
  rintro e w1 ⟨rfl, b1⟩
  have t1 : Below w.heap.size w w1 := by (repeat (first | exact Below.refl _ _ | refine Below.alloc ?_ (by first | omega | (simp; done) | (simp; omega)) _ | refine Below.drew ?_ | refine Below.setCell ?_ (by first | omega | (simp; done) | (simp; omega)) _ | refine Below.trans ?_ (Below.mono (by assumption) (by first | omega | (simp; done) | (simp; omega)))))
  replace hk := hk.below t1
  replace hd := hd.below t1
  replace hp := hp.below t1
  obtain ⟨q0, q1, q2, q3⟩ := BookAt.of (b1.mono (by simp))
  have lB := cell_lt q0
  simp only at lB
  replace hTa := hTa.below t1
  replace hRa := hRa.below t1
  go_wp2_with fail
  (refine wp_region_seq 16 [] [16, 17] 138 [true, true, true, false, true, true, true, true, true, true, true, true, true, true, true, false] [OwnV 3 1 w1.heap.size plain.length (Tl.map (Value.int .i64)), LitV w1.heap.size 1 #[.int .i64 Z] 3] (by kernel_rfl) (by kernel_rfl) rfl (mono_cons (fun v w w' h hb => h.kept hb) (mono_cons (fun v w w' h hb => h.kept hb) mono_nil)) ?_; simp only [pickOps, List.filterMap_cons, List.filterMap_nil, List.getElem?_toArray, List.getElem?_cons_succ, List.getElem?_cons_zero]; (repeat (refine wpFl_step _ rfl (fun w => (by go_simp; rfl)) ?_)); refine wpFl_nil ?_; simp only [maskOps, dummy, Act.put, List.setIfInBounds_toArray, List.set_cons_zero, List.set_cons_succ, List.take_succ_cons, List.take_zero, List.drop_succ_cons, List.drop_zero]; (repeat (refine wpQB_step (fun K hK => ?_); go_simp; first | (refine hK _ ?_; clear hK K) | (apply Exists.intro; refine ⟨fun ex => ?_, hK _ ?_⟩; (fail); clear hK K))); refine wpQB_nil ?_; simp only [relObl2, under, relEnd, and_true, List.nil_append, List.cons_append])
  refine ⟨⟨fun e => ?_, fun e v1 h1 => ?_⟩, fun e => ?_⟩
  · go_simp
    have heb := e.below
    refine (list_anyN (some p) Tl plain.length plain.length HTl.out e.to (hTa.below heb) (by omega) (fun h => by cases h)).mono ?_
    rintro r' w' ⟨a1, c1, rfl, o1, hb⟩
    exact ⟨hb, a1, c1, rfl, o1.base_le (by have := e.size; omega)⟩
  · go_simp
    exact ⟨(Below.refl _ _).alloc (Nat.le_refl _) _, e.to.heap.size, rfl, by have := e.size; omega, Cells.new _ _ _⟩
  rintro v1 ⟨a1, c1, rfl, o1⟩ v2 ⟨gg, rfl, hg1, hgg⟩
  simp only [Act.put, List.setIfInBounds_toArray, List.set_cons_zero, List.set_cons_succ]
  have heb := e.below
  have hez := e.size
  obtain ⟨x2, hx2⟩ : ∃ x : World, x = e.to := ⟨_, rfl⟩
  rw [← hx2] at heb hez hgg o1 ⊢
  clear hx2
  refine wpList_app elInt rfl _ _ rfl w1.heap.size a1 plain.length c1 _ rfl o1 (some ⟨gg, 0, none⟩) 1 1 _ rfl (fun h => by cases h) rfl hgg.src (fun u hu => by simp at hu; subst hu; rfl) (by unfold maxLen; omega) (by omega) (by omega) ?_
  intro a6 c6 x3 o6 b6
  have bT3 := heb.trans b6
  have zT3 := bT3.size
  go_wp2_with (at_builtin; refine wpList_app elInt rfl _ _ rfl w1.heap.size a6 (plain.length + 1) c6 _ rfl o6 (some p) 0 0 (Rl.map (Value.int .i64)) rfl (fun h => by cases h) (by rw [List.length_map, HRl.out, Nat.mul_one]) (SrcAt.ints (hRa.below bT3)) (fun u hu => ?c3) (by unfold maxLen; omega) (by omega) zT3 ?_)
  case c3 => obtain ⟨z, _, rfl⟩ := List.mem_map.1 hu; rfl
  intro a7 c7 x4 o7 b7
  have eML : M.length = plain.length + 1 + 0 := by have := HMl.out; omega
  have oM : OwnL 3 1 w1.heap.size x4 a7 c7 M.length (M.map (Value.int .i64)) := by
    rw [eML, ← HM.out, List.map_append, List.map_append]
    rw [List.append_assoc]
    exact o7
  have iM := oM.ints.1
  have nM : a7 = none → c7 = 0 := fun h => by subst h; exact oM.isnil.2
  have HeML := Lib.hid eML
  have bT4 := bT3.trans b7
  clear o7 o6 oM eML bT3 b7 b6 zT3 hez heb o1 hgg hg1 hTa hRa
  have b2 := bT4
  obtain ⟨w2, hwq⟩ : ∃ x : World, x = x4 := ⟨_, rfl⟩
  subst hwq
  have j2 : Below w1.heap.size w1 w2 := by (repeat (first | exact Below.refl _ _ | refine Below.alloc ?_ (by first | omega | (simp; done) | (simp; omega)) _ | refine Below.drew ?_ | refine Below.setCell ?_ (by first | omega | (simp; done) | (simp; omega)) _ | refine Below.trans ?_ (Below.mono (by assumption) (by first | omega | (simp; done) | (simp; omega)))))
  have t2 : Below w.heap.size w w2 := t1.trans (j2.mono t1.size)
  replace hk := hk.below j2
  replace hd := hd.below j2
  replace hp := hp.below j2
  replace q0 := below_cell j2 q0
  replace q1 := below_cell j2 q1
  replace q2 := below_cell j2 q2
  replace q3 := below_cell j2 q3
  replace lB := Nat.lt_of_lt_of_le lB j2.size
  go_wp2_with fail
  go_at_call 19
  refine (bookConv_at s wo ak ks ck ad ds cd _ hk hd lk ld nd).mono ?_
  rintro e w3 ⟨⟨akA, ckA, adA, cdA, rfl, kA, dA⟩, b3⟩
  have j3 : Below w2.heap.size w2 w3 := by (repeat (first | exact Below.refl _ _ | refine Below.alloc ?_ (by first | omega | (simp; done) | (simp; omega)) _ | refine Below.drew ?_ | refine Below.setCell ?_ (by first | omega | (simp; done) | (simp; omega)) _ | refine Below.trans ?_ (Below.mono (by assumption) (by first | omega | (simp; done) | (simp; omega)))))
  have t3 : Below w.heap.size w w3 := t2.trans (j3.mono t2.size)
  replace hk := hk.below j3
  replace hd := hd.below j3
  replace hp := hp.below j3
  replace q0 := below_cell j3 q0
  replace q1 := below_cell j3 q1
  replace q2 := below_cell j3 q2
  replace q3 := below_cell j3 q3
  replace lB := Nat.lt_of_lt_of_le lB j3.size
  replace iM := iM.below j3
  go_wp2_with fail
  go_at_call 21
  refine (list_at (some p) plain plain.length _ hp (by omega) (fun h => by cases h)).mono ?_
  rintro e w4 ⟨⟨aP, cP, rfl, iP, _⟩, b4⟩
  have j4 : Below w3.heap.size w3 w4 := by (repeat (first | exact Below.refl _ _ | refine Below.alloc ?_ (by first | omega | (simp; done) | (simp; omega)) _ | refine Below.drew ?_ | refine Below.setCell ?_ (by first | omega | (simp; done) | (simp; omega)) _ | refine Below.trans ?_ (Below.mono (by assumption) (by first | omega | (simp; done) | (simp; omega)))))
  have t4 : Below w.heap.size w w4 := t3.trans (j4.mono t3.size)
  replace hk := hk.below j4
  replace hd := hd.below j4
  replace hp := hp.below j4
  replace q0 := below_cell j4 q0
  replace q1 := below_cell j4 q1
  replace q2 := below_cell j4 q2
  replace q3 := below_cell j4 q3
  replace lB := Nat.lt_of_lt_of_le lB j4.size
  replace iM := iM.below j4
  replace kA := kA.below j4
  replace dA := dA.below j4
  go_wp2_with fail
  go_at_call 20
  refine (code_at s wo akA ks ckA adA ds cdA day aP plain cP D1 0 HcO HcE _ kA dA lk ld iP (by omega)).mono ?_
  rintro e w5 ⟨⟨aD, cD, rfl, iD, nD, lD, mD⟩, b5⟩
  have j5 : Below w4.heap.size w4 w5 := by (repeat (first | exact Below.refl _ _ | refine Below.alloc ?_ (by first | omega | (simp; done) | (simp; omega)) _ | refine Below.drew ?_ | refine Below.setCell ?_ (by first | omega | (simp; done) | (simp; omega)) _ | refine Below.trans ?_ (Below.mono (by assumption) (by first | omega | (simp; done) | (simp; omega)))))
  have t5 : Below w.heap.size w w5 := t4.trans (j5.mono t4.size)
  replace hk := hk.below j5
  replace hd := hd.below j5
  replace hp := hp.below j5
  replace q0 := below_cell j5 q0
  replace q1 := below_cell j5 q1
  replace q2 := below_cell j5 q2
  replace q3 := below_cell j5 q3
  replace lB := Nat.lt_of_lt_of_le lB j5.size
  replace iM := iM.below j5
  replace kA := kA.below j5
  replace dA := dA.below j5
  replace iP := iP.below j5
  unfold maxLen at mD
  clear kA dA iP
  go_wp2_with fail
  go_at_call 19
  refine (bookConv_at s wo ak ks ck ad ds cd _ hk hd lk ld nd).mono ?_
  rintro e w6 ⟨⟨akB, ckB, adB, cdB, rfl, kB, dB⟩, b6⟩
  have j6 : Below w5.heap.size w5 w6 := by (repeat (first | exact Below.refl _ _ | refine Below.alloc ?_ (by first | omega | (simp; done) | (simp; omega)) _ | refine Below.drew ?_ | refine Below.setCell ?_ (by first | omega | (simp; done) | (simp; omega)) _ | refine Below.trans ?_ (Below.mono (by assumption) (by first | omega | (simp; done) | (simp; omega)))))
  have t6 : Below w.heap.size w w6 := t5.trans (j6.mono t5.size)
  replace hk := hk.below j6
  replace hd := hd.below j6
  replace hp := hp.below j6
  replace q0 := below_cell j6 q0
  replace q1 := below_cell j6 q1
  replace q2 := below_cell j6 q2
  replace q3 := below_cell j6 q3
  replace lB := Nat.lt_of_lt_of_le lB j6.size
  replace iM := iM.below j6
  replace iD := iD.below j6
  go_wp2_with fail
  go_at_call 21
  refine (list_atN a7 M c7 (plain.length + 1 + 0) HeML.out _ iM (by omega) nM).mono ?_
  rintro e w7 ⟨⟨aQ, cQ, rfl, iQ, _⟩, b7⟩
  have j7 : Below w6.heap.size w6 w7 := by (repeat (first | exact Below.refl _ _ | refine Below.alloc ?_ (by first | omega | (simp; done) | (simp; omega)) _ | refine Below.drew ?_ | refine Below.setCell ?_ (by first | omega | (simp; done) | (simp; omega)) _ | refine Below.trans ?_ (Below.mono (by assumption) (by first | omega | (simp; done) | (simp; omega)))))
  have t7 : Below w.heap.size w w7 := t6.trans (j7.mono t6.size)
  replace hk := hk.below j7
  replace hd := hd.below j7
  replace hp := hp.below j7
  replace q0 := below_cell j7 q0
  replace q1 := below_cell j7 q1
  replace q2 := below_cell j7 q2
  replace q3 := below_cell j7 q3
  replace lB := Nat.lt_of_lt_of_le lB j7.size
  replace iM := iM.below j7
  replace iD := iD.below j7
  replace kB := kB.below j7
  replace dB := dB.below j7
  go_wp2_with fail
  go_at_call 20
  refine (code_at s wo akB ks ckB adB ds cdB day aQ M cQ D2 0 HcO2 HcE2 _ kB dB lk ld iQ (by omega)).mono ?_
  rintro e w8 ⟨⟨aE, cE, rfl, iE, nE, lE, mE⟩, b8⟩
  have j8 : Below w7.heap.size w7 w8 := by (repeat (first | exact Below.refl _ _ | refine Below.alloc ?_ (by first | omega | (simp; done) | (simp; omega)) _ | refine Below.drew ?_ | refine Below.setCell ?_ (by first | omega | (simp; done) | (simp; omega)) _ | refine Below.trans ?_ (Below.mono (by assumption) (by first | omega | (simp; done) | (simp; omega)))))
  have t8 : Below w.heap.size w w8 := t7.trans (j8.mono t7.size)
  replace hk := hk.below j8
  replace hd := hd.below j8
  replace hp := hp.below j8
  replace q0 := below_cell j8 q0
  replace q1 := below_cell j8 q1
  replace q2 := below_cell j8 q2
  replace q3 := below_cell j8 q3
  replace lB := Nat.lt_of_lt_of_le lB j8.size
  replace iM := iM.below j8
  replace iD := iD.below j8
  replace kB := kB.below j8
  replace dB := dB.below j8
  replace iQ := iQ.below j8
  unfold maxLen at mE
  clear kB dB iQ
  go_wp2_with fail
  go_at_call 19
  refine (bookConv_at s wo ak ks ck ad ds cd _ hk hd lk ld nd).mono ?_
  rintro e w9 ⟨⟨akC, ckC, adC, cdC, rfl, kC, dC⟩, b9⟩
  have j9 : Below w8.heap.size w8 w9 := by (repeat (first | exact Below.refl _ _ | refine Below.alloc ?_ (by first | omega | (simp; done) | (simp; omega)) _ | refine Below.drew ?_ | refine Below.setCell ?_ (by first | omega | (simp; done) | (simp; omega)) _ | refine Below.trans ?_ (Below.mono (by assumption) (by first | omega | (simp; done) | (simp; omega)))))
  have t9 : Below w.heap.size w w9 := t8.trans (j9.mono t8.size)
  replace hk := hk.below j9
  replace hd := hd.below j9
  replace hp := hp.below j9
  replace q0 := below_cell j9 q0
  replace q1 := below_cell j9 q1
  replace q2 := below_cell j9 q2
  replace q3 := below_cell j9 q3
  replace lB := Nat.lt_of_lt_of_le lB j9.size
  replace iM := iM.below j9
  replace iD := iD.below j9
  replace iE := iE.below j9
  go_wp2_with fail
  go_at_call 27
  refine (decode_at s wo akC ks ckC adC ds cdC day aD D1 cD plain K 0 HdO HK HdE _ kC dC lk ld iD (by omega) lD mD).mono ?_
  rintro e w10 ⟨⟨aF, cF, aW, cW, rfl, iF, iW, _⟩, b10⟩
  have j10 : Below w9.heap.size w9 w10 := by (repeat (first | exact Below.refl _ _ | refine Below.alloc ?_ (by first | omega | (simp; done) | (simp; omega)) _ | refine Below.drew ?_ | refine Below.setCell ?_ (by first | omega | (simp; done) | (simp; omega)) _ | refine Below.trans ?_ (Below.mono (by assumption) (by first | omega | (simp; done) | (simp; omega)))))
  have t10 : Below w.heap.size w w10 := t9.trans (j10.mono t9.size)
  replace hk := hk.below j10
  replace hd := hd.below j10
  replace hp := hp.below j10
  replace q0 := below_cell j10 q0
  replace q1 := below_cell j10 q1
  replace q2 := below_cell j10 q2
  replace q3 := below_cell j10 q3
  replace lB := Nat.lt_of_lt_of_le lB j10.size
  replace iM := iM.below j10
  replace iD := iD.below j10
  replace iE := iE.below j10
  replace kC := kC.below j10
  replace dC := dC.below j10
  clear kC dC iD iF
  go_wp2_with fail
  go_at_call 19
  refine (bookConv_at s wo ak ks ck ad ds cd _ hk hd lk ld nd).mono ?_
  rintro e w11 ⟨⟨akG, ckG, adG, cdG, rfl, kG, dG⟩, b11⟩
  have j11 : Below w10.heap.size w10 w11 := by (repeat (first | exact Below.refl _ _ | refine Below.alloc ?_ (by first | omega | (simp; done) | (simp; omega)) _ | refine Below.drew ?_ | refine Below.setCell ?_ (by first | omega | (simp; done) | (simp; omega)) _ | refine Below.trans ?_ (Below.mono (by assumption) (by first | omega | (simp; done) | (simp; omega)))))
  have t11 : Below w.heap.size w w11 := t10.trans (j11.mono t10.size)
  replace hk := hk.below j11
  replace hd := hd.below j11
  replace hp := hp.below j11
  replace q0 := below_cell j11 q0
  replace q1 := below_cell j11 q1
  replace q2 := below_cell j11 q2
  replace q3 := below_cell j11 q3
  replace lB := Nat.lt_of_lt_of_le lB j11.size
  replace iM := iM.below j11
  replace iE := iE.below j11
  replace iW := iW.below j11
  go_wp2_with fail
  go_at_call 27
  refine (decode_at s wo akG ks ckG adG ds cdG day aE D2 cE M K 0 HdO2 HK2 HdE2 _ kG dG lk ld iE (by omega) lE mE).mono ?_
  rintro e w12 ⟨⟨aH, cH, aV, cV, rfl, iH, iV, _⟩, b12⟩
  have j12 : Below w11.heap.size w11 w12 := by (repeat (first | exact Below.refl _ _ | refine Below.alloc ?_ (by first | omega | (simp; done) | (simp; omega)) _ | refine Below.drew ?_ | refine Below.setCell ?_ (by first | omega | (simp; done) | (simp; omega)) _ | refine Below.trans ?_ (Below.mono (by assumption) (by first | omega | (simp; done) | (simp; omega)))))
  have t12 : Below w.heap.size w w12 := t11.trans (j12.mono t11.size)
  replace hk := hk.below j12
  replace hd := hd.below j12
  replace hp := hp.below j12
  replace q0 := below_cell j12 q0
  replace q1 := below_cell j12 q1
  replace q2 := below_cell j12 q2
  replace q3 := below_cell j12 q3
  replace lB := Nat.lt_of_lt_of_le lB j12.size
  replace iM := iM.below j12
  replace iE := iE.below j12
  replace iW := iW.below j12
  replace kG := kG.below j12
  replace dG := dG.below j12
  clear kG dG iE
  go_wp2_with fail
  go_at_call 25
  refine (same_eq aW K cW aV cV _ iW iV (by omega)).mono ?_
  rintro e w13 ⟨rfl, b13⟩
  have j13 : Below w12.heap.size w12 w13 := by (repeat (first | exact Below.refl _ _ | refine Below.alloc ?_ (by first | omega | (simp; done) | (simp; omega)) _ | refine Below.drew ?_ | refine Below.setCell ?_ (by first | omega | (simp; done) | (simp; omega)) _ | refine Below.trans ?_ (Below.mono (by assumption) (by first | omega | (simp; done) | (simp; omega)))))
  have t13 : Below w.heap.size w w13 := t12.trans (j13.mono t12.size)
  replace hk := hk.below j13
  replace hd := hd.below j13
  replace hp := hp.below j13
  replace q0 := below_cell j13 q0
  replace q1 := below_cell j13 q1
  replace q2 := below_cell j13 q2
  replace q3 := below_cell j13 q3
  replace lB := Nat.lt_of_lt_of_le lB j13.size
  replace iM := iM.below j13
  replace iW := iW.below j13
  replace iH := iH.below j13
  replace iV := iV.below j13
  go_wp2_with fail
  go_at_call 25
  refine (same_eqN aH M cH a7 c7 (plain.length + 1 + 0) HeML.out _ iH iM (by omega)).mono ?_
  rintro e w14 ⟨rfl, b14⟩
  have j14 : Below w13.heap.size w13 w14 := by (repeat (first | exact Below.refl _ _ | refine Below.alloc ?_ (by first | omega | (simp; done) | (simp; omega)) _ | refine Below.drew ?_ | refine Below.setCell ?_ (by first | omega | (simp; done) | (simp; omega)) _ | refine Below.trans ?_ (Below.mono (by assumption) (by first | omega | (simp; done) | (simp; omega)))))
  have t14 : Below w.heap.size w w14 := t13.trans (j14.mono t13.size)
  replace hk := hk.below j14
  replace hd := hd.below j14
  replace hp := hp.below j14
  replace q0 := below_cell j14 q0
  replace q1 := below_cell j14 q1
  replace q2 := below_cell j14 q2
  replace q3 := below_cell j14 q3
  replace lB := Nat.lt_of_lt_of_le lB j14.size
  replace iM := iM.below j14
  replace iW := iW.below j14
  replace iH := iH.below j14
  replace iV := iV.below j14
  go_wp2_with fail
  go_at_call 17
  refine (awake_any _).mono ?_
  rintro e w15 ⟨rfl, b15⟩
  have j15 : Below w14.heap.size w14 w15 := by (repeat (first | exact Below.refl _ _ | refine Below.alloc ?_ (by first | omega | (simp; done) | (simp; omega)) _ | refine Below.drew ?_ | refine Below.setCell ?_ (by first | omega | (simp; done) | (simp; omega)) _ | refine Below.trans ?_ (Below.mono (by assumption) (by first | omega | (simp; done) | (simp; omega)))))
  have t15 : Below w.heap.size w w15 := t14.trans (j15.mono t14.size)
  replace hk := hk.below j15
  replace hd := hd.below j15
  replace hp := hp.below j15
  replace q0 := below_cell j15 q0
  replace q1 := below_cell j15 q1
  replace q2 := below_cell j15 q2
  replace q3 := below_cell j15 q3
  replace lB := Nat.lt_of_lt_of_le lB j15.size
  replace iM := iM.below j15
  replace iW := iW.below j15
  replace iH := iH.below j15
  replace iV := iV.below j15
  go_wp2_with fail
  go_ret
  exact ⟨rfl, t15⟩

set_option maxRecDepth 100000 in
set_option maxHeartbeats 4000000 in
theorem nulls_b2 (s wo : Int) (ak : Option Addr) (ks : List (Int × Int × Int)) (ck : Nat) (ad : Option Addr) (ds : List Int) (cd : Nat) (p : Addr) (plain : List Int) (cp : Nat) (A A1 A2 : Nat) (w : World) (hk : Recs3At w ak ks) (hd : IntsAt w ad ds) (nd : ad = none → cd = 0) (hp : IntsAt w (some p) plain) (hcp : plain.length ≤ cp) (hcm : cp ≤ 9223372036854775807) (hA : A ≤ 255) (hA1 : A1 ≤ 255) (hA2 : A2 ≤ 255) (hR : readyB s wo ks ds plain = true) (h9 : (plain.length : Int) ≤ 9) (hws : wo < s) (k : Nat) (hk1 : (A1 : Int) % ((plain.length : Int) + 1) = (k : Int)) (kl : k ≤ plain.length) (Z : Int) (hZ : wo + (A2 : Int) % (s - wo) = Z) (Z0 : wo ≤ Z) (Z1 : Z < s) (M D1 D2 K : List Int) (day : Int) (hday : (A : Int) % (ds.length : Int) = day) (HM : Hid (plain.take k ++ [Z] ++ plain.drop k = M)) (HcE : Hid (codeErr s wo ks ds day plain = 0)) (HcO : Hid (codeOut s wo ks ds day plain = D1)) (HdE : Hid (decodeErr s wo ks ds day D1 = 0)) (HdO : Hid (decOut s wo ks ds day D1 = plain)) (HcE2 : Hid (codeErr s wo ks ds day M = 0)) (HcO2 : Hid (codeOut s wo ks ds day M = D2)) (HdE2 : Hid (decodeErr s wo ks ds day D2 = 0)) (HdO2 : Hid (decOut s wo ks ds day D2 = M)) (HK : Hid (keptB wo plain = K)) (HK2 : Hid (keptB wo M = K)) (LD1 : D1.length ≤ 12) (LD2 : D2.length ≤ 12) (h0 : ¬ cp = 0) (hck : ¬ cp = k) :
    Calls Try.prog 8 #[.agg #[.int .i64 s, .int .i64 wo, .slice ak ks.length ck, .slice ad ds.length cd], Value.slice (some p) plain.length cp, .int .u8 A, .int .u8 A1, .int .u8 A2] w fun e w' => e = .returned (.bool true) ∧ Below w.heap.size w w' := by

  have HR := Lib.hid hR
  obtain ⟨hbk, hl10, hpa⟩ := readyB_ok hR
  obtain ⟨lk5, ld8, s0, s1, _, wo1, _, k0, dd0, _⟩ := bookErr_ok hbk
  have lk : ks.length ≤ 1000 := by omega
  have ld : ds.length ≤ 1000 := by omega
  have hne : ((ds.length : Int) == 0) = false := by simp; intro h; subst h; simp at dd0
  have hdp : (0 : Int) < ds.length := by omega
  have hwe : (wo == s) = false := by simp; omega
  have kli : ((k) : Int) ≤ (plain.length : Int) := by omega
  have klc : ((k) : Int) ≤ ((cp) : Int) := by omega
  obtain ⟨r, hr⟩ : ∃ r, s - wo = r := ⟨_, rfl⟩
  rw [hr] at hZ
  have hrn : ¬ r = 0 := by omega
  obtain ⟨t, ht⟩ : ∃ t, (A2 : Int) % r = t := ⟨_, rfl⟩
  have ht0 : 0 ≤ t := by rw [← ht]; exact Int.emod_nonneg _ (by omega)
  have ht1 : t < r := by rw [← ht]; exact Int.emod_lt_of_pos _ (by omega)
  rw [ht] at hZ
  have x0 : IntKind.i64.wrap (A2 : Int) = A2 := IntWalk.i64_in _ (by omega)
  have x1 : IntKind.i64.wrap (s - wo) = r := by rw [← hr]; exact IntWalk.i64_in _ (by omega)
  have x2 : IntKind.i64.wrap (wo + t) = Z := by rw [← hZ]; exact IntWalk.i64_in _ (by omega)
  have tm1 : (A2 : Int).tmod r = t := by rw [Int.tmod_eq_emod_of_nonneg (by omega), ht]
  have hTl : (plain.take k).length = k := by rw [List.length_take]; omega
  have hRl : (plain.drop k).length = plain.length - k := by first | (rw [List.length_drop]; omega) | (rw [List.length_drop]; done) | simp
  have hTa : IntsAt w (some p) (plain.take k) := ints_take hp k
  have hMl : M.length = plain.length + 1 := by rw [← HM.out]; simp [hTl]; try omega
  obtain ⟨Tl, hTe⟩ : ∃ l, plain.take k = l := ⟨_, rfl⟩
  obtain ⟨Rl, hRe⟩ : ∃ l, plain.drop k = l := ⟨_, rfl⟩
  have hRa : IntsAt w (some (p.add k)) (plain.drop k) := ints_drop hp k
  rw [hTe] at HM hTl hTa
  rw [hRe] at HM hRl hRa
  have HTl := Lib.hid hTl
  have HRl := Lib.hid hRl
  have HMl := Lib.hid hMl
  have hM10 : M.length ≤ 10 := by first | omega | (simp at hMl; omega)
  have hK10 : K.length ≤ 10 := by rw [← HK.out]; exact Nat.le_trans (List.length_filter_le _ _) (by first | omega | simp)
  clear hR hbk hpa hr hTl hRl hMl hTe hRe hZ ht hws
  go_enter Try.func8, Try.ntmps8
  go_wp2_with fail
  go_at_call 33
  refine (ready_eq s wo ak ks ck ad ds cd (some p) plain cp true HR _ (hk.below (by (repeat (first | exact Below.refl _ _ | refine Below.alloc ?_ (by first | omega | (simp; done) | (simp; omega)) _ | refine Below.drew ?_ | refine Below.setCell ?_ (by first | omega | (simp; done) | (simp; omega)) _ | refine Below.trans ?_ (Below.mono (by assumption) (by first | omega | (simp; done) | (simp; omega))))))) (hd.below (by (repeat (first | exact Below.refl _ _ | refine Below.alloc ?_ (by first | omega | (simp; done) | (simp; omega)) _ | refine Below.drew ?_ | refine Below.setCell ?_ (by first | omega | (simp; done) | (simp; omega)) _ | refine Below.trans ?_ (Below.mono (by assumption) (by first | omega | (simp; done) | (simp; omega))))))) (hp.below (by (repeat (first | exact Below.refl _ _ | refine Below.alloc ?_ (by first | omega | (simp; done) | (simp; omega)) _ | refine Below.drew ?_ | refine Below.setCell ?_ (by first | omega | (simp; done) | (simp; omega)) _ | refine Below.trans ?_ (Below.mono (by assumption) (by first | omega | (simp; done) | (simp; omega)))))))).mono ?_
  rintro e w1 ⟨rfl, b1⟩
  have t1 : Below w.heap.size w w1 := by (repeat (first | exact Below.refl _ _ | refine Below.alloc ?_ (by first | omega | (simp; done) | (simp; omega)) _ | refine Below.drew ?_ | refine Below.setCell ?_ (by first | omega | (simp; done) | (simp; omega)) _ | refine Below.trans ?_ (Below.mono (by assumption) (by first | omega | (simp; done) | (simp; omega)))))
  replace hk := hk.below t1
  replace hd := hd.below t1
  replace hp := hp.below t1
  obtain ⟨q0, q1, q2, q3⟩ := BookAt.of (b1.mono (by simp))
  have lB := cell_lt q0
  simp only at lB
  replace hTa := hTa.below t1
  replace hRa := hRa.below t1
  go_wp2_with fail
  (refine wp_region_seq 16 [] [16, 17] 138 [true, true, true, false, true, true, true, true, true, true, true, true, true, true, true, false] [OwnV 3 1 w1.heap.size k (Tl.map (Value.int .i64)), LitV w1.heap.size 1 #[.int .i64 Z] 3] (by kernel_rfl) (by kernel_rfl) rfl (mono_cons (fun v w w' h hb => h.kept hb) (mono_cons (fun v w w' h hb => h.kept hb) mono_nil)) ?_; simp only [pickOps, List.filterMap_cons, List.filterMap_nil, List.getElem?_toArray, List.getElem?_cons_succ, List.getElem?_cons_zero]; (repeat (refine wpFl_step _ rfl (fun w => (by go_simp; rfl)) ?_)); refine wpFl_nil ?_; simp only [maskOps, dummy, Act.put, List.setIfInBounds_toArray, List.set_cons_zero, List.set_cons_succ, List.take_succ_cons, List.take_zero, List.drop_succ_cons, List.drop_zero]; (repeat (refine wpQB_step (fun K hK => ?_); go_simp; first | (refine hK _ ?_; clear hK K) | (apply Exists.intro; refine ⟨fun ex => ?_, hK _ ?_⟩; (fail); clear hK K))); refine wpQB_nil ?_; simp only [relObl2, under, relEnd, and_true, List.nil_append, List.cons_append])
  refine ⟨⟨fun e => ?_, fun e v1 h1 => ?_⟩, fun e => ?_⟩
  · go_simp
    have heb := e.below
    refine (list_anyN (some p) Tl cp k HTl.out e.to (hTa.below heb) (by omega) (fun h => by cases h)).mono ?_
    rintro r' w' ⟨a1, c1, rfl, o1, hb⟩
    exact ⟨hb, a1, c1, rfl, o1.base_le (by have := e.size; omega)⟩
  · go_simp
    exact ⟨(Below.refl _ _).alloc (Nat.le_refl _) _, e.to.heap.size, rfl, by have := e.size; omega, Cells.new _ _ _⟩
  rintro v1 ⟨a1, c1, rfl, o1⟩ v2 ⟨gg, rfl, hg1, hgg⟩
  simp only [Act.put, List.setIfInBounds_toArray, List.set_cons_zero, List.set_cons_succ]
  have heb := e.below
  have hez := e.size
  obtain ⟨x2, hx2⟩ : ∃ x : World, x = e.to := ⟨_, rfl⟩
  rw [← hx2] at heb hez hgg o1 ⊢
  clear hx2
  refine wpList_app elInt rfl _ _ rfl w1.heap.size a1 k c1 _ rfl o1 (some ⟨gg, 0, none⟩) 1 1 _ rfl (fun h => by cases h) rfl hgg.src (fun u hu => by simp at hu; subst hu; rfl) (by unfold maxLen; omega) (by omega) (by omega) ?_
  intro a6 c6 x3 o6 b6
  have bT3 := heb.trans b6
  have zT3 := bT3.size
  go_wp2_with (at_builtin; refine wpList_app elInt rfl _ _ rfl w1.heap.size a6 (k + 1) c6 _ rfl o6 (some (p.add k)) (plain.length - k) (cp - k) (Rl.map (Value.int .i64)) rfl (fun h => by cases h) (by rw [List.length_map, HRl.out, Nat.mul_one]) (SrcAt.ints (hRa.below bT3)) (fun u hu => ?c3) (by unfold maxLen; omega) (by omega) zT3 ?_)
  case c3 => obtain ⟨z, _, rfl⟩ := List.mem_map.1 hu; rfl
  intro a7 c7 x4 o7 b7
  have eML : M.length = k + 1 + (plain.length - k) := by have := HMl.out; omega
  have oM : OwnL 3 1 w1.heap.size x4 a7 c7 M.length (M.map (Value.int .i64)) := by
    rw [eML, ← HM.out, List.map_append, List.map_append]
    rw [List.append_assoc]
    exact o7
  have iM := oM.ints.1
  have nM : a7 = none → c7 = 0 := fun h => by subst h; exact oM.isnil.2
  have HeML := Lib.hid eML
  have bT4 := bT3.trans b7
  clear o7 o6 oM eML bT3 b7 b6 zT3 hez heb o1 hgg hg1 hTa hRa
  have b2 := bT4
  obtain ⟨w2, hwq⟩ : ∃ x : World, x = x4 := ⟨_, rfl⟩
  subst hwq
  have j2 : Below w1.heap.size w1 w2 := by (repeat (first | exact Below.refl _ _ | refine Below.alloc ?_ (by first | omega | (simp; done) | (simp; omega)) _ | refine Below.drew ?_ | refine Below.setCell ?_ (by first | omega | (simp; done) | (simp; omega)) _ | refine Below.trans ?_ (Below.mono (by assumption) (by first | omega | (simp; done) | (simp; omega)))))
  have t2 : Below w.heap.size w w2 := t1.trans (j2.mono t1.size)
  replace hk := hk.below j2
  replace hd := hd.below j2
  replace hp := hp.below j2
  replace q0 := below_cell j2 q0
  replace q1 := below_cell j2 q1
  replace q2 := below_cell j2 q2
  replace q3 := below_cell j2 q3
  replace lB := Nat.lt_of_lt_of_le lB j2.size
  go_wp2_with fail
  go_at_call 19
  refine (bookConv_at s wo ak ks ck ad ds cd _ hk hd lk ld nd).mono ?_
  rintro e w3 ⟨⟨akA, ckA, adA, cdA, rfl, kA, dA⟩, b3⟩
  have j3 : Below w2.heap.size w2 w3 := by (repeat (first | exact Below.refl _ _ | refine Below.alloc ?_ (by first | omega | (simp; done) | (simp; omega)) _ | refine Below.drew ?_ | refine Below.setCell ?_ (by first | omega | (simp; done) | (simp; omega)) _ | refine Below.trans ?_ (Below.mono (by assumption) (by first | omega | (simp; done) | (simp; omega)))))
  have t3 : Below w.heap.size w w3 := t2.trans (j3.mono t2.size)
  replace hk := hk.below j3
  replace hd := hd.below j3
  replace hp := hp.below j3
  replace q0 := below_cell j3 q0
  replace q1 := below_cell j3 q1
  replace q2 := below_cell j3 q2
  replace q3 := below_cell j3 q3
  replace lB := Nat.lt_of_lt_of_le lB j3.size
  replace iM := iM.below j3
  go_wp2_with fail
  go_at_call 21
  refine (list_at (some p) plain cp _ hp (by omega) (fun h => by cases h)).mono ?_
  rintro e w4 ⟨⟨aP, cP, rfl, iP, _⟩, b4⟩
  have j4 : Below w3.heap.size w3 w4 := by (repeat (first | exact Below.refl _ _ | refine Below.alloc ?_ (by first | omega | (simp; done) | (simp; omega)) _ | refine Below.drew ?_ | refine Below.setCell ?_ (by first | omega | (simp; done) | (simp; omega)) _ | refine Below.trans ?_ (Below.mono (by assumption) (by first | omega | (simp; done) | (simp; omega)))))
  have t4 : Below w.heap.size w w4 := t3.trans (j4.mono t3.size)
  replace hk := hk.below j4
  replace hd := hd.below j4
  replace hp := hp.below j4
  replace q0 := below_cell j4 q0
  replace q1 := below_cell j4 q1
  replace q2 := below_cell j4 q2
  replace q3 := below_cell j4 q3
  replace lB := Nat.lt_of_lt_of_le lB j4.size
  replace iM := iM.below j4
  replace kA := kA.below j4
  replace dA := dA.below j4
  go_wp2_with fail
  go_at_call 20
  refine (code_at s wo akA ks ckA adA ds cdA day aP plain cP D1 0 HcO HcE _ kA dA lk ld iP (by omega)).mono ?_
  rintro e w5 ⟨⟨aD, cD, rfl, iD, nD, lD, mD⟩, b5⟩
  have j5 : Below w4.heap.size w4 w5 := by (repeat (first | exact Below.refl _ _ | refine Below.alloc ?_ (by first | omega | (simp; done) | (simp; omega)) _ | refine Below.drew ?_ | refine Below.setCell ?_ (by first | omega | (simp; done) | (simp; omega)) _ | refine Below.trans ?_ (Below.mono (by assumption) (by first | omega | (simp; done) | (simp; omega)))))
  have t5 : Below w.heap.size w w5 := t4.trans (j5.mono t4.size)
  replace hk := hk.below j5
  replace hd := hd.below j5
  replace hp := hp.below j5
  replace q0 := below_cell j5 q0
  replace q1 := below_cell j5 q1
  replace q2 := below_cell j5 q2
  replace q3 := below_cell j5 q3
  replace lB := Nat.lt_of_lt_of_le lB j5.size
  replace iM := iM.below j5
  replace kA := kA.below j5
  replace dA := dA.below j5
  replace iP := iP.below j5
  unfold maxLen at mD
  clear kA dA iP
  go_wp2_with fail
  go_at_call 19
  refine (bookConv_at s wo ak ks ck ad ds cd _ hk hd lk ld nd).mono ?_
  rintro e w6 ⟨⟨akB, ckB, adB, cdB, rfl, kB, dB⟩, b6⟩
  have j6 : Below w5.heap.size w5 w6 := by (repeat (first | exact Below.refl _ _ | refine Below.alloc ?_ (by first | omega | (simp; done) | (simp; omega)) _ | refine Below.drew ?_ | refine Below.setCell ?_ (by first | omega | (simp; done) | (simp; omega)) _ | refine Below.trans ?_ (Below.mono (by assumption) (by first | omega | (simp; done) | (simp; omega)))))
  have t6 : Below w.heap.size w w6 := t5.trans (j6.mono t5.size)
  replace hk := hk.below j6
  replace hd := hd.below j6
  replace hp := hp.below j6
  replace q0 := below_cell j6 q0
  replace q1 := below_cell j6 q1
  replace q2 := below_cell j6 q2
  replace q3 := below_cell j6 q3
  replace lB := Nat.lt_of_lt_of_le lB j6.size
  replace iM := iM.below j6
  replace iD := iD.below j6
  go_wp2_with fail
  go_at_call 21
  refine (list_atN a7 M c7 (k + 1 + (plain.length - k)) HeML.out _ iM (by omega) nM).mono ?_
  rintro e w7 ⟨⟨aQ, cQ, rfl, iQ, _⟩, b7⟩
  have j7 : Below w6.heap.size w6 w7 := by (repeat (first | exact Below.refl _ _ | refine Below.alloc ?_ (by first | omega | (simp; done) | (simp; omega)) _ | refine Below.drew ?_ | refine Below.setCell ?_ (by first | omega | (simp; done) | (simp; omega)) _ | refine Below.trans ?_ (Below.mono (by assumption) (by first | omega | (simp; done) | (simp; omega)))))
  have t7 : Below w.heap.size w w7 := t6.trans (j7.mono t6.size)
  replace hk := hk.below j7
  replace hd := hd.below j7
  replace hp := hp.below j7
  replace q0 := below_cell j7 q0
  replace q1 := below_cell j7 q1
  replace q2 := below_cell j7 q2
  replace q3 := below_cell j7 q3
  replace lB := Nat.lt_of_lt_of_le lB j7.size
  replace iM := iM.below j7
  replace iD := iD.below j7
  replace kB := kB.below j7
  replace dB := dB.below j7
  go_wp2_with fail
  go_at_call 20
  refine (code_at s wo akB ks ckB adB ds cdB day aQ M cQ D2 0 HcO2 HcE2 _ kB dB lk ld iQ (by omega)).mono ?_
  rintro e w8 ⟨⟨aE, cE, rfl, iE, nE, lE, mE⟩, b8⟩
  have j8 : Below w7.heap.size w7 w8 := by (repeat (first | exact Below.refl _ _ | refine Below.alloc ?_ (by first | omega | (simp; done) | (simp; omega)) _ | refine Below.drew ?_ | refine Below.setCell ?_ (by first | omega | (simp; done) | (simp; omega)) _ | refine Below.trans ?_ (Below.mono (by assumption) (by first | omega | (simp; done) | (simp; omega)))))
  have t8 : Below w.heap.size w w8 := t7.trans (j8.mono t7.size)
  replace hk := hk.below j8
  replace hd := hd.below j8
  replace hp := hp.below j8
  replace q0 := below_cell j8 q0
  replace q1 := below_cell j8 q1
  replace q2 := below_cell j8 q2
  replace q3 := below_cell j8 q3
  replace lB := Nat.lt_of_lt_of_le lB j8.size
  replace iM := iM.below j8
  replace iD := iD.below j8
  replace kB := kB.below j8
  replace dB := dB.below j8
  replace iQ := iQ.below j8
  unfold maxLen at mE
  clear kB dB iQ
  go_wp2_with fail
  go_at_call 19
  refine (bookConv_at s wo ak ks ck ad ds cd _ hk hd lk ld nd).mono ?_
  rintro e w9 ⟨⟨akC, ckC, adC, cdC, rfl, kC, dC⟩, b9⟩
  have j9 : Below w8.heap.size w8 w9 := by (repeat (first | exact Below.refl _ _ | refine Below.alloc ?_ (by first | omega | (simp; done) | (simp; omega)) _ | refine Below.drew ?_ | refine Below.setCell ?_ (by first | omega | (simp; done) | (simp; omega)) _ | refine Below.trans ?_ (Below.mono (by assumption) (by first | omega | (simp; done) | (simp; omega)))))
  have t9 : Below w.heap.size w w9 := t8.trans (j9.mono t8.size)
  replace hk := hk.below j9
  replace hd := hd.below j9
  replace hp := hp.below j9
  replace q0 := below_cell j9 q0
  replace q1 := below_cell j9 q1
  replace q2 := below_cell j9 q2
  replace q3 := below_cell j9 q3
  replace lB := Nat.lt_of_lt_of_le lB j9.size
  replace iM := iM.below j9
  replace iD := iD.below j9
  replace iE := iE.below j9
  go_wp2_with fail
  go_at_call 27
  refine (decode_at s wo akC ks ckC adC ds cdC day aD D1 cD plain K 0 HdO HK HdE _ kC dC lk ld iD (by omega) lD mD).mono ?_
  rintro e w10 ⟨⟨aF, cF, aW, cW, rfl, iF, iW, _⟩, b10⟩
  have j10 : Below w9.heap.size w9 w10 := by (repeat (first | exact Below.refl _ _ | refine Below.alloc ?_ (by first | omega | (simp; done) | (simp; omega)) _ | refine Below.drew ?_ | refine Below.setCell ?_ (by first | omega | (simp; done) | (simp; omega)) _ | refine Below.trans ?_ (Below.mono (by assumption) (by first | omega | (simp; done) | (simp; omega)))))
  have t10 : Below w.heap.size w w10 := t9.trans (j10.mono t9.size)
  replace hk := hk.below j10
  replace hd := hd.below j10
  replace hp := hp.below j10
  replace q0 := below_cell j10 q0
  replace q1 := below_cell j10 q1
  replace q2 := below_cell j10 q2
  replace q3 := below_cell j10 q3
  replace lB := Nat.lt_of_lt_of_le lB j10.size
  replace iM := iM.below j10
  replace iD := iD.below j10
  replace iE := iE.below j10
  replace kC := kC.below j10
  replace dC := dC.below j10
  clear kC dC iD iF
  go_wp2_with fail
  go_at_call 19
  refine (bookConv_at s wo ak ks ck ad ds cd _ hk hd lk ld nd).mono ?_
  rintro e w11 ⟨⟨akG, ckG, adG, cdG, rfl, kG, dG⟩, b11⟩
  have j11 : Below w10.heap.size w10 w11 := by (repeat (first | exact Below.refl _ _ | refine Below.alloc ?_ (by first | omega | (simp; done) | (simp; omega)) _ | refine Below.drew ?_ | refine Below.setCell ?_ (by first | omega | (simp; done) | (simp; omega)) _ | refine Below.trans ?_ (Below.mono (by assumption) (by first | omega | (simp; done) | (simp; omega)))))
  have t11 : Below w.heap.size w w11 := t10.trans (j11.mono t10.size)
  replace hk := hk.below j11
  replace hd := hd.below j11
  replace hp := hp.below j11
  replace q0 := below_cell j11 q0
  replace q1 := below_cell j11 q1
  replace q2 := below_cell j11 q2
  replace q3 := below_cell j11 q3
  replace lB := Nat.lt_of_lt_of_le lB j11.size
  replace iM := iM.below j11
  replace iE := iE.below j11
  replace iW := iW.below j11
  go_wp2_with fail
  go_at_call 27
  refine (decode_at s wo akG ks ckG adG ds cdG day aE D2 cE M K 0 HdO2 HK2 HdE2 _ kG dG lk ld iE (by omega) lE mE).mono ?_
  rintro e w12 ⟨⟨aH, cH, aV, cV, rfl, iH, iV, _⟩, b12⟩
  have j12 : Below w11.heap.size w11 w12 := by (repeat (first | exact Below.refl _ _ | refine Below.alloc ?_ (by first | omega | (simp; done) | (simp; omega)) _ | refine Below.drew ?_ | refine Below.setCell ?_ (by first | omega | (simp; done) | (simp; omega)) _ | refine Below.trans ?_ (Below.mono (by assumption) (by first | omega | (simp; done) | (simp; omega)))))
  have t12 : Below w.heap.size w w12 := t11.trans (j12.mono t11.size)
  replace hk := hk.below j12
  replace hd := hd.below j12
  replace hp := hp.below j12
  replace q0 := below_cell j12 q0
  replace q1 := below_cell j12 q1
  replace q2 := below_cell j12 q2
  replace q3 := below_cell j12 q3
  replace lB := Nat.lt_of_lt_of_le lB j12.size
  replace iM := iM.below j12
  replace iE := iE.below j12
  replace iW := iW.below j12
  replace kG := kG.below j12
  replace dG := dG.below j12
  clear kG dG iE
  go_wp2_with fail
  go_at_call 25
  refine (same_eq aW K cW aV cV _ iW iV (by omega)).mono ?_
  rintro e w13 ⟨rfl, b13⟩
  have j13 : Below w12.heap.size w12 w13 := by (repeat (first | exact Below.refl _ _ | refine Below.alloc ?_ (by first | omega | (simp; done) | (simp; omega)) _ | refine Below.drew ?_ | refine Below.setCell ?_ (by first | omega | (simp; done) | (simp; omega)) _ | refine Below.trans ?_ (Below.mono (by assumption) (by first | omega | (simp; done) | (simp; omega)))))
  have t13 : Below w.heap.size w w13 := t12.trans (j13.mono t12.size)
  replace hk := hk.below j13
  replace hd := hd.below j13
  replace hp := hp.below j13
  replace q0 := below_cell j13 q0
  replace q1 := below_cell j13 q1
  replace q2 := below_cell j13 q2
  replace q3 := below_cell j13 q3
  replace lB := Nat.lt_of_lt_of_le lB j13.size
  replace iM := iM.below j13
  replace iW := iW.below j13
  replace iH := iH.below j13
  replace iV := iV.below j13
  go_wp2_with fail
  go_at_call 25
  refine (same_eqN aH M cH a7 c7 (k + 1 + (plain.length - k)) HeML.out _ iH iM (by omega)).mono ?_
  rintro e w14 ⟨rfl, b14⟩
  have j14 : Below w13.heap.size w13 w14 := by (repeat (first | exact Below.refl _ _ | refine Below.alloc ?_ (by first | omega | (simp; done) | (simp; omega)) _ | refine Below.drew ?_ | refine Below.setCell ?_ (by first | omega | (simp; done) | (simp; omega)) _ | refine Below.trans ?_ (Below.mono (by assumption) (by first | omega | (simp; done) | (simp; omega)))))
  have t14 : Below w.heap.size w w14 := t13.trans (j14.mono t13.size)
  replace hk := hk.below j14
  replace hd := hd.below j14
  replace hp := hp.below j14
  replace q0 := below_cell j14 q0
  replace q1 := below_cell j14 q1
  replace q2 := below_cell j14 q2
  replace q3 := below_cell j14 q3
  replace lB := Nat.lt_of_lt_of_le lB j14.size
  replace iM := iM.below j14
  replace iW := iW.below j14
  replace iH := iH.below j14
  replace iV := iV.below j14
  go_wp2_with fail
  go_at_call 17
  refine (awake_any _).mono ?_
  rintro e w15 ⟨rfl, b15⟩
  have j15 : Below w14.heap.size w14 w15 := by (repeat (first | exact Below.refl _ _ | refine Below.alloc ?_ (by first | omega | (simp; done) | (simp; omega)) _ | refine Below.drew ?_ | refine Below.setCell ?_ (by first | omega | (simp; done) | (simp; omega)) _ | refine Below.trans ?_ (Below.mono (by assumption) (by first | omega | (simp; done) | (simp; omega)))))
  have t15 : Below w.heap.size w w15 := t14.trans (j15.mono t14.size)
  replace hk := hk.below j15
  replace hd := hd.below j15
  replace hp := hp.below j15
  replace q0 := below_cell j15 q0
  replace q1 := below_cell j15 q1
  replace q2 := below_cell j15 q2
  replace q3 := below_cell j15 q3
  replace lB := Nat.lt_of_lt_of_le lB j15.size
  replace iM := iM.below j15
  replace iW := iW.below j15
  replace iH := iH.below j15
  replace iV := iV.below j15
  go_wp2_with fail
  go_ret
  exact ⟨rfl, t15⟩

theorem all_ok3 {s : Int} {l : List Int} {k : Nat} {Z : Int} (h : l.all (plainOk s) = true) (z0 : 0 ≤ Z) (z1 : Z < s) : (l.take k ++ [Z] ++ l.drop k).all (plainOk s) = true := by
  rw [List.all_eq_true] at h ⊢
  intro x hx
  simp only [List.mem_append, List.mem_singleton] at hx
  rcases hx with (hx | rfl) | hx
  · exact h x (List.mem_of_mem_take hx)
  · simp [plainOk]; omega
  · exact h x (List.mem_of_mem_drop hx)
theorem nulls_walk (s wo : Int) (ak : Option Addr) (ks : List (Int × Int × Int)) (ck : Nat) (ad : Option Addr) (ds : List Int) (cd : Nat) (ap : Option Addr) (plain : List Int) (cp : Nat) (a a1 a2 : Int) (w : World) (hk : Recs3At w ak ks) (hd : IntsAt w ad ds) (nd : ad = none → cd = 0) (hp : IntsAt w ap plain) (np : ap = none → cp = 0) (hcp : plain.length ≤ cp) (hcm : cp ≤ maxLen) (ha : (Lit.int .u8 a).wf = true) (ha1 : (Lit.int .u8 a1).wf = true) (ha2 : (Lit.int .u8 a2).wf = true) :
    Calls Try.prog 8 #[.agg #[.int .i64 s, .int .i64 wo, .slice ak ks.length ck, .slice ad ds.length cd], .slice ap plain.length cp, .int .u8 a, .int .u8 a1, .int .u8 a2] w fun e w' => e = .returned (.bool true) ∧ Below w.heap.size w w' := by
  unfold maxLen at hcm
  have e0 := u8_b ha
  have e1 := u8_b ha1
  have e2 := u8_b ha2
  obtain ⟨A, rfl⟩ := Int.eq_ofNat_of_zero_le e0.1
  obtain ⟨A1, rfl⟩ := Int.eq_ofNat_of_zero_le e1.1
  obtain ⟨A2, rfl⟩ := Int.eq_ofNat_of_zero_le e2.1
  cases hR : readyB s wo ks ds plain
  · exact nulls_a1 s wo ak ks ck ad ds cd ap plain cp A A1 A2 w hk hd nd hp np hcp hcm (by omega) (by omega) (by omega) hR
  by_cases h9 : 9 < (plain.length : Int)
  · exact nulls_a2 s wo ak ks ck ad ds cd ap plain cp A A1 A2 w hk hd nd hp np hcp hcm (by omega) (by omega) (by omega) hR h9
  by_cases hws : wo = s
  · exact nulls_a3 s wo ak ks ck ad ds cd ap plain cp A A1 A2 w hk hd nd hp np hcp hcm (by omega) (by omega) (by omega) hR (by omega) hws
  obtain ⟨hbk, hl10, hpa⟩ := readyB_ok hR
  obtain ⟨lk5, ld8, s0, s1, _, wo1, wos, k0, dd0, _⟩ := bookErr_ok hbk
  have hdp : (0 : Int) < ds.length := by omega
  have hv : Valid s wo ks ds ((A : Int) % ds.length) := ⟨hbk, Int.emod_nonneg _ (by omega), Int.emod_lt_of_pos _ hdp⟩
  have kl : A1 % (plain.length + 1) ≤ plain.length := by have := Nat.mod_lt A1 (show 0 < plain.length + 1 by omega); omega
  have hk1 : (A1 : Int) % ((plain.length : Int) + 1) = ((A1 % (plain.length + 1) : Nat) : Int) := (Int.natCast_emod _ _).symm
  obtain ⟨k, hke⟩ : ∃ k, A1 % (plain.length + 1) = k := ⟨_, rfl⟩
  rw [hke] at kl hk1
  have t0 := Int.emod_nonneg (A2 : Int) (show s - wo ≠ 0 by omega)
  have t1 := Int.emod_lt_of_pos (A2 : Int) (show 0 < s - wo by omega)
  obtain ⟨Z, hZ⟩ : ∃ Z, wo + (A2 : Int) % (s - wo) = Z := ⟨_, rfl⟩
  have Z0 : wo ≤ Z := by omega
  have Z1 : Z < s := by omega
  have hMa := all_ok3 (k := k) hpa (show 0 ≤ Z by omega) Z1
  have hKe : keptB wo (plain.take k ++ [Z] ++ plain.drop k) = keptB wo plain := by rw [kept_null Z0, List.take_append_drop]
  have hMl : (plain.take k ++ [Z] ++ plain.drop k).length ≤ 10 := by simp; omega
  obtain ⟨M, hM⟩ : ∃ M, plain.take k ++ [Z] ++ plain.drop k = M := ⟨_, rfl⟩
  rw [hM] at hMa hKe hMl
  obtain ⟨hdE, hdO⟩ := decode_back hv plain hl10 hpa
  obtain ⟨hdE2, hdO2⟩ := decode_back hv M hMl hMa
  have hcE : codeErr s wo ks ds ((A : Int) % ds.length) plain = 0 := by unfold codeErr; rw [if_neg (by simp [hbk]), if_neg (by have := hv.d0; have := hv.d1; omega), if_neg (by omega), if_neg (by simp [hpa])]
  have hcE2 : codeErr s wo ks ds ((A : Int) % ds.length) M = 0 := by unfold codeErr; rw [if_neg (by simp [hbk]), if_neg (by have := hv.d0; have := hv.d1; omega), if_neg (by omega), if_neg (by simp [hMa])]
  have L1 : (codeRes s ks ds ((A : Int) % ds.length) plain).length ≤ 12 := by rw [codeRes_len]; omega
  have L2 : (codeRes s ks ds ((A : Int) % ds.length) M).length ≤ 12 := by rw [codeRes_len]; omega
  by_cases h0 : cp = 0
  · exact nulls_b0 s wo ak ks ck ad ds cd ap plain cp A A1 A2 w hk hd nd hp np hcp hcm (by omega) (by omega) (by omega) hR (by omega) (by omega) k hk1 kl Z hZ Z0 Z1 M _ _ _ _ rfl (Lib.hid hM) (Lib.hid hcE) (Lib.hid (if_pos hcE)) (Lib.hid hdE) (Lib.hid hdO) (Lib.hid hcE2) (Lib.hid (if_pos hcE2)) (Lib.hid hdE2) (Lib.hid hdO2) (Lib.hid rfl) (Lib.hid hKe) L1 L2 h0
  cases ap with
  | none => exact absurd (np rfl) h0
  | some p =>
    by_cases hck : cp = k
    · exact nulls_b1 s wo ak ks ck ad ds cd p plain cp A A1 A2 w hk hd nd hp hcp hcm (by omega) (by omega) (by omega) hR (by omega) (by omega) k hk1 kl Z hZ Z0 Z1 M _ _ _ _ rfl (Lib.hid hM) (Lib.hid hcE) (Lib.hid (if_pos hcE)) (Lib.hid hdE) (Lib.hid hdO) (Lib.hid hcE2) (Lib.hid (if_pos hcE2)) (Lib.hid hdE2) (Lib.hid hdO2) (Lib.hid rfl) (Lib.hid hKe) L1 L2 h0 hck
    · exact nulls_b2 s wo ak ks ck ad ds cd p plain cp A A1 A2 w hk hd nd hp hcp hcm (by omega) (by omega) (by omega) hR (by omega) (by omega) k hk1 kl Z hZ Z0 Z1 M _ _ _ _ rfl (Lib.hid hM) (Lib.hid hcE) (Lib.hid (if_pos hcE)) (Lib.hid hdE) (Lib.hid hdO) (Lib.hid hcE2) (Lib.hid (if_pos hcE2)) (Lib.hid hdE2) (Lib.hid hdO2) (Lib.hid rfl) (Lib.hid hKe) L1 L2 h0 hck
end Go.Proofs.Ytmplgcefhpobgaa
