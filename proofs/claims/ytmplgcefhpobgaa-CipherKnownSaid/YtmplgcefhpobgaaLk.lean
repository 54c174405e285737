/- CipherKnown: the walk -/
import Derived.Test.YtmplgcefhpobgaaMh
import Derived.Test.YtmplgcefhpobgaaLd
import Derived.Test.YtmplgcefhpobgaaLf
namespace Go.Proofs.Ytmplgcefhpobgaa
set_option linter.unusedVariables false
set_option linter.unusedSimpArgs false
set_option linter.unnecessarySimpa false
open Go.RowKit Go.Flow

def TupG (C plain : List Int) (v : Value) (w : World) : Prop := ∃ a1 c1 a2 c2 gl, v = .tuple #[.slice a1 plain.length c1, .slice a2 (gl : List (Int × Int)).length c2] ∧ IntsAt w a1 C ∧ (a1 = none → c1 = 0) ∧ Recs2At w a2 gl ∧ TrueG plain plain.length gl
theorem TupG.kept {C plain : List Int} {v : Value} {w w' : World} (h : TupG C plain v w) (hb : Below w.heap.size w w') : TupG C plain v w' := let ⟨a1, c1, a2, c2, gl, h1, h2, h3, h4, h5⟩ := h; ⟨a1, c1, a2, c2, gl, h1, h2.below hb, h3, h4.below hb, h5⟩
def SlC (C plain : List Int) (v : Value) (w : World) : Prop := ∃ a c, v = .slice a plain.length c ∧ IntsAt w a C ∧ (a = none → c = 0)
theorem SlC.kept {C plain : List Int} {v : Value} {w w' : World} (h : SlC C plain v w) (hb : Below w.heap.size w w') : SlC C plain v w' := let ⟨a, c, h1, h2, h3⟩ := h; ⟨a, c, h1, h2.below hb, h3⟩
def SlG (plain : List Int) (v : Value) (w : World) : Prop := ∃ a c gl, v = .slice a (gl : List (Int × Int)).length c ∧ Recs2At w a gl ∧ TrueG plain plain.length gl
theorem SlG.kept {plain : List Int} {v : Value} {w w' : World} (h : SlG plain v w) (hb : Below w.heap.size w w') : SlG plain v w' := let ⟨a, c, gl, h1, h2, h3⟩ := h; ⟨a, c, gl, h1, h2.below hb, h3⟩
theorem IntsAt.lit1 (w : World) (p : Int) (T : TypeId) : IntsAt (w.alloc (.cells #[.int .i64 p] T)) (some ⟨w.heap.size, 0, none⟩) [p] := fun k hk => by
  have hk0 : k = 0 := by simp at hk; exact hk
  subst hk0
  exact ⟨w.heap.size, 0, rfl, by simp, by rw [World.cell?_alloc_at _ _ _ _ rfl]; rfl⟩
theorem same_one (a : Option Addr) (L : List Int) (c : Nat) (b : Option Addr) (p : Int) (w : World) (hL : Hid (L = [p])) (hx : IntsAt w a L) (hy : IntsAt w b [p]) :
    Calls Try.prog 25 #[.slice a L.length c, .slice b 1 1] w fun e w' => e = .returned (.bool true) ∧ Below w.heap.size w w' := by
  have h := hL.out
  subst h
  exact same_eq a [p] c b 1 w hx hy (by simp)
theorem has_eq (a : Option Addr) (l : List Int) (c : Nat) (n : Int) (r : Bool) (hr : Hid (l.any (· == n) = r)) (w : World) (hl : IntsAt w a l) (ll : l.length ≤ 1000) :
    Calls Try.prog 46 #[.slice a l.length c, .int .i64 n] w fun e w' => e = .returned (.bool r) ∧ w = w' := by
  rw [← hr.out]; exact has_any a l c n w hl ll

set_option maxRecDepth 100000 in
set_option maxHeartbeats 8000000 in
theorem known_a (s wo : Int) (ak : Option Addr) (ks : List (Int × Int × Int)) (ck : Nat) (ad : Option Addr) (ds : List Int) (cd : Nat) (ap : Option Addr) (plain : List Int) (cp : Nat) (A : Nat) (bits : Int) (w : World) (hk : Recs3At w ak ks) (hd : IntsAt w ad ds) (nd : ad = none → cd = 0) (hp : IntsAt w ap plain) (hA : A ≤ 255) (B0 : 0 ≤ bits) (B1 : bits ≤ 65535) (hR : readyB s wo ks ds plain = false) :
    Calls Try.prog 13 #[.agg #[.int .i64 s, .int .i64 wo, .slice ak ks.length ck, .slice ad ds.length cd], .slice ap plain.length cp, .int .u8 A, .int .u16 bits] w fun e w' => e = .returned (.bool true) ∧ Below w.heap.size w w' := by

  have HR := Lib.hid hR
  clear hR
  go_enter Try.func13, Try.ntmps13
  go_wp2_with fail
  go_at_call 33
  refine (ready_eq s wo ak ks ck ad ds cd ap plain cp false HR _ (hk.below (by (repeat (first | exact Below.refl _ _ | refine Below.alloc ?_ (by first | omega | (simp; done) | (simp; omega)) _ | refine Below.drew ?_ | refine Below.setCell ?_ (by first | omega | (simp; done) | (simp; omega)) _ | refine Below.trans ?_ (Below.mono (by assumption) (by first | omega | (simp; done) | (simp; omega))))))) (hd.below (by (repeat (first | exact Below.refl _ _ | refine Below.alloc ?_ (by first | omega | (simp; done) | (simp; omega)) _ | refine Below.drew ?_ | refine Below.setCell ?_ (by first | omega | (simp; done) | (simp; omega)) _ | refine Below.trans ?_ (Below.mono (by assumption) (by first | omega | (simp; done) | (simp; omega))))))) (hp.below (by (repeat (first | exact Below.refl _ _ | refine Below.alloc ?_ (by first | omega | (simp; done) | (simp; omega)) _ | refine Below.drew ?_ | refine Below.setCell ?_ (by first | omega | (simp; done) | (simp; omega)) _ | refine Below.trans ?_ (Below.mono (by assumption) (by first | omega | (simp; done) | (simp; omega)))))))).mono ?_
  rintro e w1 ⟨rfl, b1⟩
  have t1 : Below w.heap.size w w1 := by (repeat (first | exact Below.refl _ _ | refine Below.alloc ?_ (by first | omega | (simp; done) | (simp; omega)) _ | refine Below.drew ?_ | refine Below.setCell ?_ (by first | omega | (simp; done) | (simp; omega)) _ | refine Below.trans ?_ (Below.mono (by assumption) (by first | omega | (simp; done) | (simp; omega)))))
  replace hk := hk.below t1
  replace hd := hd.below t1
  replace hp := hp.below t1
  obtain ⟨q0, q1, q2, q3⟩ := BookAt.of (b1.mono (by simp))
  have lB := cell_lt q0
  simp only at lB
  go_wp2_with fail
  go_at_call 17
  refine (awake_any _).mono ?_
  rintro e w2 ⟨rfl, b2⟩
  have j2 : Below w1.heap.size w1 w2 := by (repeat (first | exact Below.refl _ _ | refine Below.alloc ?_ (by first | omega | (simp; done) | (simp; omega)) _ | refine Below.drew ?_ | refine Below.setCell ?_ (by first | omega | (simp; done) | (simp; omega)) _ | refine Below.trans ?_ (Below.mono (by assumption) (by first | omega | (simp; done) | (simp; omega)))))
  have t2 : Below w.heap.size w w2 := t1.trans (j2.mono t1.size)
  replace hk := hk.below j2
  replace hd := hd.below j2
  replace hp := hp.below j2
  replace q0 := below_cell j2 q0
  replace q1 := below_cell j2 q1
  replace q2 := below_cell j2 q2
  replace q3 := below_cell j2 q3
  replace lB := Nat.lt_of_lt_of_le lB j2.size
  go_wp2_with fail
  go_ret
  exact ⟨rfl, t2⟩

set_option maxRecDepth 100000 in
set_option maxHeartbeats 8000000 in
theorem known_b (s wo : Int) (ak : Option Addr) (ks : List (Int × Int × Int)) (ck : Nat) (ad : Option Addr) (ds : List Int) (cd : Nat) (ap : Option Addr) (plain : List Int) (cp : Nat) (A : Nat) (bits : Int) (w : World) (hk : Recs3At w ak ks) (hd : IntsAt w ad ds) (nd : ad = none → cd = 0) (hp : IntsAt w ap plain) (hA : A ≤ 255) (B0 : 0 ≤ bits) (B1 : bits ≤ 65535) (hR : readyB s wo ks ds plain = true) (I : Nat) (hI : (A : Int) % (ks.length : Int) = (I : Int)) (hIl : I < ks.length) (m a st : Int) (hkey : ks[I] = (m, a, st)) (C : List Int) (HC : Hid (codesK s m a st plain plain.length = C)) (HCl : Hid (C.length = plain.length)) (HK : Hid (∀ gl, TrueG plain plain.length gl → ∃ N, KnownFin s wo ks ds C plain gl N)) :
    Calls Try.prog 13 #[.agg #[.int .i64 s, .int .i64 wo, .slice ak ks.length ck, .slice ad ds.length cd], .slice ap plain.length cp, .int .u8 A, .int .u16 bits] w fun e w' => e = .returned (.bool true) ∧ Below w.heap.size w w' := by

  have HR := Lib.hid hR
  obtain ⟨hbk, hl10, hpa⟩ := readyB_ok hR
  obtain ⟨lk5, ld8, s0, s1, _, _, _, k0, dd0, hka, _⟩ := bookErr_ok hbk
  have lk : ks.length ≤ 1000 := by omega
  have ld : ds.length ≤ 1000 := by omega
  have lpl : plain.length ≤ 1000 := by omega
  have hko := List.all_eq_true.1 hka ks[I] (List.getElem_mem hIl)
  rw [hkey] at hko
  simp [keyOk] at hko
  obtain ⟨⟨⟨m0, m1⟩, a0, a1⟩, st0, st1⟩ := hko
  have hkn : ((ks.length : Int) == 0) = false := by simp; intro h; subst h; simp at k0
  have hkn2 : ¬ (ks.length : Int) = 0 := by omega
  have hki : (0 : Int) < ks.length := by omega
  have hkn3 : ¬ ks.length = 0 := by omega
  have tm2 : A % ks.length = I := by omega
  have tm3 : IntKind.i64.wrap (I : Int) = I := IntWalk.i64_in _ (by omega)
  have hIi : (I : Int) < (ks.length : Int) := by omega
  have x0 : IntKind.i64.wrap (A : Int) = A := IntWalk.i64_in _ (by omega)
  have tm1 : (A : Int).tmod (ks.length : Int) = I := by rw [Int.tmod_eq_emod_of_nonneg (by omega), hI]
  obtain ⟨bk, offk, rfl, lbk, ck0, ck1, ck2⟩ := hk I hIl
  rw [hkey] at ck0 ck1 ck2
  simp only at ck0 ck1 ck2
  have Hpa := Lib.hid hpa
  have Hkey := Lib.hid hkey
  clear hR hbk hpa hka hkey
  go_enter Try.func13, Try.ntmps13
  go_wp2_with fail
  go_at_call 33
  refine (ready_eq s wo (some ⟨bk, offk, none⟩) ks ck ad ds cd ap plain cp true HR _ (hk.below (by (repeat (first | exact Below.refl _ _ | refine Below.alloc ?_ (by first | omega | (simp; done) | (simp; omega)) _ | refine Below.drew ?_ | refine Below.setCell ?_ (by first | omega | (simp; done) | (simp; omega)) _ | refine Below.trans ?_ (Below.mono (by assumption) (by first | omega | (simp; done) | (simp; omega))))))) (hd.below (by (repeat (first | exact Below.refl _ _ | refine Below.alloc ?_ (by first | omega | (simp; done) | (simp; omega)) _ | refine Below.drew ?_ | refine Below.setCell ?_ (by first | omega | (simp; done) | (simp; omega)) _ | refine Below.trans ?_ (Below.mono (by assumption) (by first | omega | (simp; done) | (simp; omega))))))) (hp.below (by (repeat (first | exact Below.refl _ _ | refine Below.alloc ?_ (by first | omega | (simp; done) | (simp; omega)) _ | refine Below.drew ?_ | refine Below.setCell ?_ (by first | omega | (simp; done) | (simp; omega)) _ | refine Below.trans ?_ (Below.mono (by assumption) (by first | omega | (simp; done) | (simp; omega)))))))).mono ?_
  rintro e w1 ⟨rfl, b1⟩
  have t1 : Below w.heap.size w w1 := by (repeat (first | exact Below.refl _ _ | refine Below.alloc ?_ (by first | omega | (simp; done) | (simp; omega)) _ | refine Below.drew ?_ | refine Below.setCell ?_ (by first | omega | (simp; done) | (simp; omega)) _ | refine Below.trans ?_ (Below.mono (by assumption) (by first | omega | (simp; done) | (simp; omega)))))
  replace ck0 := below_cell t1 ck0
  replace ck1 := below_cell t1 ck1
  replace ck2 := below_cell t1 ck2
  replace lbk := Nat.lt_of_lt_of_le lbk t1.size
  replace hk := hk.below t1
  replace hd := hd.below t1
  replace hp := hp.below t1
  obtain ⟨q0, q1, q2, q3⟩ := BookAt.of (b1.mono (by simp))
  have lB := cell_lt q0
  simp only at lB
  go_wp2_with fail
  (refine wp_region_seq 19 [] [] 116 [true, true, true, true, true, true, true, true, true, true, true, true, true, false, false, false, false, false, false] [TupG C plain, TupG C plain, SlC C plain, SlG plain, SlC C plain, SlG plain] (by kernel_rfl) (by kernel_rfl) rfl (mono_cons (fun v w w' h hb => h.kept hb) (mono_cons (fun v w w' h hb => h.kept hb) (mono_cons (fun v w w' h hb => h.kept hb) (mono_cons (fun v w w' h hb => h.kept hb) (mono_cons (fun v w w' h hb => h.kept hb) (mono_cons (fun v w w' h hb => h.kept hb) mono_nil)))))) ?_; simp only [pickOps, List.filterMap_cons, List.filterMap_nil, List.getElem?_toArray, List.getElem?_cons_succ, List.getElem?_cons_zero]; (repeat (refine wpFl_step _ rfl (fun w => (by go_simp; rfl)) ?_)); refine wpFl_nil ?_; simp only [maskOps, dummy, Act.put, List.setIfInBounds_toArray, List.set_cons_zero, List.set_cons_succ, List.take_succ_cons, List.take_zero, List.drop_succ_cons, List.drop_zero]; (repeat (refine wpQB_step (fun K hK => ?_); go_simp; first | (refine hK _ ?_; clear hK K) | (apply Exists.intro; refine ⟨fun ex => ?_, hK _ ?_⟩; (fail); clear hK K))); refine wpQB_nil ?_; simp only [relObl2, under, relEnd, and_true, List.nil_append, List.cons_append])
  refine ⟨⟨fun e => ?_, fun e v1 h1 => ?_, fun e v1 h1 v2 h2 => ?_, fun e v1 h1 v2 h2 v3 h3 => ?_, fun e v1 h1 v2 h2 v3 h3 v4 h4 => ?_, fun e v1 h1 v2 h2 v3 h3 v4 h4 v5 h5 => ?_⟩, fun e => ?_⟩
  · go_simp
    refine (guessed_any s wo (some ⟨bk, offk, none⟩) ks ck ad ds cd m a st ap plain cp bits e.to (hk.below e.below) (hd.below e.below) lk ld (hp.below e.below) hl10 Hpa s0 s1 (by omega) (by omega) a0 (by omega) st0 (by omega) B0 B1).mono ?_
    rw [HC.out]
    rintro _ _ ⟨⟨a1, c1, a2, c2, gl, rfl, i1, n1, i2, g⟩, b⟩
    exact ⟨b, a1, c1, a2, c2, gl, rfl, i1, n1, i2, g⟩
  · obtain ⟨a1, c1, a2, c2, gl, rfl, i1, n1, i2, g⟩ := h1 (by kernel_rfl)
    go_simp
    exact ⟨Below.refl _ _, a1, c1, a2, c2, gl, rfl, i1, n1, i2, g⟩
  · obtain ⟨a1, c1, a2, c2, gl, rfl, i1, n1, i2, g⟩ := h2 (by kernel_rfl)
    go_simp
    exact ⟨Below.refl _ _, a1, c1, rfl, i1, n1⟩
  · obtain ⟨a1, c1, a2, c2, gl, rfl, i1, n1, i2, g⟩ := h2 (by kernel_rfl)
    go_simp
    exact ⟨Below.refl _ _, a2, c2, gl, rfl, i2, g⟩
  · obtain ⟨a1, c1, rfl, i1, n1⟩ := h3 (by kernel_rfl)
    go_simp
    exact ⟨Below.refl _ _, a1, c1, rfl, i1, n1⟩
  · obtain ⟨a2, c2, gl, rfl, i2, g⟩ := h4 (by kernel_rfl)
    go_simp
    exact ⟨Below.refl _ _, a2, c2, gl, rfl, i2, g⟩
  rintro v1 _ v2 _ v3 _ v4 _ v5 ⟨aC, cC, rfl, iC, nC⟩ v6 ⟨aG, cG, gl, rfl, iG, hgl⟩
  simp only [Act.put, List.setIfInBounds_toArray, List.set_cons_zero, List.set_cons_succ]
  have bE := e.below
  obtain ⟨x2, hx2⟩ : ∃ x : World, x = e.to := ⟨_, rfl⟩
  rw [← hx2] at bE iC iG ⊢
  clear hx2 hkn hkn2 tm1 x0 hkn3 tm2 tm3
  have b2 := bE
  obtain ⟨w2, hwq⟩ : ∃ x : World, x = x2 := ⟨_, rfl⟩
  subst hwq
  have j2 : Below w1.heap.size w1 w2 := by (repeat (first | exact Below.refl _ _ | refine Below.alloc ?_ (by first | omega | (simp; done) | (simp; omega)) _ | refine Below.drew ?_ | refine Below.setCell ?_ (by first | omega | (simp; done) | (simp; omega)) _ | refine Below.trans ?_ (Below.mono (by assumption) (by first | omega | (simp; done) | (simp; omega)))))
  have t2 : Below w.heap.size w w2 := t1.trans (j2.mono t1.size)
  replace ck0 := below_cell j2 ck0
  replace ck1 := below_cell j2 ck1
  replace ck2 := below_cell j2 ck2
  replace lbk := Nat.lt_of_lt_of_le lbk j2.size
  replace hk := hk.below j2
  replace hd := hd.below j2
  replace hp := hp.below j2
  replace q0 := below_cell j2 q0
  replace q1 := below_cell j2 q1
  replace q2 := below_cell j2 q2
  replace q3 := below_cell j2 q3
  replace lB := Nat.lt_of_lt_of_le lB j2.size
  obtain ⟨N, hfe, hfn, hN1, hall⟩ := HK.out gl hgl
  have g6 := hgl.1
  have HE := Lib.hid hfe
  have HN := Lib.hid hfn
  have Hall := Lib.hid hall
  have dN : decide (N < 1) = false := by simp; omega
  clear hfe hfn hall hgl ck0 ck1 ck2
  go_wp2_with fail
  go_at_call 19
  refine (bookConv_at s wo (some ⟨bk, offk, none⟩) ks ck ad ds cd _ hk hd lk ld nd).mono ?_
  rintro e w3 ⟨⟨akA, ckA, adA, cdA, rfl, kA, dA⟩, b3⟩
  have j3 : Below w2.heap.size w2 w3 := by (repeat (first | exact Below.refl _ _ | refine Below.alloc ?_ (by first | omega | (simp; done) | (simp; omega)) _ | refine Below.drew ?_ | refine Below.setCell ?_ (by first | omega | (simp; done) | (simp; omega)) _ | refine Below.trans ?_ (Below.mono (by assumption) (by first | omega | (simp; done) | (simp; omega)))))
  have t3 : Below w.heap.size w w3 := t2.trans (j3.mono t2.size)
  replace lbk := Nat.lt_of_lt_of_le lbk j3.size
  replace hk := hk.below j3
  replace hd := hd.below j3
  replace hp := hp.below j3
  replace q0 := below_cell j3 q0
  replace q1 := below_cell j3 q1
  replace q2 := below_cell j3 q2
  replace q3 := below_cell j3 q3
  replace lB := Nat.lt_of_lt_of_le lB j3.size
  replace iC := iC.below j3
  replace iG := iG.below j3
  go_wp2_with fail
  go_at_call 21
  refine (list_atN aC C cC plain.length HCl.out _ iC (by have := HCl.out; omega) nC).mono ?_
  rintro e w4 ⟨⟨aD, cD, rfl, iD, _⟩, b4⟩
  have j4 : Below w3.heap.size w3 w4 := by (repeat (first | exact Below.refl _ _ | refine Below.alloc ?_ (by first | omega | (simp; done) | (simp; omega)) _ | refine Below.drew ?_ | refine Below.setCell ?_ (by first | omega | (simp; done) | (simp; omega)) _ | refine Below.trans ?_ (Below.mono (by assumption) (by first | omega | (simp; done) | (simp; omega)))))
  have t4 : Below w.heap.size w w4 := t3.trans (j4.mono t3.size)
  replace lbk := Nat.lt_of_lt_of_le lbk j4.size
  replace hk := hk.below j4
  replace hd := hd.below j4
  replace hp := hp.below j4
  replace q0 := below_cell j4 q0
  replace q1 := below_cell j4 q1
  replace q2 := below_cell j4 q2
  replace q3 := below_cell j4 q3
  replace lB := Nat.lt_of_lt_of_le lB j4.size
  replace iC := iC.below j4
  replace iG := iG.below j4
  replace kA := kA.below j4
  replace dA := dA.below j4
  go_wp2_with fail
  go_at_call 41
  refine (guessesConv_at aG gl cG _ iG (by omega)).mono ?_
  rintro e w5 ⟨⟨aH, cH, rfl, iH, _⟩, b5⟩
  have j5 : Below w4.heap.size w4 w5 := by (repeat (first | exact Below.refl _ _ | refine Below.alloc ?_ (by first | omega | (simp; done) | (simp; omega)) _ | refine Below.drew ?_ | refine Below.setCell ?_ (by first | omega | (simp; done) | (simp; omega)) _ | refine Below.trans ?_ (Below.mono (by assumption) (by first | omega | (simp; done) | (simp; omega)))))
  have t5 : Below w.heap.size w w5 := t4.trans (j5.mono t4.size)
  replace lbk := Nat.lt_of_lt_of_le lbk j5.size
  replace hk := hk.below j5
  replace hd := hd.below j5
  replace hp := hp.below j5
  replace q0 := below_cell j5 q0
  replace q1 := below_cell j5 q1
  replace q2 := below_cell j5 q2
  replace q3 := below_cell j5 q3
  replace lB := Nat.lt_of_lt_of_le lB j5.size
  replace iC := iC.below j5
  replace iG := iG.below j5
  replace kA := kA.below j5
  replace dA := dA.below j5
  replace iD := iD.below j5
  go_wp2_with fail
  go_at_call 40
  refine (fits_eq s wo akA ks ckA adA ds cdA aD C cD aH gl cH N 0 HN HE _ kA dA lk ld iD (by have := HCl.out; omega) iH (by omega)).mono ?_
  rintro e w6 ⟨rfl, b6⟩
  have j6 : Below w5.heap.size w5 w6 := by (repeat (first | exact Below.refl _ _ | refine Below.alloc ?_ (by first | omega | (simp; done) | (simp; omega)) _ | refine Below.drew ?_ | refine Below.setCell ?_ (by first | omega | (simp; done) | (simp; omega)) _ | refine Below.trans ?_ (Below.mono (by assumption) (by first | omega | (simp; done) | (simp; omega)))))
  have t6 : Below w.heap.size w w6 := t5.trans (j6.mono t5.size)
  replace lbk := Nat.lt_of_lt_of_le lbk j6.size
  replace hk := hk.below j6
  replace hd := hd.below j6
  replace hp := hp.below j6
  replace q0 := below_cell j6 q0
  replace q1 := below_cell j6 q1
  replace q2 := below_cell j6 q2
  replace q3 := below_cell j6 q3
  replace lB := Nat.lt_of_lt_of_le lB j6.size
  replace iC := iC.below j6
  replace iG := iG.below j6
  replace kA := kA.below j6
  replace dA := dA.below j6
  replace iD := iD.below j6
  replace iH := iH.below j6
  clear kA dA iD iH
  go_wp2_with fail
  go_loopw [13] (fun i wr => ∃ j : Nat, j ≤ plain.length ∧ i = .int .i64 j ∧ Below w6.heap.size w6 wr) (fun i _ => plain.length - (intOf i).toNat)
  case atStart => exact ⟨0, Nat.zero_le _, rfl, Below.refl _ _⟩
  case round =>
    obtain ⟨j, hj, rfl, bR⟩ := hrel
    by_cases hlt : j < plain.length
    · obtain ⟨hpe, hl1, hany, hone, hgs⟩ := Hall.out j hlt
      obtain ⟨bp, op, rfl, lbp, cpj⟩ := (hp.below bR) j hlt
      obtain ⟨L, hL⟩ : ∃ L, possL s wo ks ds C gl j = L := ⟨_, rfl⟩
      rw [hL] at hl1 hany hone hgs
      obtain ⟨pv, hpv⟩ : ∃ pv, plain.getD j 0 = pv := ⟨_, rfl⟩
      rw [hpv] at cpj hany hgs
      have HPE := Lib.hid hpe
      have HL := Lib.hid hL
      have Hany := Lib.hid hany
      have Hgs := Lib.hid hgs
      have hji : (j : Int) < (plain.length : Int) := by omega
      obtain ⟨g1, hg1⟩ : ∃ g, (N == 1) = g := ⟨_, rfl⟩
      have HNL : g1 = true → ((L.length : Int) != 1) = false := fun h => by
        subst h
        have h2 : N = 1 := by simpa using hg1
        have := hone h2
        simp; omega
      have HNLh := Lib.hid HNL
      have Hlt := Lib.hid hlt
      clear hpe hL hany hgs hone hpv HNL hlt
      have b7 := bR
      obtain ⟨w7, hwq⟩ : ∃ x : World, x = wr := ⟨_, rfl⟩
      subst hwq
      have j7 : Below w6.heap.size w6 w7 := by (repeat (first | exact Below.refl _ _ | refine Below.alloc ?_ (by first | omega | (simp; done) | (simp; omega)) _ | refine Below.drew ?_ | refine Below.setCell ?_ (by first | omega | (simp; done) | (simp; omega)) _ | refine Below.trans ?_ (Below.mono (by assumption) (by first | omega | (simp; done) | (simp; omega)))))
      have t7 : Below w.heap.size w w7 := t6.trans (j7.mono t6.size)
      replace lbk := Nat.lt_of_lt_of_le lbk j7.size
      replace hk := hk.below j7
      replace hd := hd.below j7
      replace hp := hp.below j7
      replace q0 := below_cell j7 q0
      replace q1 := below_cell j7 q1
      replace q2 := below_cell j7 q2
      replace q3 := below_cell j7 q3
      replace lB := Nat.lt_of_lt_of_le lB j7.size
      replace iC := iC.below j7
      replace iG := iG.below j7
      have r7 : Below w6.heap.size w6 w7 := j7
      go_wp2_with fail
      go_at_call 19
      refine (bookConv_at s wo (some ⟨bk, offk, none⟩) ks ck ad ds cd _ hk hd lk ld nd).mono ?_
      rintro e w8 ⟨⟨akA, ckA, adA, cdA, rfl, kA, dA⟩, b8⟩
      have j8 : Below w7.heap.size w7 w8 := by (repeat (first | exact Below.refl _ _ | refine Below.alloc ?_ (by first | omega | (simp; done) | (simp; omega)) _ | refine Below.drew ?_ | refine Below.setCell ?_ (by first | omega | (simp; done) | (simp; omega)) _ | refine Below.trans ?_ (Below.mono (by assumption) (by first | omega | (simp; done) | (simp; omega)))))
      have t8 : Below w.heap.size w w8 := t7.trans (j8.mono t7.size)
      have r8 : Below w6.heap.size w6 w8 := r7.trans (j8.mono r7.size)
      replace lbk := Nat.lt_of_lt_of_le lbk j8.size
      replace hk := hk.below j8
      replace hd := hd.below j8
      replace hp := hp.below j8
      replace q0 := below_cell j8 q0
      replace q1 := below_cell j8 q1
      replace q2 := below_cell j8 q2
      replace q3 := below_cell j8 q3
      replace lB := Nat.lt_of_lt_of_le lB j8.size
      replace iC := iC.below j8
      replace iG := iG.below j8
      replace cpj := below_cell j8 cpj
      replace lbp := Nat.lt_of_lt_of_le lbp j8.size
      go_wp2_with fail
      go_at_call 21
      refine (list_atN aC C cC plain.length HCl.out _ iC (by have := HCl.out; omega) nC).mono ?_
      rintro e w9 ⟨⟨aD, cD, rfl, iD, _⟩, b9⟩
      have j9 : Below w8.heap.size w8 w9 := by (repeat (first | exact Below.refl _ _ | refine Below.alloc ?_ (by first | omega | (simp; done) | (simp; omega)) _ | refine Below.drew ?_ | refine Below.setCell ?_ (by first | omega | (simp; done) | (simp; omega)) _ | refine Below.trans ?_ (Below.mono (by assumption) (by first | omega | (simp; done) | (simp; omega)))))
      have t9 : Below w.heap.size w w9 := t8.trans (j9.mono t8.size)
      have r9 : Below w6.heap.size w6 w9 := r8.trans (j9.mono r8.size)
      replace lbk := Nat.lt_of_lt_of_le lbk j9.size
      replace hk := hk.below j9
      replace hd := hd.below j9
      replace hp := hp.below j9
      replace q0 := below_cell j9 q0
      replace q1 := below_cell j9 q1
      replace q2 := below_cell j9 q2
      replace q3 := below_cell j9 q3
      replace lB := Nat.lt_of_lt_of_le lB j9.size
      replace iC := iC.below j9
      replace iG := iG.below j9
      replace cpj := below_cell j9 cpj
      replace lbp := Nat.lt_of_lt_of_le lbp j9.size
      replace kA := kA.below j9
      replace dA := dA.below j9
      go_wp2_with fail
      go_at_call 41
      refine (guessesConv_at aG gl cG _ iG (by omega)).mono ?_
      rintro e w10 ⟨⟨aH, cH, rfl, iH, _⟩, b10⟩
      have j10 : Below w9.heap.size w9 w10 := by (repeat (first | exact Below.refl _ _ | refine Below.alloc ?_ (by first | omega | (simp; done) | (simp; omega)) _ | refine Below.drew ?_ | refine Below.setCell ?_ (by first | omega | (simp; done) | (simp; omega)) _ | refine Below.trans ?_ (Below.mono (by assumption) (by first | omega | (simp; done) | (simp; omega)))))
      have t10 : Below w.heap.size w w10 := t9.trans (j10.mono t9.size)
      have r10 : Below w6.heap.size w6 w10 := r9.trans (j10.mono r9.size)
      replace lbk := Nat.lt_of_lt_of_le lbk j10.size
      replace hk := hk.below j10
      replace hd := hd.below j10
      replace hp := hp.below j10
      replace q0 := below_cell j10 q0
      replace q1 := below_cell j10 q1
      replace q2 := below_cell j10 q2
      replace q3 := below_cell j10 q3
      replace lB := Nat.lt_of_lt_of_le lB j10.size
      replace iC := iC.below j10
      replace iG := iG.below j10
      replace cpj := below_cell j10 cpj
      replace lbp := Nat.lt_of_lt_of_le lbp j10.size
      replace kA := kA.below j10
      replace dA := dA.below j10
      replace iD := iD.below j10
      go_wp2_with fail
      go_at_call 42
      refine (poss_at s wo akA ks ckA adA ds cdA aD C cD aH gl cH j L 0 HL HPE _ kA dA lk ld iD (by have := HCl.out; omega) iH (by omega)).mono ?_
      rintro e w11 ⟨⟨aL, cL, rfl, iL⟩, b11⟩
      have j11 : Below w10.heap.size w10 w11 := by (repeat (first | exact Below.refl _ _ | refine Below.alloc ?_ (by first | omega | (simp; done) | (simp; omega)) _ | refine Below.drew ?_ | refine Below.setCell ?_ (by first | omega | (simp; done) | (simp; omega)) _ | refine Below.trans ?_ (Below.mono (by assumption) (by first | omega | (simp; done) | (simp; omega)))))
      have t11 : Below w.heap.size w w11 := t10.trans (j11.mono t10.size)
      have r11 : Below w6.heap.size w6 w11 := r10.trans (j11.mono r10.size)
      replace lbk := Nat.lt_of_lt_of_le lbk j11.size
      replace hk := hk.below j11
      replace hd := hd.below j11
      replace hp := hp.below j11
      replace q0 := below_cell j11 q0
      replace q1 := below_cell j11 q1
      replace q2 := below_cell j11 q2
      replace q3 := below_cell j11 q3
      replace lB := Nat.lt_of_lt_of_le lB j11.size
      replace iC := iC.below j11
      replace iG := iG.below j11
      replace cpj := below_cell j11 cpj
      replace lbp := Nat.lt_of_lt_of_le lbp j11.size
      replace kA := kA.below j11
      replace dA := dA.below j11
      replace iD := iD.below j11
      replace iH := iH.below j11
      clear kA dA iD iH
      go_wp2_with fail
      go_at_call 46
      refine (has_eq aL L cL pv true Hany _ iL hl1).mono ?_
      rintro e _ ⟨rfl, rfl⟩
      have hnl : g1 = false ∨ (g1 = true ∧ ((L.length : Int) != 1) = false) := by cases g1; exact .inl rfl; exact .inr ⟨rfl, HNLh.out rfl⟩
      rcases hnl with rfl | ⟨rfl, hnl⟩
      all_goals
        go_wp2_with fail
        go_loopw [16] (fun i wr => ∃ z : Nat, z ≤ gl.length ∧ i = .int .i64 z ∧ Below w11.heap.size w11 wr) (fun i _ => gl.length - (intOf i).toNat)
        case atStart => exact ⟨0, Nat.zero_le _, rfl, Below.refl _ _⟩
        case round =>
          obtain ⟨z, hz, rfl, bZ⟩ := hrel
          have cpZ := below_cell bZ cpj
          have lbZ := Nat.lt_of_lt_of_le lbp bZ.size
          by_cases hzl : z < gl.length
          · obtain ⟨bg, og, rfl, lbg, g0, g1'⟩ := (iG.below bZ) z hzl
            have hzi : (z : Int) < (gl.length : Int) := by omega
            have Hz := Lib.hid hzl
            cases hx : (gl[z].1 == (j : Int))
            · obtain ⟨x, hxe⟩ : ∃ x, gl[z].1 = x := ⟨_, rfl⟩
              rw [hxe] at hx
              replace g0 := g0.trans (congrArg (fun q => some (Value.int IntKind.i64 q)) hxe)
              clear hxe g1' hzl
              go_wp2_with fail
              go_roundw
              case rel => exact ⟨z + 1, by have := Hz.out; omega, by go_num, bZ⟩
              case measure => have := Hz.out; simp [intOf]; omega
            · have HLp : Hid (L = [pv]) := Lib.hid (Hgs.out ⟨gl[z], List.getElem_mem hzl, by simpa using hx⟩)
              obtain ⟨x, hxe⟩ : ∃ x, gl[z].1 = x := ⟨_, rfl⟩
              rw [hxe] at hx
              replace g0 := g0.trans (congrArg (fun q => some (Value.int IntKind.i64 q)) hxe)
              clear hxe g1' hzl
              go_wp2_with fail
              go_at_call 25
              refine (same_one aL L cL _ pv _ HLp ((iL.below bZ).below ((Below.refl _ _).alloc (Nat.le_refl _) _)) (IntsAt.lit1 _ _ _)).mono ?_
              rintro e wS ⟨rfl, bS⟩
              have bS2 := bZ.trans ((((Below.refl _ _).alloc (Nat.le_refl _) _).trans (bS.mono (by simp))).mono bZ.size)
              go_wp2_with fail
              go_roundw
              case rel => exact ⟨z + 1, by have := Hz.out; omega, by go_num, bS2⟩
              case measure => have := Hz.out; simp [intOf]; omega
          · have hzq : z = gl.length := by omega
            subst hzq
            have rZ := r11.trans (bZ.mono r11.size)
            go_wp2_with fail
            go_roundw
            case rel => exact ⟨j + 1, by have := Hlt.out; omega, by go_num, rZ⟩
            case measure => have := Hlt.out; simp [intOf]; omega
    · have hjP : j = plain.length := by omega
      subst hjP
      have tR := t6.trans (bR.mono t6.size)
      go_wp2_with fail
      go_at_call 17
      refine (awake_any _).mono ?_
      rintro e wE ⟨rfl, bE⟩
      go_wp2_with fail
      go_ret
      exact ⟨rfl, tR.trans (bE.mono tR.size)⟩

theorem u16_b {a : Int} (h : (Lit.int .u16 a).wf = true) : 0 ≤ a ∧ a ≤ 65535 := by
  simp [Lit.wf, IntKind.min, IntKind.max, IntKind.bits, IntKind.signed] at h; omega
theorem known_walk (s wo : Int) (ak : Option Addr) (ks : List (Int × Int × Int)) (ck : Nat) (ad : Option Addr) (ds : List Int) (cd : Nat) (ap : Option Addr) (plain : List Int) (cp : Nat) (a bits : Int) (w : World) (hk : Recs3At w ak ks) (hd : IntsAt w ad ds) (nd : ad = none → cd = 0) (hp : IntsAt w ap plain) (np : ap = none → cp = 0) (ha : (Lit.int .u8 a).wf = true) (hbits : (Lit.int .u16 bits).wf = true) :
    Calls Try.prog 13 #[.agg #[.int .i64 s, .int .i64 wo, .slice ak ks.length ck, .slice ad ds.length cd], .slice ap plain.length cp, .int .u8 a, .int .u16 bits] w fun e w' => e = .returned (.bool true) ∧ Below w.heap.size w w' := by
  obtain ⟨a0, a1⟩ := u8_b ha
  obtain ⟨c0, c1⟩ := u16_b hbits
  obtain ⟨A, rfl⟩ := Int.eq_ofNat_of_zero_le a0
  cases hR : readyB s wo ks ds plain
  · exact known_a s wo ak ks ck ad ds cd ap plain cp A bits w hk hd nd hp (by omega) c0 c1 hR
  · obtain ⟨hbk, hl10, hpa⟩ := readyB_ok hR
    obtain ⟨lk5, ld8, s0, s1, _, _, _, k0, dd0, hka, _⟩ := bookErr_ok hbk
    have hI : (A : Int) % (ks.length : Int) = ((A % ks.length : Nat) : Int) := by omega
    have hIl : A % ks.length < ks.length := Nat.mod_lt _ (by omega)
    obtain ⟨k, hkey⟩ : ∃ k, ks[A % ks.length] = k := ⟨_, rfl⟩
    obtain ⟨m, a, st⟩ := k
    have hko : keyOk s (m, a, st) = true := by rw [← hkey]; exact List.all_eq_true.1 hka _ (List.getElem_mem hIl)
    exact known_b s wo ak ks ck ad ds cd ap plain cp A bits w hk hd nd hp (by omega) c0 c1 hR (A % ks.length) hI hIl m a st hkey _ (Lib.hid rfl) (Lib.hid (codesK_len _ _ _ _ _ _)) (Lib.hid fun gl hg => ⟨_, known_fin hbk hl10 hpa hg hko⟩)

end Go.Proofs.Ytmplgcefhpobgaa
