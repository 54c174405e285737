/- TopGuessed: the main way -/
import Derived.Test.YtnofcpihkglmmaaTg
import Derived.Test.YtnofcpihkglmmaaTh
namespace Go.Proofs.Ytnofcpihkglmmaa
set_option linter.unusedVariables false
set_option linter.unusedSimpArgs false
set_option linter.unnecessarySimpa false
open Go.RowKit Go.Flow
def TupC (s : Int) (m : Nat) (v : Value) (w : World) : Prop := ∃ ao co l, v = .tuple #[.slice ao (l : List Int).length co, .bool true] ∧ IntsAt w ao l ∧ CandOk s m l
theorem TupC.kept {s : Int} {m : Nat} {v : Value} {w w' : World} (h : TupC s m v w) (hb : Below w.heap.size w w') : TupC s m v w' := let ⟨a, c, l, h1, h2, h3⟩ := h; ⟨a, c, l, h1, h2.below hb, h3⟩
def SlCd (s : Int) (m : Nat) (v : Value) (w : World) : Prop := ∃ ao co l, v = .slice ao (l : List Int).length co ∧ IntsAt w ao l ∧ CandOk s m l
theorem SlCd.kept {s : Int} {m : Nat} {v : Value} {w w' : World} (h : SlCd s m v w) (hb : Below w.heap.size w w') : SlCd s m v w' := let ⟨a, c, l, h1, h2, h3⟩ := h; ⟨a, c, l, h1, h2.below hb, h3⟩
def BoolT (v : Value) (_ : World) : Prop := v = .bool true
theorem BoolT.kept {v : Value} {w w' : World} (h : BoolT v w) (_ : Below w.heap.size w w') : BoolT v w' := h
theorem poss_n (s wo : Int) (ak : Option Addr) (ks : List (Int × Int × Int)) (ck : Nat) (ad : Option Addr) (ds : List Int) (cd : Nat) (ac : Option Addr) (codes : List Int) (cc n : Nat) (hn : codes.length = n) (ag : Option Addr) (gs : List (Int × Int)) (cg : Nat) (x : Int) (L : List Int) (E : Int) (HL : Hid (possL s wo ks ds codes gs x = L)) (HE : Hid (possErr s wo ks ds codes gs x = E)) (w : World) (hk : Recs3At w ak ks) (hd : IntsAt w ad ds) (lk : ks.length ≤ 1000) (ld : ds.length ≤ 1000) (hc : IntsAt w ac codes) (lc : n ≤ 1000) (hg : Recs2At w ag gs) (lg : gs.length ≤ 1000) :
    Calls Try.prog 12 #[.agg #[.int .i64 s, .int .i64 wo, .slice ak ks.length ck, .slice ad ds.length cd], .slice ac n cc, .slice ag gs.length cg, .int .i64 x] w fun e w' => (∃ a c, e = .returned (.tuple #[.slice a L.length c, .int .i64 E]) ∧ IntsAt w' a L) ∧ Below w.heap.size w w' := by
  subst hn; exact poss_at s wo ak ks ck ad ds cd ac codes cc ag gs cg x L E HL HE w hk hd lk ld hc lc hg lg
set_option maxRecDepth 100000 in
set_option maxHeartbeats 16000000 in
theorem topg_main (ac : Option Addr) (ss : List ByteArray) (cc : Nat) (s wo : Int) (ak : Option Addr) (ks : List (Int × Int × Int)) (ck : Nat) (ad : Option Addr) (ds : List Int) (cd : Nat) (ap : Option Addr) (plain : List Int) (cp : Nat) (aw : Option Addr) (ws : List Int) (cw : Nat) (wh at_ er bits : Int) (w : World) (hx : StrsAt w ac ss) (hsl : ss.length ≤ 9223372036854775807) (hk : Recs3At w ak ks) (hd : IntsAt w ad ds) (hp : IntsAt w ap plain) (hw : W16At w aw ws) (hu : ∀ n ∈ ws, 0 ≤ n ∧ n ≤ 65535) (mw : ws.length ≤ 9223372036854775807) (hwh : 0 ≤ wh ∧ wh ≤ 255) (hat : 0 ≤ at_ ∧ at_ ≤ 255) (her : 0 ≤ er ∧ er ≤ 255) (B0 : 0 ≤ bits) (B1 : bits ≤ 65535) (nd : ad = none → cd = 0) (h1 : thinS ss = true) (h2 : faultS ss = 0) (h3 : (decide (ks.length ≤ 8) && decide (ds.length ≤ 11)) = true) (h4 : bookErr s wo ks ds = 0) (h5 : plain.length ≤ 10) (h6 : plain.length ≠ 0) (h7 : plain.all (plainOk s) = true) (h8 : 3 ≤ ss.length) :
    Calls Try.prog 3 #[.agg #[.slice ac ss.length cc], .agg #[.int .i64 s, .int .i64 wo, .slice ak ks.length ck, .slice ad ds.length cd], .slice ap plain.length cp, .slice aw ws.length cw, .int .u8 wh, .int .u8 at_, .int .u8 er, .int .u16 bits] w fun e w' => e = .returned (.bool true) ∧ Below w.heap.size w w' := by
  have HCk := Lib.hid (codeOk_of h2)
  have hc6 := (codeOk_of h2).le
  have hn9 := (thinS_iff h1).1
  have HU : Hid (∀ n ∈ ws, 0 ≤ n ∧ n ≤ 65535) := Lib.hid hu
  obtain ⟨lk5, ld8, s0, s1, _, _, _, k0, dd0, hka, _⟩ := bookErr_ok h4
  have lk : ks.length ≤ 1000 := by omega
  have ld : ds.length ≤ 1000 := by omega
  obtain ⟨⟨m, a, st⟩, hkey⟩ : ∃ x, ks[0] = x := ⟨_, rfl⟩
  have hko := List.all_eq_true.1 hka ks[0] (List.getElem_mem k0)
  rw [hkey] at hko
  have Hko := Lib.hid hko
  simp [keyOk] at hko
  obtain ⟨⟨⟨m0, m1⟩, a0, a1⟩, st0, st1⟩ := hko
  have hki : (0 : Int) < (ks.length : Int) := by omega
  obtain ⟨bk, offk, rfl, lbk, ck0, ck1, ck2⟩ := hk 0 k0
  rw [hkey] at ck0 ck1 ck2
  simp only [Nat.zero_mul, Nat.add_zero] at ck0 ck1 ck2
  have hpl : 0 < plain.length := by omega
  have Hpa := Lib.hid h7
  obtain ⟨wn, rfl⟩ : ∃ wn : Nat, wh = (wn : Int) := ⟨wh.toNat, by omega⟩
  obtain ⟨tn, rfl⟩ : ∃ tn : Nat, at_ = (tn : Int) := ⟨at_.toNat, by omega⟩
  obtain ⟨en, rfl⟩ : ∃ en : Nat, er = (en : Int) := ⟨er.toNat, by omega⟩
  obtain ⟨K, hK⟩ : ∃ K, en % 3 = K := ⟨_, rfl⟩
  have hK2 : K ≤ 2 := by omega
  have ecv : IntKind.i64.wrap (en : Int) = (en : Int) := IntWalk.i64_in _ (by omega)
  have etm : Int.tmod (en : Int) 3 = (K : Int) := by rw [← hK]; rfl
  obtain ⟨k, hkx⟩ : ∃ k, wn % plain.length = k := ⟨_, rfl⟩
  have hkl : k < plain.length := by rw [← hkx]; exact Nat.mod_lt _ hpl
  have kcv : IntKind.i64.wrap (wn : Int) = (wn : Int) := IntWalk.i64_in _ (by omega)
  have ktm : Int.tmod (wn : Int) (plain.length : Int) = (k : Int) := by rw [← hkx]; rfl
  have kcw : IntKind.i64.wrap (k : Int) = (k : Int) := IntWalk.i64_in _ (by omega)
  obtain ⟨i, hix⟩ : ∃ i, tn % plain.length = i := ⟨_, rfl⟩
  have hil : i < plain.length := by rw [← hix]; exact Nat.mod_lt _ hpl
  have icv : IntKind.i64.wrap (tn : Int) = (tn : Int) := IntWalk.i64_in _ (by omega)
  have itm : Int.tmod (tn : Int) (plain.length : Int) = (i : Int) := by rw [← hix]; rfl
  have icw : IntKind.i64.wrap (i : Int) = (i : Int) := IntWalk.i64_in _ (by omega)
  have inz : ¬ ((plain.length : Int) = 0) := by omega
  have inb : ((plain.length : Int) == 0) = false := by rw [beq_eq_false_iff_ne]; exact inz
  have inN : ¬ plain.length = 0 := by omega
  have hkI : (k : Int) < (plain.length : Int) := by omega
  have hiI : (i : Int) < (plain.length : Int) := by omega
  obtain ⟨C, hC⟩ : ∃ C, codesK s m a st plain plain.length = C := ⟨_, rfl⟩
  have HC := Lib.hid hC
  have HCl : Hid (C.length = plain.length) := Lib.hid (by rw [← hC, codesK_len])
  have hCk : 0 ≤ C.getD k 0 ∧ C.getD k 0 < s := by
    rw [← hC, codesK_getD _ _ _ _ _ _ _ hkl]
    exact codeN_b (by omega)
  obtain ⟨c0, hc0⟩ : ∃ c : Nat, C.getD k 0 = (c : Int) := ⟨(C.getD k 0).toNat, by omega⟩
  rw [hc0] at hCk
  have Hc0 := Lib.hid hc0
  have hc0s : (c0 : Int) < s := hCk.2
  have HG : Hid (∀ gl, TrueG plain plain.length gl → GuessOk s wo ks ds C plain gl k i) := Lib.hid fun gl hgl => by
    rw [← hC]; exact guess_fin h4 h5 h7 hgl Hko.out hkl hil
  obtain ⟨pI, hpI⟩ : ∃ p, plain.getD i 0 = p := ⟨_, rfl⟩
  have HpI := Lib.hid hpI
  clear hK hkx hix hC hc0 hCk hpI hu hkey hka
  have H1 := Lib.hid h1
  have H2 := Lib.hid h2
  have H3 := Lib.hid h3
  have H4 := Lib.hid h4
  have f5 : ¬ (10 : Int) < (plain.length : Int) := by omega
  have f6 : ((plain.length : Int) == 0) = false := by rw [beq_eq_false_iff_ne]; omega
  have H7 := Lib.hid h7
  have f8 : ¬ (ss.length : Int) < 3 := by omega
  clear h1 h2 h3 h4 h6 h7
  go_enter Try.func3, Try.ntmps3
  go_wp2_with fail
  go_at_call 4
  refine (f2Thin_eq true ac ss cc _ H1 (hx.below (by (repeat (first | exact Below.refl _ _ | refine Below.alloc ?_ (by first | omega | (simp; done) | (simp; omega)) _ | refine Below.drew ?_ | refine Below.setCell ?_ (by first | omega | (simp; done) | (simp; omega)) _ | refine Below.trans ?_ (Below.mono (by assumption) (by first | omega | (simp; done) | (simp; omega))))))) hsl).mono ?_
  rintro e w1 ⟨rfl, b1⟩
  have t1 : Below w.heap.size w w1 := by (repeat (first | exact Below.refl _ _ | refine Below.alloc ?_ (by first | omega | (simp; done) | (simp; omega)) _ | refine Below.drew ?_ | refine Below.setCell ?_ (by first | omega | (simp; done) | (simp; omega)) _ | refine Below.trans ?_ (Below.mono (by assumption) (by first | omega | (simp; done) | (simp; omega)))))
  replace hw := hw.below t1
  replace ck0 := below_cell t1 ck0
  replace ck1 := below_cell t1 ck1
  replace ck2 := below_cell t1 ck2
  replace lbk := Nat.lt_of_lt_of_le lbk t1.size
  replace hx := hx.below t1
  replace hk := hk.below t1
  replace hd := hd.below t1
  replace hp := hp.below t1
  have CB := ((Cells.new w #[.slice ac ss.length cc] 24).alloc (.cells #[.int .i64 s, .int .i64 wo, .slice (some ⟨bk, offk, none⟩) ks.length ck, .slice ad ds.length cd] 28)).below b1
  have CA := (Cells.new' (w.alloc (.cells #[.slice ac ss.length cc] 24)) #[.int .i64 s, .int .i64 wo, .slice (some ⟨bk, offk, none⟩) ks.length ck, .slice ad ds.length cd] 28 (w.heap.size + 1) (by simp)).below b1
  have q0 := CB.cell 0
  have p0 := CA.cell 0
  have p1 := CA.cell 1
  have p2 := CA.cell 2
  have p3 := CA.cell 3
  simp at q0 p0 p1 p2 p3
  have lq := CB.lt
  have lp := CA.lt
  clear CB CA
  go_wp2_with fail
  go_at_call 5
  refine (f2Fault_eq 0 ac ss cc _ H2 H1 hx).mono ?_
  rintro e w2 ⟨rfl, b2⟩
  have j2 : Below w1.heap.size w1 w2 := by (repeat (first | exact Below.refl _ _ | refine Below.alloc ?_ (by first | omega | (simp; done) | (simp; omega)) _ | refine Below.drew ?_ | refine Below.setCell ?_ (by first | omega | (simp; done) | (simp; omega)) _ | refine Below.trans ?_ (Below.mono (by assumption) (by first | omega | (simp; done) | (simp; omega)))))
  have t2 : Below w.heap.size w w2 := t1.trans (j2.mono t1.size)
  replace hw := hw.below j2
  replace ck0 := below_cell j2 ck0
  replace ck1 := below_cell j2 ck1
  replace ck2 := below_cell j2 ck2
  replace lbk := Nat.lt_of_lt_of_le lbk j2.size
  replace hx := hx.below j2
  replace hk := hk.below j2
  replace hd := hd.below j2
  replace hp := hp.below j2
  replace q0 := below_cell j2 q0
  replace p0 := below_cell j2 p0
  replace p1 := below_cell j2 p1
  replace p2 := below_cell j2 p2
  replace p3 := below_cell j2 p3
  replace lq := Nat.lt_of_lt_of_le lq j2.size
  replace lp := Nat.lt_of_lt_of_le lp j2.size
  go_wp2_with fail
  go_at_call 6
  refine (thin_eq s wo (some ⟨bk, offk, none⟩) ks.length ck ad ds.length cd true H3 _).mono ?_
  rintro e w3 ⟨rfl, b3⟩
  have j3 : Below w2.heap.size w2 w3 := by (repeat (first | exact Below.refl _ _ | refine Below.alloc ?_ (by first | omega | (simp; done) | (simp; omega)) _ | refine Below.drew ?_ | refine Below.setCell ?_ (by first | omega | (simp; done) | (simp; omega)) _ | refine Below.trans ?_ (Below.mono (by assumption) (by first | omega | (simp; done) | (simp; omega)))))
  have t3 : Below w.heap.size w w3 := t2.trans (j3.mono t2.size)
  replace hw := hw.below j3
  replace ck0 := below_cell j3 ck0
  replace ck1 := below_cell j3 ck1
  replace ck2 := below_cell j3 ck2
  replace lbk := Nat.lt_of_lt_of_le lbk j3.size
  replace hx := hx.below j3
  replace hk := hk.below j3
  replace hd := hd.below j3
  replace hp := hp.below j3
  replace q0 := below_cell j3 q0
  replace p0 := below_cell j3 p0
  replace p1 := below_cell j3 p1
  replace p2 := below_cell j3 p2
  replace p3 := below_cell j3 p3
  replace lq := Nat.lt_of_lt_of_le lq j3.size
  replace lp := Nat.lt_of_lt_of_le lp j3.size
  go_wp2_with fail
  go_at_call 7
  refine (rf_eq s wo (some ⟨bk, offk, none⟩) ks ck ad ds cd 0 _ H4 H3 hk hd).mono ?_
  rintro e w4 ⟨rfl, b4⟩
  have j4 : Below w3.heap.size w3 w4 := by (repeat (first | exact Below.refl _ _ | refine Below.alloc ?_ (by first | omega | (simp; done) | (simp; omega)) _ | refine Below.drew ?_ | refine Below.setCell ?_ (by first | omega | (simp; done) | (simp; omega)) _ | refine Below.trans ?_ (Below.mono (by assumption) (by first | omega | (simp; done) | (simp; omega)))))
  have t4 : Below w.heap.size w w4 := t3.trans (j4.mono t3.size)
  replace hw := hw.below j4
  replace ck0 := below_cell j4 ck0
  replace ck1 := below_cell j4 ck1
  replace ck2 := below_cell j4 ck2
  replace lbk := Nat.lt_of_lt_of_le lbk j4.size
  replace hx := hx.below j4
  replace hk := hk.below j4
  replace hd := hd.below j4
  replace hp := hp.below j4
  replace q0 := below_cell j4 q0
  replace p0 := below_cell j4 p0
  replace p1 := below_cell j4 p1
  replace p2 := below_cell j4 p2
  replace p3 := below_cell j4 p3
  replace lq := Nat.lt_of_lt_of_le lq j4.size
  replace lp := Nat.lt_of_lt_of_le lp j4.size
  go_wp2_with fail
  go_at_call 8
  refine (pl_eq s wo (some ⟨bk, offk, none⟩) ks ck ad ds cd ap plain cp true H7 H4 _ hp h5).mono ?_
  rintro e w5 ⟨rfl, b5⟩
  have j5 : Below w4.heap.size w4 w5 := by (repeat (first | exact Below.refl _ _ | refine Below.alloc ?_ (by first | omega | (simp; done) | (simp; omega)) _ | refine Below.drew ?_ | refine Below.setCell ?_ (by first | omega | (simp; done) | (simp; omega)) _ | refine Below.trans ?_ (Below.mono (by assumption) (by first | omega | (simp; done) | (simp; omega)))))
  have t5 : Below w.heap.size w w5 := t4.trans (j5.mono t4.size)
  replace hw := hw.below j5
  replace ck0 := below_cell j5 ck0
  replace ck1 := below_cell j5 ck1
  replace ck2 := below_cell j5 ck2
  replace lbk := Nat.lt_of_lt_of_le lbk j5.size
  replace hx := hx.below j5
  replace hk := hk.below j5
  replace hd := hd.below j5
  replace hp := hp.below j5
  replace q0 := below_cell j5 q0
  replace p0 := below_cell j5 p0
  replace p1 := below_cell j5 p1
  replace p2 := below_cell j5 p2
  replace p3 := below_cell j5 p3
  replace lq := Nat.lt_of_lt_of_le lq j5.size
  replace lp := Nat.lt_of_lt_of_le lp j5.size
  go_upto_region 3 with fail
  (refine wp_region_seq 13 [] [] 183 [true, true, true, true, true, true, true, false, false, false, false, false, false] [TupG C plain, TupG C plain, SlC C plain, SlG plain, SlC C plain, SlG plain] (by kernel_rfl) (by kernel_rfl) rfl (mono_cons (fun v w w' h hb => h.kept hb) (mono_cons (fun v w w' h hb => h.kept hb) (mono_cons (fun v w w' h hb => h.kept hb) (mono_cons (fun v w w' h hb => h.kept hb) (mono_cons (fun v w w' h hb => h.kept hb) (mono_cons (fun v w w' h hb => h.kept hb) mono_nil)))))) ?_; simp only [pickOps, List.filterMap_cons, List.filterMap_nil, List.getElem?_toArray, List.getElem?_cons_succ, List.getElem?_cons_zero]; (repeat (refine wpFl_step _ rfl (fun w => (by go_simp; rfl)) ?_)); refine wpFl_nil ?_; simp only [maskOps, dummy, Act.put, List.setIfInBounds_toArray, List.set_cons_zero, List.set_cons_succ, List.take_succ_cons, List.take_zero, List.drop_succ_cons, List.drop_zero]; (repeat (refine wpQB_step (fun K hK => ?_); go_simp; first | (refine hK _ ?_; clear hK K) | (apply Exists.intro; refine ⟨fun ex => ?_, hK _ ?_⟩; (fail); clear hK K))); refine wpQB_nil ?_; simp only [relObl2_t, relObl2_f, relObl2_n, under_c, under_n, relEnd_t, relEnd_f, relEnd_n, and_true, List.nil_append, List.cons_append])
  refine ⟨⟨?_, ?_, ?_, ?_, ?_, ?_⟩, ?_⟩
  · intro e
    refine ⟨?_⟩
    go_simp
    refine (guessed_any s wo (some ⟨bk, offk, none⟩) ks ck ad ds cd m a st ap plain cp bits _ (hk.below e.below) (hd.below e.below) lk ld (hp.below e.below) h5 Hpa s0 s1 (by omega) (by omega) a0 (by omega) st0 (by omega) B0 B1).mono ?_
    rw [HC.out]
    rintro _ _ ⟨⟨a1, c1, a2, c2, gl, rfl, i1, n1, i2, g⟩, b⟩
    exact ⟨b, a1, c1, a2, c2, gl, rfl, i1, n1, i2, g⟩
  · intro e v1 h1
    refine ⟨?_⟩
    go_simp
    exact ⟨Below.refl _ _, h1 (by kernel_rfl)⟩
  · intro e v1 _ v2 h2
    obtain ⟨a1, c1, a2, c2, gl, rfl, i1, n1, i2, g⟩ := h2 (by kernel_rfl)
    refine ⟨?_⟩
    go_simp
    exact ⟨Below.refl _ _, a1, c1, rfl, i1, n1⟩
  · intro e v1 _ v2 h2 v3 _
    obtain ⟨a1, c1, a2, c2, gl, rfl, i1, n1, i2, g⟩ := h2 (by kernel_rfl)
    refine ⟨?_⟩
    go_simp
    exact ⟨Below.refl _ _, a2, c2, gl, rfl, i2, g⟩
  · intro e v1 _ v2 _ v3 h3 v4 _
    refine ⟨?_⟩
    go_simp
    exact ⟨Below.refl _ _, h3 (by kernel_rfl)⟩
  · intro e v1 _ v2 _ v3 _ v4 h4 v5 _
    refine ⟨?_⟩
    go_simp
    exact ⟨Below.refl _ _, h4 (by kernel_rfl)⟩
  intro ex
  rintro v1 - v2 - v3 - v4 - v5 hv5 v6 hv6
  refine ⟨?_⟩
  simp only [Act.put, List.setIfInBounds_toArray, List.set_cons_zero, List.set_cons_succ]
  obtain ⟨aC, cC, rfl, iC, nC⟩ := hv5
  obtain ⟨aG, cG, gl, rfl, iG, hgl⟩ := hv6
  have hbx := ex.below
  obtain ⟨x2, hx2⟩ : ∃ x : World, x = ex.to := ⟨_, rfl⟩
  rw [← hx2] at hbx iC iG ⊢
  clear hx2 ex
  clear ck0 ck1 ck2 lbk
  have b6 := hbx
  obtain ⟨w6, hwq⟩ : ∃ x : World, x = x2 := ⟨_, rfl⟩
  subst hwq
  have j6 : Below w5.heap.size w5 w6 := by (repeat (first | exact Below.refl _ _ | refine Below.alloc ?_ (by first | omega | (simp; done) | (simp; omega)) _ | refine Below.drew ?_ | refine Below.setCell ?_ (by first | omega | (simp; done) | (simp; omega)) _ | refine Below.trans ?_ (Below.mono (by assumption) (by first | omega | (simp; done) | (simp; omega)))))
  have t6 : Below w.heap.size w w6 := t5.trans (j6.mono t5.size)
  replace hw := hw.below j6
  replace hx := hx.below j6
  replace hk := hk.below j6
  replace hd := hd.below j6
  replace hp := hp.below j6
  replace q0 := below_cell j6 q0
  replace p0 := below_cell j6 p0
  replace p1 := below_cell j6 p1
  replace p2 := below_cell j6 p2
  replace p3 := below_cell j6 p3
  replace lq := Nat.lt_of_lt_of_le lq j6.size
  replace lp := Nat.lt_of_lt_of_le lp j6.size
  go_upto_region 4 with fail
  (refine wp_region_ext 12 (by kernel_rfl) (by kernel_rfl) ?_; simp only [List.take_succ_cons, List.take_zero, List.drop_succ_cons, List.drop_zero]; (repeat (go_big_quiet_step ((fail)))); refine wpQuiet_nil ?_; rintro _ ⟨ex, rfl⟩; have hex := ex.below; have hexz := ex.size; (try simp at hexz); (try (have hy0 : w.heap.size < ex.to.heap.size := by omega)); (try (have hy1 : w.heap.size + 1 < ex.to.heap.size := by omega)); (try (have hy2 : w.heap.size + 2 < ex.to.heap.size := by omega)))
  have b7 := ex.below
  obtain ⟨w7, hwq⟩ : ∃ x : World, x = ex.to := ⟨_, rfl⟩
  rw [← hwq] at b7 ⊢
  clear hwq
  have j7 : Below w6.heap.size w6 w7 := by (repeat (first | exact Below.refl _ _ | refine Below.alloc ?_ (by first | omega | (simp; done) | (simp; omega)) _ | refine Below.drew ?_ | refine Below.setCell ?_ (by first | omega | (simp; done) | (simp; omega)) _ | refine Below.trans ?_ (Below.mono (by assumption) (by first | omega | (simp; done) | (simp; omega)))))
  have t7 : Below w.heap.size w w7 := t6.trans (j7.mono t6.size)
  replace hw := hw.below j7
  replace hx := hx.below j7
  replace hk := hk.below j7
  replace hd := hd.below j7
  replace hp := hp.below j7
  replace q0 := below_cell j7 q0
  replace p0 := below_cell j7 p0
  replace p1 := below_cell j7 p1
  replace p2 := below_cell j7 p2
  replace p3 := below_cell j7 p3
  replace lq := Nat.lt_of_lt_of_le lq j7.size
  replace lp := Nat.lt_of_lt_of_le lp j7.size
  replace iC := iC.below j7
  replace iG := iG.below j7
  obtain ⟨bC, oC, haC, _, ccI⟩ := iC k (by rw [HCl.out]; exact hkl)
  subst haC
  rw [Hc0.out] at ccI
  have ccl : bC < w7.heap.size := (iC k (by rw [HCl.out]; exact hkl)).elim fun b h => h.elim fun o h => by have e := h.1; simp only [Option.some.injEq, Addr.mk.injEq, and_true] at e; rw [e.1]; exact h.2.1
  have hki2 : (0 : Int) ≤ (k : Int) := by omega
  have cand := fun (W : World) (b : Below w7.heap.size w7 W) => cand_any ac ss cc s wo (.slice (some ⟨bk, offk, none⟩) ks.length ck) (.slice ad ds.length cd) c0 aw ws cw K W (hx.below b) HCk.out h8 s0 s1 hc0s (hw.below b) HU.out mw hK2
  go_upto_region 5 with fail
  (refine wp_region_seq 16 [] [] 183 [true, true, true, true, true, true, true, true, true, true, false, false, false, false, false, false] [TupC s c0, TupC s c0, SlCd s c0, BoolT, SlCd s c0, BoolT] (by kernel_rfl) (by kernel_rfl) rfl (mono_cons (fun v w w' h hb => h.kept hb) (mono_cons (fun v w w' h hb => h.kept hb) (mono_cons (fun v w w' h hb => h.kept hb) (mono_cons (fun v w w' h hb => h.kept hb) (mono_cons (fun v w w' h hb => h.kept hb) (mono_cons (fun v w w' h hb => h.kept hb) mono_nil)))))) ?_; simp only [pickOps, List.filterMap_cons, List.filterMap_nil, List.getElem?_toArray, List.getElem?_cons_succ, List.getElem?_cons_zero]; (repeat (refine wpFl_step _ rfl (fun w => (by go_simp; rfl)) ?_)); refine wpFl_nil ?_; simp only [maskOps, dummy, Act.put, List.setIfInBounds_toArray, List.set_cons_zero, List.set_cons_succ, List.take_succ_cons, List.take_zero, List.drop_succ_cons, List.drop_zero]; (repeat (refine wpQB_step (fun K hK => ?_); go_simp; first | (refine hK _ ?_; clear hK K) | (apply Exists.intro; refine ⟨fun ex => ?_, hK _ ?_⟩; (fail); clear hK K))); refine wpQB_nil ?_; simp only [relObl2_t, relObl2_f, relObl2_n, under_c, under_n, relEnd_t, relEnd_f, relEnd_n, and_true, List.nil_append, List.cons_append])
  refine ⟨⟨?_, ?_, ?_, ?_, ?_, ?_⟩, ?_⟩
  · intro e
    refine ⟨?_⟩
    go_simp
    refine (cand _ e.below).mono ?_
    rintro _ _ ⟨⟨ao, co, l, rfl, h1, h2⟩, b⟩
    exact ⟨b, ao, co, l, rfl, h1, h2⟩
  · intro e v1 h1
    refine ⟨?_⟩
    go_simp
    exact ⟨Below.refl _ _, h1 (by kernel_rfl)⟩
  · intro e v1 _ v2 h2
    obtain ⟨ao, co, l, rfl, h1, h2⟩ := h2 (by kernel_rfl)
    refine ⟨?_⟩
    go_simp
    exact ⟨Below.refl _ _, ao, co, l, rfl, h1, h2⟩
  · intro e v1 _ v2 h2 v3 _
    obtain ⟨ao, co, l, rfl, h1, h2⟩ := h2 (by kernel_rfl)
    refine ⟨?_⟩
    go_simp
    exact ⟨Below.refl _ _, rfl⟩
  · intro e v1 _ v2 _ v3 h3 v4 _
    refine ⟨?_⟩
    go_simp
    exact ⟨Below.refl _ _, h3 (by kernel_rfl)⟩
  · intro e v1 _ v2 _ v3 _ v4 h4 v5 _
    refine ⟨?_⟩
    go_simp
    exact ⟨Below.refl _ _, h4 (by kernel_rfl)⟩
  intro ex
  rintro v1 - v2 - v3 - v4 - v5 hv5 v6 hv6
  refine ⟨?_⟩
  simp only [Act.put, List.setIfInBounds_toArray, List.set_cons_zero, List.set_cons_succ]
  obtain ⟨aL, cL, l, rfl, iL, hcand⟩ := hv5
  obtain rfl : v6 = .bool true := hv6
  have hbx := ex.below
  obtain ⟨x3, hx3⟩ : ∃ x : World, x = ex.to := ⟨_, rfl⟩
  rw [← hx3] at hbx iL ⊢
  clear hx3 ex cand ccI ccl
  have b8 := hbx
  obtain ⟨w8, hwq⟩ : ∃ x : World, x = x3 := ⟨_, rfl⟩
  subst hwq
  have j8 : Below w7.heap.size w7 w8 := by (repeat (first | exact Below.refl _ _ | refine Below.alloc ?_ (by first | omega | (simp; done) | (simp; omega)) _ | refine Below.drew ?_ | refine Below.setCell ?_ (by first | omega | (simp; done) | (simp; omega)) _ | refine Below.trans ?_ (Below.mono (by assumption) (by first | omega | (simp; done) | (simp; omega)))))
  have t8 : Below w.heap.size w w8 := t7.trans (j8.mono t7.size)
  replace hw := hw.below j8
  replace hx := hx.below j8
  replace hk := hk.below j8
  replace hd := hd.below j8
  replace hp := hp.below j8
  replace q0 := below_cell j8 q0
  replace p0 := below_cell j8 p0
  replace p1 := below_cell j8 p1
  replace p2 := below_cell j8 p2
  replace p3 := below_cell j8 p3
  replace lq := Nat.lt_of_lt_of_le lq j8.size
  replace lp := Nat.lt_of_lt_of_le lp j8.size
  replace iC := iC.below j8
  replace iG := iG.below j8
  obtain ⟨hlr, hlm, hll⟩ := hcand
  have HLR := Lib.hid hlr
  have HLM := Lib.hid hlm
  have HGl := Lib.hid (HG.out gl hgl)
  have g6 := hgl.1
  have HCp : Hid (C.all (plainOk s) = true) := Lib.hid (by rw [← HC.out]; exact codesK_plain (by omega) _ _ _ _ _)
  clear hlr hlm hgl
  go_upto_region 10 with fail
  go_loopw [23, 24, 25, 26, 27, 28] (fun f n _ _ _ _ X => ∃ (j : Nat) (fd : Bool), j ≤ l.length ∧ n = .int .i64 (j : Int) ∧ f = .bool fd ∧ Hid ((∃ t, ∃ h : t < l.length, t < j ∧ l[t] = (c0 : Int)) → fd = true) ∧ Below w8.heap.size w8 X) (fun _ n _ _ _ _ _ => l.length - (intOf n).toNat)
  case atStart => exact ⟨0, false, Nat.zero_le _, rfl, rfl, Lib.hid (fun ⟨_, _, h, _⟩ => absurd h (by omega)), Below.refl _ _⟩
  case round =>
    obtain ⟨j, fd, hj, rfl, rfl, Hfd, hX⟩ := hrel
    rename World => X
    by_cases hlt : j < l.length
    · have hjI : (j : Int) < (l.length : Int) := by omega
      have hj0 : (0 : Int) ≤ (j : Int) := by omega
      have Hlt := Lib.hid hlt
      obtain ⟨bL, oL, haL, lbL0, cl0⟩ := iL j hlt
      subst haL
      have hvr := HLR.out l[j] (List.getElem_mem hlt)
      have hgd : l.getD j 0 = l[j] := by rw [List.getD_eq_getElem?_getD, List.getElem?_eq_getElem hlt]; rfl
      rw [hgd] at cl0
      have hstep : (∃ t, ∃ h : t < l.length, t < j + 1 ∧ l[t] = (c0 : Int)) → (∃ t, ∃ h : t < l.length, t < j ∧ l[t] = (c0 : Int)) ∨ l[j] = (c0 : Int) := fun ⟨t, h, h1, h2⟩ => by
        rcases Nat.lt_or_ge t j with h3 | h3
        · exact .inl ⟨t, h, h3, h2⟩
        · have e : t = j := by omega
          subst e; exact .inr h2
      obtain ⟨v, hv⟩ : ∃ v, l[j] = v := ⟨_, rfl⟩
      rw [hv] at hvr cl0 hstep
      have Hstep := Lib.hid hstep
      have HGv := HGl.out v hvr.1 hvr.2
      obtain ⟨L, hL⟩ : ∃ L, possL s wo ks ds (C.set k v) gl i = L := ⟨_, rfl⟩
      obtain ⟨E, hE⟩ : ∃ E, possErr s wo ks ds (C.set k v) gl i = E := ⟨_, rfl⟩
      rw [hL, hE] at HGv
      obtain ⟨hL1, hE1, hve⟩ := HGv
      have HL := Lib.hid hL
      have HE := Lib.hid hE
      have hve2 : v = (c0 : Int) → E = 0 ∧ pI ∈ L := fun e => by have := hve (by rw [Hc0.out]; exact e); rwa [HpI.out] at this
      have Hve := Lib.hid hve2
      clear hL hE hve hve2 hstep hv hgd hlt
      have b9 := hX
      obtain ⟨w9, hwq⟩ : ∃ x : World, x = X := ⟨_, rfl⟩
      subst hwq
      have j9 : Below w8.heap.size w8 w9 := by (repeat (first | exact Below.refl _ _ | refine Below.alloc ?_ (by first | omega | (simp; done) | (simp; omega)) _ | refine Below.drew ?_ | refine Below.setCell ?_ (by first | omega | (simp; done) | (simp; omega)) _ | refine Below.trans ?_ (Below.mono (by assumption) (by first | omega | (simp; done) | (simp; omega)))))
      have t9 : Below w.heap.size w w9 := t8.trans (j9.mono t8.size)
      replace hw := hw.below j9
      replace hx := hx.below j9
      replace hk := hk.below j9
      replace hd := hd.below j9
      replace hp := hp.below j9
      replace q0 := below_cell j9 q0
      replace p0 := below_cell j9 p0
      replace p1 := below_cell j9 p1
      replace p2 := below_cell j9 p2
      replace p3 := below_cell j9 p3
      replace lq := Nat.lt_of_lt_of_le lq j9.size
      replace lp := Nat.lt_of_lt_of_le lp j9.size
      replace iC := iC.below j9
      replace iG := iG.below j9
      replace iL := iL.below j9
      replace cl0 := below_cell j9 cl0
      replace lbL0 := Nat.lt_of_lt_of_le lbL0 j9.size
      have r9 : Below w8.heap.size w8 w9 := j9
      go_upto_region 12 with fail
      have hw1 : ∀ u ∈ C.map (Value.int .i64), u.oneCell' = true := fun u hu => by
        obtain ⟨z, _, rfl⟩ := List.mem_map.1 hu; rfl
      have hxn : (C.map (Value.int .i64)).length = plain.length * 1 := by rw [List.length_map, HCl.out, Nat.mul_one]
      have ha : Below w9.heap.size w9 (w9.alloc (.cells #[] 3)) := (Below.refl _ _).alloc (Nat.le_refl _) _
      go_wp2_with (at_builtin; refine wpList_app elIntF rfl _ _ rfl w9.heap.size _ 0 0 [] rfl (OwnL.lit #[] (Nat.le_refl _) (by decide) rfl) (some ⟨bC, oC, none⟩) plain.length cC (C.map (Value.int .i64)) rfl (fun e => by cases e) hxn (SrcAt.ints (iC.below ha)) hw1 (by unfold maxLen; omega) (by omega) ha.size ?_)
      intro aX cX y1 hy1 hy2
      have hyb := ha.trans hy2
      obtain ⟨g, haX⟩ : ∃ g, aX = some ⟨g, 0, none⟩ := by
        rcases hy1.form with ⟨_, _, h, _⟩ | ⟨g, h, _⟩
        · exact absurd h (by omega)
        · exact ⟨g, h⟩
      subst haX
      have hge := (OwnL.block_ge hy1 rfl).1
      obtain ⟨fz, cz⟩ := own_cell hy1 k (by rw [HCl.out]; exact hkl)
      obtain ⟨cz0, hcz0⟩ : ∃ z, C[k]'(by rw [HCl.out]; exact hkl) = z := ⟨_, rfl⟩
      rw [hcz0] at cz
      have hos := own_setCell hy1 k (.int .i64 v)
      rw [← List.map_set] at hos
      have hys : Below w9.heap.size w9 (y1.setCell ⟨g, k, none⟩ (.int .i64 v)) := hyb.setCell (p := ⟨g, k, none⟩) hge _
      clear hy1 hy2 ha hw1 hxn hcz0
      have hbo : Below w9.heap.size w9 (y1.setCell ⟨g, k, none⟩ (.int .i64 v)) := hys
      obtain ⟨Y, hY⟩ : ∃ Y : World, Y = y1.setCell ⟨g, k, none⟩ (.int .i64 v) := ⟨_, rfl⟩
      have cl1 := below_cell hyb cl0
      have lbL1 := Nat.lt_of_lt_of_le lbL0 hyb.size
      go_upto_region 14 with fail
      rw [← hY] at hbo hos ⊢
      have iX : IntsAt Y (some ⟨g, 0, none⟩) (C.set k v) := (OwnL.ints hos).1
      have hXn : (C.set k v).length = plain.length := by rw [List.length_set, HCl.out]
      have hX10 : plain.length ≤ 10 := by omega
      have HXn := Lib.hid hXn
      clear hY hos hys hyb cz fz cl1 lbL1 hge hXn
      have b10 := hbo
      obtain ⟨w10, hwq⟩ : ∃ x : World, x = Y := ⟨_, rfl⟩
      subst hwq
      have j10 : Below w9.heap.size w9 w10 := by (repeat (first | exact Below.refl _ _ | refine Below.alloc ?_ (by first | omega | (simp; done) | (simp; omega)) _ | refine Below.drew ?_ | refine Below.setCell ?_ (by first | omega | (simp; done) | (simp; omega)) _ | refine Below.trans ?_ (Below.mono (by assumption) (by first | omega | (simp; done) | (simp; omega)))))
      have t10 : Below w.heap.size w w10 := t9.trans (j10.mono t9.size)
      have r10 : Below w8.heap.size w8 w10 := r9.trans (j10.mono r9.size)
      replace hw := hw.below j10
      replace hx := hx.below j10
      replace hk := hk.below j10
      replace hd := hd.below j10
      replace hp := hp.below j10
      replace q0 := below_cell j10 q0
      replace p0 := below_cell j10 p0
      replace p1 := below_cell j10 p1
      replace p2 := below_cell j10 p2
      replace p3 := below_cell j10 p3
      replace lq := Nat.lt_of_lt_of_le lq j10.size
      replace lp := Nat.lt_of_lt_of_le lp j10.size
      replace iC := iC.below j10
      replace iG := iG.below j10
      replace iL := iL.below j10
      replace cl0 := below_cell j10 cl0
      replace lbL0 := Nat.lt_of_lt_of_le lbL0 j10.size
      go_wp2_with fail
      go_at_call 13
      refine (bookConv_at s wo (some ⟨bk, offk, none⟩) ks ck ad ds cd _ hk hd lk ld nd).mono ?_
      rintro e w11 ⟨⟨akA, ckA, adA, cdA, rfl, kA, dA⟩, b11⟩
      have j11 : Below w10.heap.size w10 w11 := by (repeat (first | exact Below.refl _ _ | refine Below.alloc ?_ (by first | omega | (simp; done) | (simp; omega)) _ | refine Below.drew ?_ | refine Below.setCell ?_ (by first | omega | (simp; done) | (simp; omega)) _ | refine Below.trans ?_ (Below.mono (by assumption) (by first | omega | (simp; done) | (simp; omega)))))
      have t11 : Below w.heap.size w w11 := t10.trans (j11.mono t10.size)
      have r11 : Below w8.heap.size w8 w11 := r10.trans (j11.mono r10.size)
      replace hw := hw.below j11
      replace hx := hx.below j11
      replace hk := hk.below j11
      replace hd := hd.below j11
      replace hp := hp.below j11
      replace q0 := below_cell j11 q0
      replace p0 := below_cell j11 p0
      replace p1 := below_cell j11 p1
      replace p2 := below_cell j11 p2
      replace p3 := below_cell j11 p3
      replace lq := Nat.lt_of_lt_of_le lq j11.size
      replace lp := Nat.lt_of_lt_of_le lp j11.size
      replace iC := iC.below j11
      replace iG := iG.below j11
      replace iL := iL.below j11
      replace cl0 := below_cell j11 cl0
      replace lbL0 := Nat.lt_of_lt_of_le lbL0 j11.size
      replace iX := iX.below j11
      go_wp2_with fail
      go_at_call 14
      refine (guessesConv_at aG gl cG _ iG (by omega)).mono ?_
      rintro e w12 ⟨⟨aH, cH, rfl, iH, _⟩, b12⟩
      have j12 : Below w11.heap.size w11 w12 := by (repeat (first | exact Below.refl _ _ | refine Below.alloc ?_ (by first | omega | (simp; done) | (simp; omega)) _ | refine Below.drew ?_ | refine Below.setCell ?_ (by first | omega | (simp; done) | (simp; omega)) _ | refine Below.trans ?_ (Below.mono (by assumption) (by first | omega | (simp; done) | (simp; omega)))))
      have t12 : Below w.heap.size w w12 := t11.trans (j12.mono t11.size)
      have r12 : Below w8.heap.size w8 w12 := r11.trans (j12.mono r11.size)
      replace hw := hw.below j12
      replace hx := hx.below j12
      replace hk := hk.below j12
      replace hd := hd.below j12
      replace hp := hp.below j12
      replace q0 := below_cell j12 q0
      replace p0 := below_cell j12 p0
      replace p1 := below_cell j12 p1
      replace p2 := below_cell j12 p2
      replace p3 := below_cell j12 p3
      replace lq := Nat.lt_of_lt_of_le lq j12.size
      replace lp := Nat.lt_of_lt_of_le lp j12.size
      replace iC := iC.below j12
      replace iG := iG.below j12
      replace iL := iL.below j12
      replace cl0 := below_cell j12 cl0
      replace lbL0 := Nat.lt_of_lt_of_le lbL0 j12.size
      replace iX := iX.below j12
      replace kA := kA.below j12
      replace dA := dA.below j12
      go_wp2_with fail
      go_at_call 12
      refine (poss_n s wo akA ks ckA adA ds cdA (some ⟨g, 0, none⟩) (C.set k v) cX plain.length HXn.out aH gl cH i L E HL HE _ kA dA lk ld iX (by omega) iH (by omega)).mono ?_
      rintro e w13 ⟨⟨aL2, cL2, rfl, iL2⟩, b13⟩
      have j13 : Below w12.heap.size w12 w13 := by (repeat (first | exact Below.refl _ _ | refine Below.alloc ?_ (by first | omega | (simp; done) | (simp; omega)) _ | refine Below.drew ?_ | refine Below.setCell ?_ (by first | omega | (simp; done) | (simp; omega)) _ | refine Below.trans ?_ (Below.mono (by assumption) (by first | omega | (simp; done) | (simp; omega)))))
      have t13 : Below w.heap.size w w13 := t12.trans (j13.mono t12.size)
      have r13 : Below w8.heap.size w8 w13 := r12.trans (j13.mono r12.size)
      replace hw := hw.below j13
      replace hx := hx.below j13
      replace hk := hk.below j13
      replace hd := hd.below j13
      replace hp := hp.below j13
      replace q0 := below_cell j13 q0
      replace p0 := below_cell j13 p0
      replace p1 := below_cell j13 p1
      replace p2 := below_cell j13 p2
      replace p3 := below_cell j13 p3
      replace lq := Nat.lt_of_lt_of_le lq j13.size
      replace lp := Nat.lt_of_lt_of_le lp j13.size
      replace iC := iC.below j13
      replace iG := iG.below j13
      replace iL := iL.below j13
      replace cl0 := below_cell j13 cl0
      replace lbL0 := Nat.lt_of_lt_of_le lbL0 j13.size
      replace iX := iX.below j13
      replace kA := kA.below j13
      replace dA := dA.below j13
      replace iH := iH.below j13
      clear kA dA iH iX
      obtain ⟨lbC, ccI⟩ : bC < w13.heap.size ∧ w13.cell? ⟨bC, oC + k, none⟩ = some (.int .i64 (c0 : Int)) := by
        obtain ⟨b, o, e, h, c⟩ := iC k (by rw [HCl.out]; exact hkl)
        cases e
        rw [Hc0.out] at c
        exact ⟨h, c⟩
      obtain ⟨bp, op, hap, lbp, cpi⟩ := hp i hil
      subst hap
      rw [HpI.out] at cpi
      go_upto_region 15 with fail
      by_cases hvc : v = (c0 : Int)
      · obtain ⟨hE0, hLp⟩ := Hve.out hvc
        subst hE0
        have HLp := Lib.hid hLp
        have hvb : (v == (c0 : Int)) = true := by simpa using hvc
        have Hvc := Lib.hid hvc
        clear hvc hE1 hLp
        (refine wp_region_ext 17 (by kernel_rfl) (by kernel_rfl) ?_; simp only [List.take_succ_cons, List.take_zero, List.drop_succ_cons, List.drop_zero]; (repeat (go_big_quiet_step ((fail)))); refine wpQuiet_nil ?_; rintro _ ⟨ex, rfl⟩; have hex := ex.below; have hexz := ex.size; (try simp at hexz); (try (have hy0 : w.heap.size < ex.to.heap.size := by omega)); (try (have hy1 : w.heap.size + 1 < ex.to.heap.size := by omega)); (try (have hy2 : w.heap.size + 2 < ex.to.heap.size := by omega)))
        have b14 := ex.below
        obtain ⟨w14, hwq⟩ : ∃ x : World, x = ex.to := ⟨_, rfl⟩
        rw [← hwq] at b14 ⊢
        clear hwq
        have j14 : Below w13.heap.size w13 w14 := by (repeat (first | exact Below.refl _ _ | refine Below.alloc ?_ (by first | omega | (simp; done) | (simp; omega)) _ | refine Below.drew ?_ | refine Below.setCell ?_ (by first | omega | (simp; done) | (simp; omega)) _ | refine Below.trans ?_ (Below.mono (by assumption) (by first | omega | (simp; done) | (simp; omega)))))
        have t14 : Below w.heap.size w w14 := t13.trans (j14.mono t13.size)
        have r14 : Below w8.heap.size w8 w14 := r13.trans (j14.mono r13.size)
        replace hw := hw.below j14
        replace hx := hx.below j14
        replace hk := hk.below j14
        replace hd := hd.below j14
        replace hp := hp.below j14
        replace q0 := below_cell j14 q0
        replace p0 := below_cell j14 p0
        replace p1 := below_cell j14 p1
        replace p2 := below_cell j14 p2
        replace p3 := below_cell j14 p3
        replace lq := Nat.lt_of_lt_of_le lq j14.size
        replace lp := Nat.lt_of_lt_of_le lp j14.size
        replace iC := iC.below j14
        replace iG := iG.below j14
        replace iL := iL.below j14
        replace cl0 := below_cell j14 cl0
        replace lbL0 := Nat.lt_of_lt_of_le lbL0 j14.size
        replace iL2 := iL2.below j14
        replace ccI := below_cell j14 ccI
        replace cpi := below_cell j14 cpi
        replace lbC := Nat.lt_of_lt_of_le lbC j14.size
        replace lbp := Nat.lt_of_lt_of_le lbp j14.size
        go_upto_region 18 with fail
        go_loopw [23, 28] (fun f n Z => ∃ (t : Nat) (fe : Bool), t ≤ L.length ∧ n = .int .i64 (t : Int) ∧ f = .bool fe ∧ Hid ((fd = true ∨ ∃ r, ∃ h : r < L.length, r < t ∧ L[r] = pI) → fe = true) ∧ Below w14.heap.size w14 Z) (fun _ n _ => L.length - (intOf n).toNat)
        case atStart => exact ⟨0, fd, Nat.zero_le _, rfl, rfl, Lib.hid (fun h => h.elim id fun ⟨_, _, h, _⟩ => absurd h (by omega)), Below.refl _ _⟩
        case round =>
          obtain ⟨t, fe, ht, rfl, rfl, Hfe, hZ⟩ := hrel
          rename World => Z
          by_cases htl : t < L.length
          · have htI : (t : Int) < (L.length : Int) := by omega
            have Htl := Lib.hid htl
            obtain ⟨bM, oM, haM, lbM, cM⟩ := iL2 t htl
            subst haM
            obtain ⟨z, hz⟩ : ∃ z, L[t] = z := ⟨_, rfl⟩
            have hgd2 : L.getD t 0 = L[t] := by rw [List.getD_eq_getElem?_getD, List.getElem?_eq_getElem htl]; rfl
            rw [hgd2, hz] at cM
            have Hz := Lib.hid hz
            have hzd : (z == pI) = true ∨ (z == pI) = false := by cases (z == pI) <;> simp
            clear htl hgd2 hz
            have b15 := hZ
            obtain ⟨w15, hwq⟩ : ∃ x : World, x = Z := ⟨_, rfl⟩
            subst hwq
            have j15 : Below w14.heap.size w14 w15 := by (repeat (first | exact Below.refl _ _ | refine Below.alloc ?_ (by first | omega | (simp; done) | (simp; omega)) _ | refine Below.drew ?_ | refine Below.setCell ?_ (by first | omega | (simp; done) | (simp; omega)) _ | refine Below.trans ?_ (Below.mono (by assumption) (by first | omega | (simp; done) | (simp; omega)))))
            have t15 : Below w.heap.size w w15 := t14.trans (j15.mono t14.size)
            replace hw := hw.below j15
            replace hx := hx.below j15
            replace hk := hk.below j15
            replace hd := hd.below j15
            replace hp := hp.below j15
            replace q0 := below_cell j15 q0
            replace p0 := below_cell j15 p0
            replace p1 := below_cell j15 p1
            replace p2 := below_cell j15 p2
            replace p3 := below_cell j15 p3
            replace lq := Nat.lt_of_lt_of_le lq j15.size
            replace lp := Nat.lt_of_lt_of_le lp j15.size
            replace iC := iC.below j15
            replace iG := iG.below j15
            replace iL := iL.below j15
            replace cl0 := below_cell j15 cl0
            replace lbL0 := Nat.lt_of_lt_of_le lbL0 j15.size
            replace iL2 := iL2.below j15
            replace ccI := below_cell j15 ccI
            replace cpi := below_cell j15 cpi
            replace lbC := Nat.lt_of_lt_of_le lbC j15.size
            replace lbp := Nat.lt_of_lt_of_le lbp j15.size
            replace cM := below_cell j15 cM
            replace lbM := Nat.lt_of_lt_of_le lbM j15.size
            have r15 : Below w14.heap.size w14 w15 := j15
            go_upto_region 18 with fail
            (refine wp_region_ext 15 (by kernel_rfl) (by kernel_rfl) ?_; simp only [List.take_succ_cons, List.take_zero, List.drop_succ_cons, List.drop_zero]; (repeat (go_big_quiet_step ((fail)))); refine wpQuiet_nil ?_; rintro _ ⟨ex, rfl⟩; have hex := ex.below; have hexz := ex.size; (try simp at hexz); (try (have hy0 : w.heap.size < ex.to.heap.size := by omega)); (try (have hy1 : w.heap.size + 1 < ex.to.heap.size := by omega)); (try (have hy2 : w.heap.size + 2 < ex.to.heap.size := by omega)))
            have b16 := ex.below
            obtain ⟨w16, hwq⟩ : ∃ x : World, x = ex.to := ⟨_, rfl⟩
            rw [← hwq] at b16 ⊢
            clear hwq
            have j16 : Below w15.heap.size w15 w16 := by (repeat (first | exact Below.refl _ _ | refine Below.alloc ?_ (by first | omega | (simp; done) | (simp; omega)) _ | refine Below.drew ?_ | refine Below.setCell ?_ (by first | omega | (simp; done) | (simp; omega)) _ | refine Below.trans ?_ (Below.mono (by assumption) (by first | omega | (simp; done) | (simp; omega)))))
            have t16 : Below w.heap.size w w16 := t15.trans (j16.mono t15.size)
            have r16 : Below w14.heap.size w14 w16 := r15.trans (j16.mono r15.size)
            replace hw := hw.below j16
            replace hx := hx.below j16
            replace hk := hk.below j16
            replace hd := hd.below j16
            replace hp := hp.below j16
            replace q0 := below_cell j16 q0
            replace p0 := below_cell j16 p0
            replace p1 := below_cell j16 p1
            replace p2 := below_cell j16 p2
            replace p3 := below_cell j16 p3
            replace lq := Nat.lt_of_lt_of_le lq j16.size
            replace lp := Nat.lt_of_lt_of_le lp j16.size
            replace iC := iC.below j16
            replace iG := iG.below j16
            replace iL := iL.below j16
            replace cl0 := below_cell j16 cl0
            replace lbL0 := Nat.lt_of_lt_of_le lbL0 j16.size
            replace iL2 := iL2.below j16
            replace ccI := below_cell j16 ccI
            replace cpi := below_cell j16 cpi
            replace lbC := Nat.lt_of_lt_of_le lbC j16.size
            replace lbp := Nat.lt_of_lt_of_le lbp j16.size
            replace cM := below_cell j16 cM
            replace lbM := Nat.lt_of_lt_of_le lbM j16.size
            go_upto_region 20 with fail
            have hstp : ∀ fe2 : Bool, ((fe = true ∨ z = pI) → fe2 = true) → Hid ((fd = true ∨ ∃ r, ∃ h : r < L.length, r < t + 1 ∧ L[r] = pI) → fe2 = true) := fun fe2 hh => Lib.hid fun h => by
              rcases h with h | ⟨r, h, h1, h2⟩
              · exact hh (.inl (Hfe.out (.inl h)))
              · rcases Nat.lt_or_ge r t with h3 | h3
                · exact hh (.inl (Hfe.out (.inr ⟨r, h, h3, h2⟩)))
                · have e : r = t := by omega
                  subst e; exact hh (.inr (by rw [← Hz.out]; exact h2))
            have Hstp := Lib.hid hstp
            clear hstp
            cases fe
            · rcases hzd with hzd | hzd
              all_goals
                (refine wp_region_ext 13 (by kernel_rfl) (by kernel_rfl) ?_; simp only [List.take_succ_cons, List.take_zero, List.drop_succ_cons, List.drop_zero]; (repeat (go_big_quiet_step ((fail)))); refine wpQuiet_nil ?_; rintro _ ⟨ex, rfl⟩; have hex := ex.below; have hexz := ex.size; (try simp at hexz); (try (have hy0 : w.heap.size < ex.to.heap.size := by omega)); (try (have hy1 : w.heap.size + 1 < ex.to.heap.size := by omega)); (try (have hy2 : w.heap.size + 2 < ex.to.heap.size := by omega)))
                have b17 := ex.below
                obtain ⟨w17, hwq⟩ : ∃ x : World, x = ex.to := ⟨_, rfl⟩
                rw [← hwq] at b17 ⊢
                clear hwq
                have j17 : Below w16.heap.size w16 w17 := by (repeat (first | exact Below.refl _ _ | refine Below.alloc ?_ (by first | omega | (simp; done) | (simp; omega)) _ | refine Below.drew ?_ | refine Below.setCell ?_ (by first | omega | (simp; done) | (simp; omega)) _ | refine Below.trans ?_ (Below.mono (by assumption) (by first | omega | (simp; done) | (simp; omega)))))
                have t17 : Below w.heap.size w w17 := t16.trans (j17.mono t16.size)
                have r17 : Below w14.heap.size w14 w17 := r16.trans (j17.mono r16.size)
                replace hw := hw.below j17
                replace hx := hx.below j17
                replace hk := hk.below j17
                replace hd := hd.below j17
                replace hp := hp.below j17
                replace q0 := below_cell j17 q0
                replace p0 := below_cell j17 p0
                replace p1 := below_cell j17 p1
                replace p2 := below_cell j17 p2
                replace p3 := below_cell j17 p3
                replace lq := Nat.lt_of_lt_of_le lq j17.size
                replace lp := Nat.lt_of_lt_of_le lp j17.size
                replace iC := iC.below j17
                replace iG := iG.below j17
                replace iL := iL.below j17
                replace cl0 := below_cell j17 cl0
                replace lbL0 := Nat.lt_of_lt_of_le lbL0 j17.size
                replace iL2 := iL2.below j17
                replace ccI := below_cell j17 ccI
                replace cpi := below_cell j17 cpi
                replace lbC := Nat.lt_of_lt_of_le lbC j17.size
                replace lbp := Nat.lt_of_lt_of_le lbp j17.size
                replace cM := below_cell j17 cM
                replace lbM := Nat.lt_of_lt_of_le lbM j17.size
                go_wp2_with fail
                go_roundw
                case rel => exact ⟨t + 1, _, by have := Htl.out; omega, by go_num, rfl, Hstp.out _ (by first | exact fun _ => rfl | exact fun h => h.elim id (fun e => absurd e (by simpa using hzd))), r17⟩
                case measure => have := Htl.out; simp [intOf]; omega
            · (refine wp_region_ext 13 (by kernel_rfl) (by kernel_rfl) ?_; simp only [List.take_succ_cons, List.take_zero, List.drop_succ_cons, List.drop_zero]; (repeat (go_big_quiet_step ((fail)))); refine wpQuiet_nil ?_; rintro _ ⟨ex, rfl⟩; have hex := ex.below; have hexz := ex.size; (try simp at hexz); (try (have hy0 : w.heap.size < ex.to.heap.size := by omega)); (try (have hy1 : w.heap.size + 1 < ex.to.heap.size := by omega)); (try (have hy2 : w.heap.size + 2 < ex.to.heap.size := by omega)))
              have bzz := ex.below
              go_wp2_with fail
              go_roundw
              case rel => exact ⟨t + 1, true, by have := Htl.out; omega, by go_num, rfl, Hstp.out _ (fun _ => rfl), r16.trans (bzz.mono r16.size)⟩
              case measure => have := Htl.out; simp [intOf]; omega
          · obtain rfl : t = L.length := by omega
            have b15 := hZ
            obtain ⟨w15, hwq⟩ : ∃ x : World, x = Z := ⟨_, rfl⟩
            subst hwq
            have j15 : Below w14.heap.size w14 w15 := by (repeat (first | exact Below.refl _ _ | refine Below.alloc ?_ (by first | omega | (simp; done) | (simp; omega)) _ | refine Below.drew ?_ | refine Below.setCell ?_ (by first | omega | (simp; done) | (simp; omega)) _ | refine Below.trans ?_ (Below.mono (by assumption) (by first | omega | (simp; done) | (simp; omega)))))
            have t15 : Below w.heap.size w w15 := t14.trans (j15.mono t14.size)
            replace hw := hw.below j15
            replace hx := hx.below j15
            replace hk := hk.below j15
            replace hd := hd.below j15
            replace hp := hp.below j15
            replace q0 := below_cell j15 q0
            replace p0 := below_cell j15 p0
            replace p1 := below_cell j15 p1
            replace p2 := below_cell j15 p2
            replace p3 := below_cell j15 p3
            replace lq := Nat.lt_of_lt_of_le lq j15.size
            replace lp := Nat.lt_of_lt_of_le lp j15.size
            replace iC := iC.below j15
            replace iG := iG.below j15
            replace iL := iL.below j15
            replace cl0 := below_cell j15 cl0
            replace lbL0 := Nat.lt_of_lt_of_le lbL0 j15.size
            replace iL2 := iL2.below j15
            replace ccI := below_cell j15 ccI
            replace cpi := below_cell j15 cpi
            replace lbC := Nat.lt_of_lt_of_le lbC j15.size
            replace lbp := Nat.lt_of_lt_of_le lbp j15.size
            have r15 : Below w14.heap.size w14 w15 := j15
            go_upto_region 18 with fail
            (refine wp_region_ext 15 (by kernel_rfl) (by kernel_rfl) ?_; simp only [List.take_succ_cons, List.take_zero, List.drop_succ_cons, List.drop_zero]; (repeat (go_big_quiet_step ((fail)))); refine wpQuiet_nil ?_; rintro _ ⟨ex, rfl⟩; have hex := ex.below; have hexz := ex.size; (try simp at hexz); (try (have hy0 : w.heap.size < ex.to.heap.size := by omega)); (try (have hy1 : w.heap.size + 1 < ex.to.heap.size := by omega)); (try (have hy2 : w.heap.size + 2 < ex.to.heap.size := by omega)))
            have b16 := ex.below
            obtain ⟨w16, hwq⟩ : ∃ x : World, x = ex.to := ⟨_, rfl⟩
            rw [← hwq] at b16 ⊢
            clear hwq
            have j16 : Below w15.heap.size w15 w16 := by (repeat (first | exact Below.refl _ _ | refine Below.alloc ?_ (by first | omega | (simp; done) | (simp; omega)) _ | refine Below.drew ?_ | refine Below.setCell ?_ (by first | omega | (simp; done) | (simp; omega)) _ | refine Below.trans ?_ (Below.mono (by assumption) (by first | omega | (simp; done) | (simp; omega)))))
            have t16 : Below w.heap.size w w16 := t15.trans (j16.mono t15.size)
            have r16 : Below w14.heap.size w14 w16 := r15.trans (j16.mono r15.size)
            replace hw := hw.below j16
            replace hx := hx.below j16
            replace hk := hk.below j16
            replace hd := hd.below j16
            replace hp := hp.below j16
            replace q0 := below_cell j16 q0
            replace p0 := below_cell j16 p0
            replace p1 := below_cell j16 p1
            replace p2 := below_cell j16 p2
            replace p3 := below_cell j16 p3
            replace lq := Nat.lt_of_lt_of_le lq j16.size
            replace lp := Nat.lt_of_lt_of_le lp j16.size
            replace iC := iC.below j16
            replace iG := iG.below j16
            replace iL := iL.below j16
            replace cl0 := below_cell j16 cl0
            replace lbL0 := Nat.lt_of_lt_of_le lbL0 j16.size
            replace iL2 := iL2.below j16
            replace ccI := below_cell j16 ccI
            replace cpi := below_cell j16 cpi
            replace lbC := Nat.lt_of_lt_of_le lbC j16.size
            replace lbp := Nat.lt_of_lt_of_le lbp j16.size
            go_wp2_with fail
            have hfeT : fe = true := by
              obtain ⟨r, h, e⟩ := List.getElem_of_mem HLp.out
              exact Hfe.out (.inr ⟨r, h, h, e⟩)
            go_roundw
            case rel => exact ⟨j + 1, fe, by have := Hlt.out; omega, by go_num, rfl, Lib.hid (fun _ => hfeT), r14.trans (r16.mono r14.size)⟩
            case measure => have := Hlt.out; simp [intOf]; omega
      · have hvb : (v == (c0 : Int)) = false := by simpa using hvc
        have Hvc := Lib.hid hvc
        have hL0 : ((0 : Int) < (L.length : Int) ∧ 0 < L.length) ∨ (¬ (0 : Int) < (L.length : Int) ∧ ¬ 0 < L.length) := by omega
        clear hvc
        rcases hE1 with rfl | rfl
        all_goals
          (refine wp_region_ext 17 (by kernel_rfl) (by kernel_rfl) ?_; simp only [List.take_succ_cons, List.take_zero, List.drop_succ_cons, List.drop_zero]; (repeat (go_big_quiet_step ((fail)))); refine wpQuiet_nil ?_; rintro _ ⟨ex, rfl⟩; have hex := ex.below; have hexz := ex.size; (try simp at hexz); (try (have hy0 : w.heap.size < ex.to.heap.size := by omega)); (try (have hy1 : w.heap.size + 1 < ex.to.heap.size := by omega)); (try (have hy2 : w.heap.size + 2 < ex.to.heap.size := by omega)))
          have b14 := ex.below
          obtain ⟨w14, hwq⟩ : ∃ x : World, x = ex.to := ⟨_, rfl⟩
          rw [← hwq] at b14 ⊢
          clear hwq
          have j14 : Below w13.heap.size w13 w14 := by (repeat (first | exact Below.refl _ _ | refine Below.alloc ?_ (by first | omega | (simp; done) | (simp; omega)) _ | refine Below.drew ?_ | refine Below.setCell ?_ (by first | omega | (simp; done) | (simp; omega)) _ | refine Below.trans ?_ (Below.mono (by assumption) (by first | omega | (simp; done) | (simp; omega)))))
          have t14 : Below w.heap.size w w14 := t13.trans (j14.mono t13.size)
          have r14 : Below w8.heap.size w8 w14 := r13.trans (j14.mono r13.size)
          replace hw := hw.below j14
          replace hx := hx.below j14
          replace hk := hk.below j14
          replace hd := hd.below j14
          replace hp := hp.below j14
          replace q0 := below_cell j14 q0
          replace p0 := below_cell j14 p0
          replace p1 := below_cell j14 p1
          replace p2 := below_cell j14 p2
          replace p3 := below_cell j14 p3
          replace lq := Nat.lt_of_lt_of_le lq j14.size
          replace lp := Nat.lt_of_lt_of_le lp j14.size
          replace iC := iC.below j14
          replace iG := iG.below j14
          replace iL := iL.below j14
          replace cl0 := below_cell j14 cl0
          replace lbL0 := Nat.lt_of_lt_of_le lbL0 j14.size
          replace iL2 := iL2.below j14
          replace ccI := below_cell j14 ccI
          replace cpi := below_cell j14 cpi
          replace lbC := Nat.lt_of_lt_of_le lbC j14.size
          replace lbp := Nat.lt_of_lt_of_le lbp j14.size
          go_upto_region 18 with fail
          go_loopw [23, 28] (fun f n Z => f = .bool fd ∧ n = .int .i64 0 ∧ Below w14.heap.size w14 Z) (fun _ n _ => 1)
          case atStart => exact ⟨rfl, rfl, Below.refl _ _⟩
          case round =>
            obtain ⟨rfl, rfl, hZ⟩ := hrel
            rename World => Z
            have b15 := hZ
            obtain ⟨w15, hwq⟩ : ∃ x : World, x = Z := ⟨_, rfl⟩
            subst hwq
            have j15 : Below w14.heap.size w14 w15 := by (repeat (first | exact Below.refl _ _ | refine Below.alloc ?_ (by first | omega | (simp; done) | (simp; omega)) _ | refine Below.drew ?_ | refine Below.setCell ?_ (by first | omega | (simp; done) | (simp; omega)) _ | refine Below.trans ?_ (Below.mono (by assumption) (by first | omega | (simp; done) | (simp; omega)))))
            have t15 : Below w.heap.size w w15 := t14.trans (j15.mono t14.size)
            replace hw := hw.below j15
            replace hx := hx.below j15
            replace hk := hk.below j15
            replace hd := hd.below j15
            replace hp := hp.below j15
            replace q0 := below_cell j15 q0
            replace p0 := below_cell j15 p0
            replace p1 := below_cell j15 p1
            replace p2 := below_cell j15 p2
            replace p3 := below_cell j15 p3
            replace lq := Nat.lt_of_lt_of_le lq j15.size
            replace lp := Nat.lt_of_lt_of_le lp j15.size
            replace iC := iC.below j15
            replace iG := iG.below j15
            replace iL := iL.below j15
            replace cl0 := below_cell j15 cl0
            replace lbL0 := Nat.lt_of_lt_of_le lbL0 j15.size
            replace iL2 := iL2.below j15
            replace ccI := below_cell j15 ccI
            replace cpi := below_cell j15 cpi
            replace lbC := Nat.lt_of_lt_of_le lbC j15.size
            replace lbp := Nat.lt_of_lt_of_le lbp j15.size
            have r15 : Below w14.heap.size w14 w15 := j15
            rcases hL0 with ⟨hL0, hL1⟩ | ⟨hL0, hL1⟩
            all_goals
              go_upto_region 18 with fail
              (refine wp_region_ext 15 (by kernel_rfl) (by kernel_rfl) ?_; simp only [List.take_succ_cons, List.take_zero, List.drop_succ_cons, List.drop_zero]; (repeat (go_big_quiet_step ((fail)))); refine wpQuiet_nil ?_; rintro _ ⟨ex, rfl⟩; have hex := ex.below; have hexz := ex.size; (try simp at hexz); (try (have hy0 : w.heap.size < ex.to.heap.size := by omega)); (try (have hy1 : w.heap.size + 1 < ex.to.heap.size := by omega)); (try (have hy2 : w.heap.size + 2 < ex.to.heap.size := by omega)))
              have b16 := ex.below
              obtain ⟨w16, hwq⟩ : ∃ x : World, x = ex.to := ⟨_, rfl⟩
              rw [← hwq] at b16 ⊢
              clear hwq
              have j16 : Below w15.heap.size w15 w16 := by (repeat (first | exact Below.refl _ _ | refine Below.alloc ?_ (by first | omega | (simp; done) | (simp; omega)) _ | refine Below.drew ?_ | refine Below.setCell ?_ (by first | omega | (simp; done) | (simp; omega)) _ | refine Below.trans ?_ (Below.mono (by assumption) (by first | omega | (simp; done) | (simp; omega)))))
              have t16 : Below w.heap.size w w16 := t15.trans (j16.mono t15.size)
              have r16 : Below w14.heap.size w14 w16 := r15.trans (j16.mono r15.size)
              replace hw := hw.below j16
              replace hx := hx.below j16
              replace hk := hk.below j16
              replace hd := hd.below j16
              replace hp := hp.below j16
              replace q0 := below_cell j16 q0
              replace p0 := below_cell j16 p0
              replace p1 := below_cell j16 p1
              replace p2 := below_cell j16 p2
              replace p3 := below_cell j16 p3
              replace lq := Nat.lt_of_lt_of_le lq j16.size
              replace lp := Nat.lt_of_lt_of_le lp j16.size
              replace iC := iC.below j16
              replace iG := iG.below j16
              replace iL := iL.below j16
              replace cl0 := below_cell j16 cl0
              replace lbL0 := Nat.lt_of_lt_of_le lbL0 j16.size
              replace iL2 := iL2.below j16
              replace ccI := below_cell j16 ccI
              replace cpi := below_cell j16 cpi
              replace lbC := Nat.lt_of_lt_of_le lbC j16.size
              replace lbp := Nat.lt_of_lt_of_le lbp j16.size
              go_wp2_with fail
              go_roundw
              case rel => exact ⟨j + 1, fd, by have := Hlt.out; omega, by go_num, rfl, Lib.hid (fun h => (Hstep.out h).elim Hfd.out (fun e => absurd e Hvc.out)), r14.trans (r16.mono r14.size)⟩
              case measure => have := Hlt.out; simp [intOf]; omega
    · obtain rfl : j = l.length := by omega
      have hfT : fd = true := by
        obtain ⟨r, h, e⟩ := List.getElem_of_mem HLM.out
        exact Hfd.out ⟨r, h, h, e⟩
      subst hfT
      have b9 := hX
      obtain ⟨w9, hwq⟩ : ∃ x : World, x = X := ⟨_, rfl⟩
      subst hwq
      have j9 : Below w8.heap.size w8 w9 := by (repeat (first | exact Below.refl _ _ | refine Below.alloc ?_ (by first | omega | (simp; done) | (simp; omega)) _ | refine Below.drew ?_ | refine Below.setCell ?_ (by first | omega | (simp; done) | (simp; omega)) _ | refine Below.trans ?_ (Below.mono (by assumption) (by first | omega | (simp; done) | (simp; omega)))))
      have t9 : Below w.heap.size w w9 := t8.trans (j9.mono t8.size)
      replace hw := hw.below j9
      replace hx := hx.below j9
      replace hk := hk.below j9
      replace hd := hd.below j9
      replace hp := hp.below j9
      replace q0 := below_cell j9 q0
      replace p0 := below_cell j9 p0
      replace p1 := below_cell j9 p1
      replace p2 := below_cell j9 p2
      replace p3 := below_cell j9 p3
      replace lq := Nat.lt_of_lt_of_le lq j9.size
      replace lp := Nat.lt_of_lt_of_le lp j9.size
      replace iC := iC.below j9
      replace iG := iG.below j9
      replace iL := iL.below j9
      go_wp2_with fail
      go_at_call 9
      refine (coded_any _).mono ?_
      rintro e w10 ⟨rfl, b10⟩
      have j10 : Below w9.heap.size w9 w10 := by (repeat (first | exact Below.refl _ _ | refine Below.alloc ?_ (by first | omega | (simp; done) | (simp; omega)) _ | refine Below.drew ?_ | refine Below.setCell ?_ (by first | omega | (simp; done) | (simp; omega)) _ | refine Below.trans ?_ (Below.mono (by assumption) (by first | omega | (simp; done) | (simp; omega)))))
      have t10 : Below w.heap.size w w10 := t9.trans (j10.mono t9.size)
      replace hw := hw.below j10
      replace hx := hx.below j10
      replace hk := hk.below j10
      replace hd := hd.below j10
      replace hp := hp.below j10
      replace q0 := below_cell j10 q0
      replace p0 := below_cell j10 p0
      replace p1 := below_cell j10 p1
      replace p2 := below_cell j10 p2
      replace p3 := below_cell j10 p3
      replace lq := Nat.lt_of_lt_of_le lq j10.size
      replace lp := Nat.lt_of_lt_of_le lp j10.size
      replace iC := iC.below j10
      replace iG := iG.below j10
      replace iL := iL.below j10
      go_wp2_with fail
      go_ret
      exact ⟨rfl, t10⟩
  done
end Go.Proofs.Ytnofcpihkglmmaa
