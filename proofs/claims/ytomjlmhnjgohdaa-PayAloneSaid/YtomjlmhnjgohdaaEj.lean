/- PayAlone: the walk -/
import Derived.Test.YtomjlmhnjgohdaaIa
import Derived.Test.YtomjlmhnjgohdaaHd
namespace Go.Proofs.Ytomjlmhnjgohdaa
set_option linter.unusedVariables false
set_option linter.unusedSimpArgs false
set_option linter.unnecessarySimpa false
open Go.RowKit Go.Flow Go.Shelf

theorem info_rdisp : (Try.prog.info? 43).map (fun i => (i.zero, i.size, i.bytes)) = some (some (.agg #[.int .i64 0, .int .i64 0, .int .i64 0, .slice none 0 0]), 4, 48) := by kernel_rfl
theorem elRDisp : Elem Try.prog 22 43 (.agg #[.int .i64 0, .int .i64 0, .int .i64 0, .slice none 0 0]) 4 48 := ⟨Try.underlying22, info_parts info_rdisp, rfl, by decide⟩
theorem src_below {w w' : World} {a : Option Addr} {xs : List Value} (h : SrcAt w a xs) (hb : Below w.heap.size w w') : SrcAt w' a xs := fun j u hu =>
  let ⟨b, off, ha, hc⟩ := h j u hu
  ⟨b, off, ha, below_cell hb hc⟩
theorem own_setCellN {E : TypeId} {size base : Nat} {w : World} {g c n : Nat} {xs : List Value} (h : OwnL E size base w (some ⟨g, 0, none⟩) c n xs) (j : Nat) (u : Value) :
    OwnL E size base (w.setCell ⟨g, j, none⟩ u) (some ⟨g, 0, none⟩) c n (xs.set j u) := (World.ownsRow.stored h j u).1
set_option maxRecDepth 100000 in
set_option maxHeartbeats 8000000 in
theorem alone_a1 (st rate keeps : Int) (ds : List Dis) (ad : Option Addr) (cd : Nat) (aw : Option Addr) (ws : List Int) (cw : Nat) (wh : Int) (w : World) (hd : DisAt w ad ds) (big : AccBig ds) (hw : U16At w aw ws) (nw : aw = none → cw = 0) (lw : ws.length ≤ cw) (mw : cw ≤ maxLen) (hu : ∀ n ∈ ws, 0 ≤ n ∧ n ≤ 65535) (hwh : 0 ≤ wh ∧ wh ≤ 255) (hT : thinB ds = false) :
    Calls Try.prog 8 #[.agg #[.int .i64 st, .int .i64 rate, .int .i64 keeps, .slice ad ds.length cd], .slice aw ws.length cw, .int .u8 wh] w fun e w' => e = .returned (.bool true) ∧ Below w.heap.size w w' := by
  have HB := Lib.hid big
  have HT := Lib.hid hT
  clear hT big hu lw mw hwh
  go_enter Try.func8, Try.ntmps8
  go_wp2_with fail
  go_at_call 38
  refine (ready_no st rate keeps ds ad cd _ HT (hd.below (by (repeat (first | exact Below.refl _ _ | refine Below.alloc ?_ (by first | omega | (simp; done) | (simp; omega)) _ | refine Below.drew ?_ | refine Below.setCell ?_ (by first | omega | (simp; done) | (simp; omega)) _ | refine Below.trans ?_ (Below.mono (by assumption) (by first | omega | (simp; done) | (simp; omega))))))) HB).mono ?_
  rintro e w1 ⟨rfl, b1⟩
  have t1 : Below w.heap.size w w1 := by (repeat (first | exact Below.refl _ _ | refine Below.alloc ?_ (by first | omega | (simp; done) | (simp; omega)) _ | refine Below.drew ?_ | refine Below.setCell ?_ (by first | omega | (simp; done) | (simp; omega)) _ | refine Below.trans ?_ (Below.mono (by assumption) (by first | omega | (simp; done) | (simp; omega)))))
  replace hd := hd.below t1
  replace hw := hw.below t1
  have q0 := rdy_cells b1 0 rfl
  have q1 := rdy_cells b1 1 rfl
  have q2 := rdy_cells b1 2 rfl
  have q3 := rdy_cells b1 3 rfl
  have lB := cell_ltK q0
  go_wp2_with fail
  go_at_call 17
  refine (awake_any _).mono ?_
  rintro e w2 ⟨rfl, b2⟩
  have j2 : Below w1.heap.size w1 w2 := by (repeat (first | exact Below.refl _ _ | refine Below.alloc ?_ (by first | omega | (simp; done) | (simp; omega)) _ | refine Below.drew ?_ | refine Below.setCell ?_ (by first | omega | (simp; done) | (simp; omega)) _ | refine Below.trans ?_ (Below.mono (by assumption) (by first | omega | (simp; done) | (simp; omega)))))
  have t2 : Below w.heap.size w w2 := t1.trans (j2.mono t1.size)
  replace hd := hd.below j2
  replace hw := hw.below j2
  replace q0 := below_cell j2 q0
  replace q1 := below_cell j2 q1
  replace q2 := below_cell j2 q2
  replace q3 := below_cell j2 q3
  replace lB := Nat.lt_of_lt_of_le lB j2.size
  go_wp2_with fail
  go_ret
  exact ⟨rfl, t2⟩
set_option maxRecDepth 100000 in
set_option maxHeartbeats 8000000 in
theorem alone_a2 (st rate keeps : Int) (ds : List Dis) (ad : Option Addr) (cd : Nat) (aw : Option Addr) (ws : List Int) (cw : Nat) (wh : Int) (w : World) (hd : DisAt w ad ds) (big : AccBig ds) (hw : U16At w aw ws) (nw : aw = none → cw = 0) (lw : ws.length ≤ cw) (mw : cw ≤ maxLen) (hu : ∀ n ∈ ws, 0 ≤ n ∧ n ≤ 65535) (hwh : 0 ≤ wh ∧ wh ≤ 255) (hT : thinB ds = true) (h0 : accErr ⟨st, rate, keeps, ds⟩ ≠ 0) :
    Calls Try.prog 8 #[.agg #[.int .i64 st, .int .i64 rate, .int .i64 keeps, .slice ad ds.length cd], .slice aw ws.length cw, .int .u8 wh] w fun e w' => e = .returned (.bool true) ∧ Below w.heap.size w w' := by
  have HB := Lib.hid big
  obtain ⟨E, hE⟩ : ∃ E, accErr ⟨st, rate, keeps, ds⟩ = E := ⟨_, rfl⟩
  rw [hE] at h0
  have hE0 : (E == 0) = false := by simpa using h0
  have HE := Lib.hid hE
  have HT := Lib.hid hT
  have HE0 := Lib.hid hE0
  clear hT big hu lw mw hE h0 hE0 hwh
  go_enter Try.func8, Try.ntmps8
  go_wp2_with fail
  go_at_call 38
  refine (ready_yes st rate keeps ds ad cd _ E false HE HE0.out HT.out (hd.below (by (repeat (first | exact Below.refl _ _ | refine Below.alloc ?_ (by first | omega | (simp; done) | (simp; omega)) _ | refine Below.drew ?_ | refine Below.setCell ?_ (by first | omega | (simp; done) | (simp; omega)) _ | refine Below.trans ?_ (Below.mono (by assumption) (by first | omega | (simp; done) | (simp; omega))))))) HB).mono ?_
  rintro e w1 ⟨rfl, b1⟩
  have t1 : Below w.heap.size w w1 := by (repeat (first | exact Below.refl _ _ | refine Below.alloc ?_ (by first | omega | (simp; done) | (simp; omega)) _ | refine Below.drew ?_ | refine Below.setCell ?_ (by first | omega | (simp; done) | (simp; omega)) _ | refine Below.trans ?_ (Below.mono (by assumption) (by first | omega | (simp; done) | (simp; omega)))))
  replace hd := hd.below t1
  replace hw := hw.below t1
  have q0 := rdy_cells b1 0 rfl
  have q1 := rdy_cells b1 1 rfl
  have q2 := rdy_cells b1 2 rfl
  have q3 := rdy_cells b1 3 rfl
  have lB := cell_ltK q0
  go_wp2_with fail
  go_at_call 17
  refine (awake_any _).mono ?_
  rintro e w2 ⟨rfl, b2⟩
  have j2 : Below w1.heap.size w1 w2 := by (repeat (first | exact Below.refl _ _ | refine Below.alloc ?_ (by first | omega | (simp; done) | (simp; omega)) _ | refine Below.drew ?_ | refine Below.setCell ?_ (by first | omega | (simp; done) | (simp; omega)) _ | refine Below.trans ?_ (Below.mono (by assumption) (by first | omega | (simp; done) | (simp; omega)))))
  have t2 : Below w.heap.size w w2 := t1.trans (j2.mono t1.size)
  replace hd := hd.below j2
  replace hw := hw.below j2
  replace q0 := below_cell j2 q0
  replace q1 := below_cell j2 q1
  replace q2 := below_cell j2 q2
  replace q3 := below_cell j2 q3
  replace lB := Nat.lt_of_lt_of_le lB j2.size
  go_wp2_with fail
  go_ret
  exact ⟨rfl, t2⟩
set_option maxRecDepth 100000 in
set_option maxHeartbeats 8000000 in
theorem alone_a3 (st rate keeps : Int) (ds : List Dis) (ad : Option Addr) (cd : Nat) (aw : Option Addr) (ws : List Int) (cw : Nat) (wh : Int) (w : World) (hd : DisAt w ad ds) (big : AccBig ds) (hw : U16At w aw ws) (nw : aw = none → cw = 0) (lw : ws.length ≤ cw) (mw : cw ≤ maxLen) (hu : ∀ n ∈ ws, 0 ≤ n ∧ n ≤ 65535) (hwh : 0 ≤ wh ∧ wh ≤ 255) (hT : thinB ds = true) (h0 : accErr ⟨st, rate, keeps, ds⟩ = 0) (hz : ds.length = 0) :
    Calls Try.prog 8 #[.agg #[.int .i64 st, .int .i64 rate, .int .i64 keeps, .slice ad ds.length cd], .slice aw ws.length cw, .int .u8 wh] w fun e w' => e = .returned (.bool true) ∧ Below w.heap.size w w' := by
  have HB := Lib.hid big
  have HT := Lib.hid hT
  have H0 := Lib.hid h0
  have hzb : ((ds.length : Int) == 0) = true := by simp [hz]
  clear hT big hu lw mw h0 hz hwh
  go_enter Try.func8, Try.ntmps8
  go_wp2_with fail
  go_at_call 38
  refine (ready_yes st rate keeps ds ad cd _ 0 true H0 rfl HT.out (hd.below (by (repeat (first | exact Below.refl _ _ | refine Below.alloc ?_ (by first | omega | (simp; done) | (simp; omega)) _ | refine Below.drew ?_ | refine Below.setCell ?_ (by first | omega | (simp; done) | (simp; omega)) _ | refine Below.trans ?_ (Below.mono (by assumption) (by first | omega | (simp; done) | (simp; omega))))))) HB).mono ?_
  rintro e w1 ⟨rfl, b1⟩
  have t1 : Below w.heap.size w w1 := by (repeat (first | exact Below.refl _ _ | refine Below.alloc ?_ (by first | omega | (simp; done) | (simp; omega)) _ | refine Below.drew ?_ | refine Below.setCell ?_ (by first | omega | (simp; done) | (simp; omega)) _ | refine Below.trans ?_ (Below.mono (by assumption) (by first | omega | (simp; done) | (simp; omega)))))
  replace hd := hd.below t1
  replace hw := hw.below t1
  have q0 := rdy_cells b1 0 rfl
  have q1 := rdy_cells b1 1 rfl
  have q2 := rdy_cells b1 2 rfl
  have q3 := rdy_cells b1 3 rfl
  have lB := cell_ltK q0
  go_wp2_with fail
  go_at_call 17
  refine (awake_any _).mono ?_
  rintro e w2 ⟨rfl, b2⟩
  have j2 : Below w1.heap.size w1 w2 := by (repeat (first | exact Below.refl _ _ | refine Below.alloc ?_ (by first | omega | (simp; done) | (simp; omega)) _ | refine Below.drew ?_ | refine Below.setCell ?_ (by first | omega | (simp; done) | (simp; omega)) _ | refine Below.trans ?_ (Below.mono (by assumption) (by first | omega | (simp; done) | (simp; omega)))))
  have t2 : Below w.heap.size w w2 := t1.trans (j2.mono t1.size)
  replace hd := hd.below j2
  replace hw := hw.below j2
  replace q0 := below_cell j2 q0
  replace q1 := below_cell j2 q1
  replace q2 := below_cell j2 q2
  replace q3 := below_cell j2 q3
  replace lB := Nat.lt_of_lt_of_le lB j2.size
  go_wp2_with fail
  go_ret
  exact ⟨rfl, t2⟩
set_option maxRecDepth 100000 in
set_option maxHeartbeats 8000000 in
theorem alone_b (st rate keeps : Int) (ds : List Dis) (ad : Option Addr) (cd : Nat) (aw : Option Addr) (ws : List Int) (cw : Nat) (wh : Int) (w : World) (hd : DisAt w ad ds) (big : AccBig ds) (hw : U16At w aw ws) (nw : aw = none → cw = 0) (lw : ws.length ≤ cw) (mw : cw ≤ maxLen) (hu : ∀ n ∈ ws, 0 ≤ n ∧ n ≤ 65535) (hwh : 0 ≤ wh ∧ wh ≤ 255) (hT : thinB ds = true) (h0 : accErr ⟨st, rate, keeps, ds⟩ = 0) (hz : ds.length ≠ 0) :
    Calls Try.prog 8 #[.agg #[.int .i64 st, .int .i64 rate, .int .i64 keeps, .slice ad ds.length cd], .slice aw ws.length cw, .int .u8 wh] w fun e w' => e = .returned (.bool true) ∧ Below w.heap.size w w' := by
  have HB := Lib.hid big
  have HT := Lib.hid hT
  have SM := Lib.hid (thin_small (st := st) (rate := rate) (keeps := keeps) hT)
  have H0 := Lib.hid h0
  have HU : Hid (U16s ws) := Lib.hid hu
  have hwl : ws.length ≤ 9223372036854775807 := by unfold maxLen at mw; omega
  have AO := accErr_ok h0
  have hst := AO.st
  have hn6 : ds.length ≤ 6 := AO.len
  simp only at hst
  obtain ⟨n, rfl⟩ : ∃ n : Nat, st = (n : Int) := ⟨st.toNat, by omega⟩
  have hn7 : n ≤ 7 := by omega
  have hn1 : 1 ≤ n := by omega
  have G := good_of h0
  simp only at G
  have HG := Lib.hid G
  obtain ⟨T, hTe⟩ : ∃ T, pkL ds ws = T := ⟨_, rfl⟩
  have hTr : isTruth ds T = true := by rw [← hTe]; exact pk_truth (fun d h => (G.w d h).2.1) ws
  have hTl : T.length = ds.length := by rw [← hTe, pkL_len]
  have lT : T.length ≤ 1000 := by omega
  have HTe := Lib.hid hTe
  have HTr := Lib.hid hTr
  have HTl := Lib.hid hTl
  obtain ⟨wn, rfl⟩ : ∃ wn : Nat, wh = (wn : Int) := ⟨wh.toNat, by omega⟩
  obtain ⟨i, hie⟩ : ∃ i, wn % ds.length = i := ⟨_, rfl⟩
  have hi : i < ds.length := by rw [← hie]; exact Nat.mod_lt _ (by omega)
  have hcv : IntKind.i64.wrap (wn : Int) = (wn : Int) := IntWalk.i64_in _ (by omega)
  have htm : Int.tmod (wn : Int) (ds.length : Int) = (i : Int) := by rw [← hie]; rfl
  have hnz : ¬ ((ds.length : Int) = 0) := by omega
  have hnb : ((ds.length : Int) == 0) = false := by rw [beq_eq_false_iff_ne]; exact hnz
  have hiT : i < T.length := by omega
  have hiI : (i : Int) < (ds.length : Int) := by omega
  have hiTI : (i : Int) < (T.length : Int) := by omega
  have hGw := G.w _ (List.getElem_mem hi)
  have hGp := G.p _ (List.getElem_mem hi)
  have htr := (isTruth_iff.1 hTr).2 i hi
  have HGp := Lib.hid hGp
  obtain ⟨x, hx⟩ : ∃ x, T.getD i 0 = x := ⟨_, rfl⟩
  rw [hx] at htr
  have hD := disB_ok (AO.dis _ (List.getElem_mem hi))
  have hA0 := acc_alone h0 hi
  have hE0 := acc_equal h0
  obtain ⟨D1, hD1⟩ : ∃ D, ds.set i (aloneD ds[i]) = D := ⟨_, rfl⟩
  have hD1l : D1.length = ds.length := by rw [← hD1]; simp
  have hi1 : i < D1.length := by omega
  have hD1i : D1[i] = aloneD ds[i] := by subst hD1; simp
  rw [hD1] at hA0
  have HA0 := Lib.hid hA0
  have HE0 := Lib.hid hE0
  have SM1 : Hid (AccSmall ⟨(n : Int), rate, keeps, D1⟩) := Lib.hid ⟨by show D1.length ≤ 1000; omega, fun d hd1 => by
    have hd1 : d ∈ D1 := hd1
    have := (accErr_ok hA0).few d hd1
    omega⟩
  have SM0 : Hid (AccSmall ⟨(n : Int), rate, 0, ds⟩) := Lib.hid ⟨SM.out.d, SM.out.p⟩
  have Hx1 : Hid (D1[i].lo ≤ x ∧ x ≤ D1[i].hi) := Lib.hid (by rw [hD1i]; exact htr)
  have Hx0 : Hid (ds[i].lo ≤ x ∧ x ≤ ds[i].hi) := Lib.hid htr
  have hp := hD.pos
  have HS1 : Hid (sharesF rate keeps D1[i].passed.length x = [x * rate]) := Lib.hid (by
    rw [hD1i, show (aloneD ds[i]).passed.length = 1 by show (ds[i].passed.take 1).length = 1; rw [List.length_take]; omega, sharesF_one])
  obtain ⟨S, hS⟩ : ∃ S, sharesF rate 0 ds[i].passed.length x = S := ⟨_, rfl⟩
  have hSl : S.length = ds[i].passed.length := by rw [← hS, sharesF_len]
  have hS5 : S.length ≤ 5 := by omega
  have hSp : 0 < S.length := by omega
  have hSq : ∀ j, j + 1 < S.length → S.getD j 0 ≤ S.getD (j + 1) 0 ∧ S.getD (j + 1) 0 ≤ S.getD 0 0 + 1 := fun j hj => by
    rw [← hS]; exact shares_equal hGp (by omega)
  have hSb : ∀ v ∈ S, 0 ≤ v ∧ v ≤ 8001 := by rw [← hS]; exact shares_bd G.r ⟨Int.le_refl 0, by omega⟩ (by omega) hGp.1
  have hpr : -4000 ≤ x * rate ∧ x * rate ≤ 4000 := by
    have h1 := G.r
    have h2 : 0 ≤ x * rate := Int.mul_nonneg (by omega) h1.1
    have h3 : x * rate ≤ 200 * 20 := Int.mul_le_mul (by omega) h1.2 h1.1 (by omega)
    omega
  obtain ⟨P, hP⟩ : ∃ P, x * rate = P := ⟨_, rfl⟩
  rw [hP] at HS1 hpr
  have wP : IntKind.i64.wrap (x * rate) = P := by rw [hP]; exact IntWalk.i64_in _ (by omega)
  have hPn : (P != P) = false := by simp
  have hSn : ((S.length : Int) == 0) = false := by rw [beq_eq_false_iff_ne]; omega
  have HS := Lib.hid hS
  have HSq := Lib.hid hSq
  have HSb := Lib.hid hSb
  have HSl := Lib.hid hSl
  have Hxe := Lib.hid hx
  have HD1 := Lib.hid hD1
  have HD1l := Lib.hid hD1l
  have HP := Lib.hid hP
  clear hP hpr hSb hSq hSl hS hD1i hD1l hD1 hA0 hE0 hx hie htr hGw hz hD hp
  clear hT h0 big hu lw mw hTe hTr hTl G AO hst hwh
  go_enter Try.func8, Try.ntmps8
  go_wp2_with fail
  go_at_call 38
  refine (ready_yes (n : Int) rate keeps ds ad cd _ 0 true H0 rfl HT.out (hd.below (by (repeat (first | exact Below.refl _ _ | refine Below.alloc ?_ (by first | omega | (simp; done) | (simp; omega)) _ | refine Below.drew ?_ | refine Below.setCell ?_ (by first | omega | (simp; done) | (simp; omega)) _ | refine Below.trans ?_ (Below.mono (by assumption) (by first | omega | (simp; done) | (simp; omega))))))) HB).mono ?_
  rintro e w1 ⟨rfl, b1⟩
  have t1 : Below w.heap.size w w1 := by (repeat (first | exact Below.refl _ _ | refine Below.alloc ?_ (by first | omega | (simp; done) | (simp; omega)) _ | refine Below.drew ?_ | refine Below.setCell ?_ (by first | omega | (simp; done) | (simp; omega)) _ | refine Below.trans ?_ (Below.mono (by assumption) (by first | omega | (simp; done) | (simp; omega)))))
  replace hd := hd.below t1
  replace hw := hw.below t1
  have q0 := rdy_cells b1 0 rfl
  have q1 := rdy_cells b1 1 rfl
  have q2 := rdy_cells b1 2 rfl
  have q3 := rdy_cells b1 3 rfl
  have lB := cell_ltK q0
  go_wp2_with fail
  go_at_call 39
  refine (picked_eq (n : Int) rate keeps ds ad cd _ aw ws cw T H0 HTe hd hw HU hwl).mono ?_
  rintro e w2 ⟨⟨aT, cT, rfl, iT, nT⟩, b2⟩
  have j2 : Below w1.heap.size w1 w2 := by (repeat (first | exact Below.refl _ _ | refine Below.alloc ?_ (by first | omega | (simp; done) | (simp; omega)) _ | refine Below.drew ?_ | refine Below.setCell ?_ (by first | omega | (simp; done) | (simp; omega)) _ | refine Below.trans ?_ (Below.mono (by assumption) (by first | omega | (simp; done) | (simp; omega)))))
  have t2 : Below w.heap.size w w2 := t1.trans (j2.mono t1.size)
  replace hd := hd.below j2
  replace hw := hw.below j2
  replace q0 := below_cell j2 q0
  replace q1 := below_cell j2 q1
  replace q2 := below_cell j2 q2
  replace q3 := below_cell j2 q3
  replace lB := Nat.lt_of_lt_of_le lB j2.size
  clear hw
  obtain ⟨bT, oT, rfl, lT3, c1⟩ := iT i hiT
  rw [Hxe.out] at c1
  have lbT := cell_ltK c1
  obtain ⟨bd, od, al, cl, rfl, lbd, _⟩ := hd i hi
  obtain ⟨WB, hWB⟩ : ∃ z : World, z = w2 := ⟨_, rfl⟩
  have S0 : ∀ W : World, Below w2.heap.size w2 W → W.cell? ⟨w.heap.size, 0, none⟩ = some (.int .i64 (n : Int)) ∧ W.cell? ⟨w.heap.size, 1, none⟩ = some (.int .i64 rate) ∧ W.cell? ⟨w.heap.size, 2, none⟩ = some (.int .i64 keeps) ∧ W.cell? ⟨w.heap.size, 3, none⟩ = some (.slice (some ⟨bd, od, none⟩) ds.length cd) := fun W b => ⟨below_cell b q0, below_cell b q1, below_cell b q2, below_cell b q3⟩
  go_upto_region 5 with fail
  clear c1 iT
  go_region_held3 (fun w' => w'.cell? ⟨w.heap.size, 0, none⟩ = some (.int .i64 (n : Int)) ∧ w'.cell? ⟨w.heap.size, 1, none⟩ = some (.int .i64 rate) ∧ w'.cell? ⟨w.heap.size, 2, none⟩ = some (.int .i64 keeps) ∧ w'.cell? ⟨w.heap.size, 3, none⟩ = some (.slice (some ⟨bd, od, none⟩) ds.length cd)) (first | exact S0 _ (by (repeat (first | exact Below.refl _ _ | refine Below.alloc ?_ (by first | omega | (simp; done) | (simp; omega)) _ | refine Below.drew ?_ | refine Below.setCell ?_ (by first | omega | (simp; done) | (simp; omega)) _ | refine Below.trans ?_ (Below.mono (by assumption) (by first | omega | (simp; done) | (simp; omega))))))) (first | fail)
  · obtain ⟨X5, hX5⟩ : ∃ z : World, z = ((w2.alloc (.cells #[.int .i64 (n : Int), .int .i64 rate, .int .i64 keeps, .slice (some ⟨bd, od, none⟩) ds.length cd] 24)).alloc (.cells #[.int .i64 (n : Int), .int .i64 rate, .int .i64 keeps, .slice (some ⟨bd, od, none⟩) ds.length cd] 24)).drew := ⟨_, rfl⟩
    obtain ⟨g9, hg9⟩ : ∃ g, g = w2.heap.size := ⟨_, rfl⟩
    obtain ⟨g10, hg10⟩ : ∃ g, g = (w2.heap.size + 1) := ⟨_, rfl⟩
    have C9 : Cells X5 g9 #[.int .i64 (n : Int), .int .i64 rate, .int .i64 keeps, .slice (some ⟨bd, od, none⟩) ds.length cd] 24 := by rw [hX5, hg9]; exact (((Cells.new w2 _ _).alloc _)).below ((Below.refl _ _).drew)
    have C10 : Cells X5 g10 #[.int .i64 (n : Int), .int .i64 rate, .int .i64 keeps, .slice (some ⟨bd, od, none⟩) ds.length cd] 24 := by rw [hX5, hg10]; exact ((Cells.new' (w2.alloc (.cells #[.int .i64 (n : Int), .int .i64 rate, .int .i64 keeps, .slice (some ⟨bd, od, none⟩) ds.length cd] 24)) _ _ _ (by simp))).below ((Below.refl _ _).drew)
    have bS : Below w2.heap.size w2 X5 := by rw [hX5]; exact (((Below.refl _ _).alloc (Nat.le_refl _) _).alloc (by simp) _).drew
    rw [← hX5, ← hg10, ← hg9]
    have g9w : w2.heap.size ≤ g9 := by omega
    have g10w : w2.heap.size ≤ g10 := by omega
    have g910 : g9 ≠ g10 := by omega
    clear hX5 hg9 hg10 S0
    have l9 := C9.lt
    have l10 := C10.lt
    obtain ⟨vs, vsD, vsS, vs1⟩ := dis_vals hd
    obtain ⟨al, cl, _, _, _, hv3, hPs⟩ := vsD.2 i hi
    have k0 := q0
    have k1 := q1
    have k2 := q2
    have k3 := q3
    have kd := hd
    replace hd := hd.below bS
    replace q0 := below_cell bS q0
    replace q1 := below_cell bS q1
    replace q2 := below_cell bS q2
    replace q3 := below_cell bS q3
    replace lB := Nat.lt_of_lt_of_le lB bS.size
    have p9 := C9.cell 3
    simp at p9
    go_upto_region 7 with (at_builtin; refine wpList_app elRDisp rfl _ _ rfl X5.heap.size _ _ _ _ rfl (OwnL.lit #[] (Nat.le_refl _) (by decide) rfl) (some ⟨bd, od, none⟩) ds.length cd vs rfl (fun h => by cases h) vsD.1 (src_below vsS (bS.alloc bS.size _)) vs1 (by unfold maxLen; omega) (by omega) (by simp) ?_; intro a6 c6 X6 own6 b6; rw [Nat.zero_add, show ((#[] : Array Value).toList ++ vs) = vs from rfl] at own6; rw [Nat.zero_add]; obtain ⟨g6, rfl, gg6, gl6⟩ := own_some own6 (by omega); have bL : Below X5.heap.size X5 X6 := ((Below.refl _ _).alloc (Nat.le_refl _) _).trans b6; have C9b := C9.below bL; have f9 := C9b.frozen 3; have l9b := C9b.lt; have p9b := C9b.cell 3; simp at p9b)
    have C10b := C10.below bL
    obtain ⟨X7, hX7⟩ : ∃ z : World, z = X6.setCell ⟨g9, 3, none⟩ (.slice (some ⟨g6, 0, none⟩) ds.length c6) := ⟨_, rfl⟩
    have C9c : Cells X7 g9 #[.int .i64 (n : Int), .int .i64 rate, .int .i64 keeps, .slice (some ⟨g6, 0, none⟩) ds.length c6] 24 := by rw [hX7]; exact C9b.set 3 _
    have C10c : Cells X7 g10 #[.int .i64 (n : Int), .int .i64 rate, .int .i64 keeps, .slice (some ⟨bd, od, none⟩) ds.length cd] 24 := by rw [hX7]; exact C10b.other (Ne.symm g910) 3 _
    have own7 : OwnL 43 4 X5.heap.size X7 (some ⟨g6, 0, none⟩) c6 ds.length vs := by rw [hX7]; exact own6.store (p := ⟨g9, 3, none⟩) l9 _
    have bS7 : Below w2.heap.size w2 X7 := by rw [hX7]; exact (bS.trans (bL.mono bS.size)).setCell (p := ⟨g9, 3, none⟩) g9w _
    rw [← hX7]
    clear hX7 p9 f9 l9b p9b C9b C10b own6 bL b6 vsS vs1
    replace hd := kd.below bS7
    replace q0 := below_cell bS7 k0
    replace q1 := below_cell bS7 k1
    replace q2 := below_cell bS7 k2
    replace q3 := below_cell bS7 k3
    replace lB := cell_ltK q0
    have p9 := C9c.cell 3
    simp at p9
    have l9c := C9c.lt
    have hP1 := hPs.le
    have c73 : X7.cell? ⟨g6, i * 4 + 3, none⟩ = some (.slice al ds[i].passed.length cl) := by
      rcases own7.form with ⟨e, _⟩ | ⟨g', e, _, _, _, _, hf, hc⟩
      · cases e
      · cases e
        exact hc _ _ hv3
    have hf7 : ∀ j, X7.frozen? ⟨g6, j, none⟩ = false := by
      rcases own7.form with ⟨e, _⟩ | ⟨g', e, _, _, _, _, hf, hc⟩
      · cases e
      · cases e
        exact hf
    have l6 := cell_ltK c73
    have hnp1 : 1 ≤ ds[i].passed.length := HGp.out.1
    have hnp5 : ds[i].passed.length ≤ 5 := HGp.out.2
    have hal : ∃ bp op, al = some ⟨bp, op, none⟩ := by
      obtain ⟨b, off, e, _⟩ := hPs.at_ 0 (by omega)
      exact ⟨b, off, e⟩
    obtain ⟨bp, op, rfl⟩ := hal
    have htk1 : (ds[i].passed.take 1).length = 1 := by rw [List.length_take]; omega
    have vsA := vsD.alone hi hPs.one
    rw [htk1, HD1.out] at vsA
    obtain ⟨np, hnp⟩ : ∃ m, ds[i].passed.length = m := ⟨_, rfl⟩
    rw [hnp] at c73 hP1 hnp1 hnp5
    have h1n : (1 : Int) ≤ (np : Int) := by omega
    have h1c : (1 : Int) ≤ (cl : Int) := by omega
    have hc0 : ¬ cl = 0 := by omega
    clear hnp hv3 htk1
    go_wp2
    (refine wp_region_seq 12 [] [12] 128 [true, true, true, true, true, true, true, true, true, true, true, true] [] (by kernel_rfl) (by kernel_rfl) rfl mono_nil ?_; simp only [pickOps, List.filterMap_cons, List.filterMap_nil, List.getElem?_toArray, List.getElem?_cons_succ, List.getElem?_cons_zero]; (repeat (refine wpFl_step _ rfl (fun w => (by go_simp; rfl)) ?_)); refine wpFl_nil ?_; simp only [maskOps, dummy, Act.put, List.setIfInBounds_toArray, List.set_cons_zero, List.set_cons_succ, List.take_succ_cons, List.take_zero, List.drop_succ_cons, List.drop_zero]; (repeat (refine wpQB_step (fun K hK => ?_); go_simp; first | (refine hK _ ?_; clear hK K) | (apply Exists.intro; refine ⟨fun ex => ?_, hK _ ?_⟩; (fail); clear hK K))); refine wpQB_nil ?_; simp only [relObl2, under, relEnd, and_true, List.nil_append, List.cons_append])
    refine ⟨trivial, fun ex => ?_⟩
    have hex := ex.below
    obtain ⟨Y7, hY7⟩ : ∃ x : World, x = ex.to := ⟨_, rfl⟩
    rw [← hY7] at hex ⊢
    clear hY7 ex
    have own8 := own_setCellN (own7.kept hex) (i * 4 + 3) (.slice (some ⟨bp, op, none⟩) 1 cl)
    have C9d := C9c.below hex
    have C10d := C10c.below hex
    have c83 := below_cell hex c73
    have f83 : Y7.frozen? ⟨g6, i * 4 + 3, none⟩ = false := by
      rcases (own7.kept hex).form with ⟨e, _⟩ | ⟨g', e, _, _, _, _, hf, hc⟩
      · cases e
      · cases e
        exact hf _
    have l83 := cell_ltK c83
    have bS8 : Below w2.heap.size w2 (Y7.setCell ⟨g6, i * 4 + 3, none⟩ (.slice (some ⟨bp, op, none⟩) 1 cl)) := (bS7.trans (hex.mono bS7.size)).setCell (p := ⟨g6, i * 4 + 3, none⟩) (by show w2.heap.size ≤ g6; have := bS.size; omega) _
    have n96 : g9 ≠ g6 := by omega
    have n106 : g10 ≠ g6 := by omega
    replace C9d := C9d.other n96 (i * 4 + 3) (.slice (some ⟨bp, op, none⟩) 1 cl)
    replace C10d := C10d.other n106 (i * 4 + 3) (.slice (some ⟨bp, op, none⟩) 1 cl)
    obtain ⟨X8, hX8⟩ : ∃ x : World, x = Y7.setCell ⟨g6, i * 4 + 3, none⟩ (.slice (some ⟨bp, op, none⟩) 1 cl) := ⟨_, rfl⟩
    rw [← hX8] at own8 bS8 C9d C10d
    go_upto_region 8 with fail
    rw [← hX8]
    clear hX8 own7 c73 c83 f83 l83 hex C9c C10c p9 l9c hf7 l6
    have dA := (vsA.below bS8).dis own8
    have p10 := C10d.cell 2
    simp at p10
    have f10 := C10d.frozen 2
    have l10d := C10d.lt
    have bS9 : Below w2.heap.size w2 (X8.setCell ⟨g10, 2, none⟩ (.int .i64 0)) := bS8.setCell (p := ⟨g10, 2, none⟩) g10w _
    have C10e := C10d.set 2 (.int .i64 0)
    have C9e := C9d.other g910 2 (.int .i64 0)
    have own9 := own8.store (p := ⟨g10, 2, none⟩) l10 (.int .i64 0)
    obtain ⟨X9, hX9⟩ : ∃ x : World, x = X8.setCell ⟨g10, 2, none⟩ (.int .i64 0) := ⟨_, rfl⟩
    rw [← hX9] at bS9 C10e C9e own9
    go_upto_region 9 with fail
    rw [← hX9]
    clear hX9 p10 f10 l10d C9d C10d own8 dA
    have dA := (vsA.below bS9).dis own9
    replace hd := kd.below bS9
    replace q1 := below_cell bS9 k1
    have x0 := C9e.cell 0
    have x1 := C9e.cell 1
    have x2 := C9e.cell 2
    have x3 := C9e.cell 3
    have z0 := C10e.cell 0
    have z1 := C10e.cell 1
    have z2 := C10e.cell 2
    have z3 := C10e.cell 3
    simp at x0 x1 x2 x3 z0 z1 z2 z3
    have lx := C9e.lt
    have lz := C10e.lt
    have lq := cell_ltK q1
    have tX := t2.trans (bS9.mono t2.size)
    rw [← HD1l.out] at x3
    clear C9e C10e own9 k0 k1 k2 k3 vsA vsD bS7 bS8
    go_wp2_with fail
    go_at_call 19
    refine (account_eq (n : Int) rate keeps D1 (some ⟨g6, 0, none⟩) c6 _ dA SM1).mono ?_
    rintro e y1 ⟨⟨aP, cP, rfl, dP⟩, e1⟩
    have s1 : Below X9.heap.size X9 y1 := by (repeat (first | exact Below.refl _ _ | refine Below.alloc ?_ (by first | omega | (simp; done) | (simp; omega)) _ | refine Below.drew ?_ | refine Below.setCell ?_ (by first | omega | (simp; done) | (simp; omega)) _ | refine Below.trans ?_ (Below.mono (by assumption) (by first | omega | (simp; done) | (simp; omega)))))
    replace hd := hd.below s1
    replace dA := dA.below s1
    replace q1 := below_cell s1 q1
    replace x0 := below_cell s1 x0
    replace x1 := below_cell s1 x1
    replace x2 := below_cell s1 x2
    replace x3 := below_cell s1 x3
    replace z0 := below_cell s1 z0
    replace z1 := below_cell s1 z1
    replace z2 := below_cell s1 z2
    replace z3 := below_cell s1 z3
    replace lx := Nat.lt_of_lt_of_le lx s1.size
    replace lz := Nat.lt_of_lt_of_le lz s1.size
    replace lq := Nat.lt_of_lt_of_le lq s1.size
    go_wp2_with fail
    go_at_call 20
    refine (shares_in (n : Int) rate keeps D1 aP cP _ i x [P] HA0 hi1 Hx1 HS1 dP SM1).mono ?_
    rintro e y2 ⟨⟨aX, cX, rfl, iX⟩, e2⟩
    have r2 : Below y1.heap.size y1 y2 := by (repeat (first | exact Below.refl _ _ | refine Below.alloc ?_ (by first | omega | (simp; done) | (simp; omega)) _ | refine Below.drew ?_ | refine Below.setCell ?_ (by first | omega | (simp; done) | (simp; omega)) _ | refine Below.trans ?_ (Below.mono (by assumption) (by first | omega | (simp; done) | (simp; omega)))))
    have s2 : Below X9.heap.size X9 y2 := s1.trans (r2.mono s1.size)
    replace hd := hd.below r2
    replace dA := dA.below r2
    replace q1 := below_cell r2 q1
    replace x0 := below_cell r2 x0
    replace x1 := below_cell r2 x1
    replace x2 := below_cell r2 x2
    replace x3 := below_cell r2 x3
    replace z0 := below_cell r2 z0
    replace z1 := below_cell r2 z1
    replace z2 := below_cell r2 z2
    replace z3 := below_cell r2 z3
    replace lx := Nat.lt_of_lt_of_le lx r2.size
    replace lz := Nat.lt_of_lt_of_le lz r2.size
    replace lq := Nat.lt_of_lt_of_le lq r2.size
    replace dP := dP.below r2
    clear dP
    go_wp2_with fail
    go_at_call 19
    refine (account_eq (n : Int) rate 0 ds (some ⟨bd, od, none⟩) cd _ hd SM0).mono ?_
    rintro e y3 ⟨⟨aQ, cQ, rfl, dQ⟩, e3⟩
    have r3 : Below y2.heap.size y2 y3 := by (repeat (first | exact Below.refl _ _ | refine Below.alloc ?_ (by first | omega | (simp; done) | (simp; omega)) _ | refine Below.drew ?_ | refine Below.setCell ?_ (by first | omega | (simp; done) | (simp; omega)) _ | refine Below.trans ?_ (Below.mono (by assumption) (by first | omega | (simp; done) | (simp; omega)))))
    have s3 : Below X9.heap.size X9 y3 := s2.trans (r3.mono s2.size)
    replace hd := hd.below r3
    replace dA := dA.below r3
    replace q1 := below_cell r3 q1
    replace x0 := below_cell r3 x0
    replace x1 := below_cell r3 x1
    replace x2 := below_cell r3 x2
    replace x3 := below_cell r3 x3
    replace z0 := below_cell r3 z0
    replace z1 := below_cell r3 z1
    replace z2 := below_cell r3 z2
    replace z3 := below_cell r3 z3
    replace lx := Nat.lt_of_lt_of_le lx r3.size
    replace lz := Nat.lt_of_lt_of_le lz r3.size
    replace lq := Nat.lt_of_lt_of_le lq r3.size
    replace iX := iX.below r3
    go_wp2_with fail
    go_at_call 20
    refine (shares_in (n : Int) rate 0 ds aQ cQ _ i x S HE0 hi Hx0 HS dQ SM0).mono ?_
    rintro e y4 ⟨⟨aY, cY, rfl, iY⟩, e4⟩
    have r4 : Below y3.heap.size y3 y4 := by (repeat (first | exact Below.refl _ _ | refine Below.alloc ?_ (by first | omega | (simp; done) | (simp; omega)) _ | refine Below.drew ?_ | refine Below.setCell ?_ (by first | omega | (simp; done) | (simp; omega)) _ | refine Below.trans ?_ (Below.mono (by assumption) (by first | omega | (simp; done) | (simp; omega)))))
    have s4 : Below X9.heap.size X9 y4 := s3.trans (r4.mono s3.size)
    replace hd := hd.below r4
    replace dA := dA.below r4
    replace q1 := below_cell r4 q1
    replace x0 := below_cell r4 x0
    replace x1 := below_cell r4 x1
    replace x2 := below_cell r4 x2
    replace x3 := below_cell r4 x3
    replace z0 := below_cell r4 z0
    replace z1 := below_cell r4 z1
    replace z2 := below_cell r4 z2
    replace z3 := below_cell r4 z3
    replace lx := Nat.lt_of_lt_of_le lx r4.size
    replace lz := Nat.lt_of_lt_of_le lz r4.size
    replace lq := Nat.lt_of_lt_of_le lq r4.size
    replace iX := iX.below r4
    replace dQ := dQ.below r4
    clear dQ
    obtain ⟨bX, oX, rfl, lX, cx⟩ := iX 0 (by simp)
    rw [show ([P] : List Int).getD 0 0 = P from rfl, Nat.add_zero] at cx
    have lq := cell_ltK q1
    have hl1 : (([P] : List Int).length : Int) = 1 := rfl
    have tY : Below w.heap.size w y4 := tX.trans (s4.mono tX.size)
    have hS0 : (0 : Int) < (S.length : Int) := by omega
    go_wp2
    (refine wp_region_ext 26 (by kernel_rfl) (by kernel_rfl) ?_; simp only [List.take_succ_cons, List.take_zero, List.drop_succ_cons, List.drop_zero]; (repeat (go_big_quiet_step ((fail)))); refine wpQuiet_nil ?_; rintro _ ⟨ex, rfl⟩; have hex := ex.below; have hexz := ex.size; (try simp at hexz); (try (have hy0 : w.heap.size < ex.to.heap.size := by omega)); (try (have hy1 : w.heap.size + 1 < ex.to.heap.size := by omega)); (try (have hy2 : w.heap.size + 2 < ex.to.heap.size := by omega)))
    obtain ⟨W9, hW9⟩ : ∃ x : World, x = ex.to := ⟨_, rfl⟩
    rw [← hW9] at hex ⊢
    replace iY := iY.below hex
    have tZ := tY.trans (hex.mono tY.size)
    clear hW9
    go_wp2
    go_loopw [15] (fun v X => ∃ k : Nat, 1 ≤ k ∧ k ≤ S.length ∧ v = .int .i64 k ∧ Below W9.heap.size W9 X) (fun v _ => S.length - (intOf v).toNat)
    case atStart => exact ⟨1, Nat.le_refl _, by omega, rfl, Below.refl _ _⟩
    case round =>
      obtain ⟨k, hk1, hk, rfl, hbX⟩ := hrel
      rename World => X
      by_cases hlt : k < S.length
      · have hkI : (k : Int) < (S.length : Int) := by omega
        obtain ⟨j, rfl⟩ : ∃ j, k = j + 1 := ⟨k - 1, by omega⟩
        have hq := HSq.out j hlt
        have wj : IntKind.i64.wrap (((j + 1 : Nat) : Int) - 1) = (j : Int) := by rw [IntWalk.i64_in _ (by omega)]; push_cast; omega
        have hjI : (j : Int) < (S.length : Int) := by omega
        obtain ⟨bY, oY, rfl, _, y1⟩ := (iY.below hbX) (j + 1) hlt
        obtain ⟨_, _, e, _, y0⟩ := (iY.below hbX) j (by omega)
        cases e
        obtain ⟨_, _, e, _, yz⟩ := (iY.below hbX) 0 (by omega)
        cases e
        rw [Nat.add_zero] at yz
        have hb0 := HSb.out _ (List.getElem_mem (show 0 < S.length by omega))
        rw [show S[0] = S.getD 0 0 by simp [show 0 < S.length by omega]] at hb0
        obtain ⟨v1, hv1⟩ : ∃ v, S.getD (j + 1) 0 = v := ⟨_, rfl⟩
        obtain ⟨v0, hv0⟩ : ∃ v, S.getD j 0 = v := ⟨_, rfl⟩
        obtain ⟨vz, hvz⟩ : ∃ v, S.getD 0 0 = v := ⟨_, rfl⟩
        rw [hv1] at y1 hq
        rw [hv0] at y0 hq
        rw [hvz] at yz hq hb0
        have f1 : decide (v1 < v0) = false := by simp; omega
        have f2 : decide (vz + 1 < v1) = false := by simp; omega
        have wz : IntKind.i64.wrap (vz + 1) = vz + 1 := IntWalk.i64_in _ (by omega)
        have ly := cell_ltK y1
        clear hv1 hv0 hvz hq hb0
        go_wp2
        (refine wp_region_ext 21 (by kernel_rfl) (by kernel_rfl) ?_; simp only [List.take_succ_cons, List.take_zero, List.drop_succ_cons, List.drop_zero]; (repeat (go_big_quiet_step ((fail)))); refine wpQuiet_nil ?_; rintro _ ⟨ex, rfl⟩; have hex := ex.below; have hexz := ex.size; (try simp at hexz); (try (have hy0 : w.heap.size < ex.to.heap.size := by omega)); (try (have hy1 : w.heap.size + 1 < ex.to.heap.size := by omega)); (try (have hy2 : w.heap.size + 2 < ex.to.heap.size := by omega)))
        go_wp2
        go_roundw
        case rel => exact ⟨j + 1 + 1, by omega, by omega, by go_num, hbX.trans (ex.below.mono hbX.size)⟩
        case measure => simp [intOf]; omega
      · obtain rfl : k = S.length := by omega
        have tW := tZ.trans (hbX.mono tZ.size)
        go_wp2_with fail
        go_at_call 17
        refine (awake_any _).mono ?_
        rintro e wz ⟨rfl, bz⟩
        go_wp2_with fail
        go_ret
        exact ⟨rfl, tW.trans (bz.mono tW.size)⟩
  · obtain ⟨X5, hX5⟩ : ∃ z : World, z = ((w2.alloc (.cells #[.int .i64 (n : Int), .int .i64 rate, .int .i64 keeps, .slice (some ⟨bd, od, none⟩) ds.length cd] 24)).alloc (.cells #[.int .i64 (n : Int), .int .i64 rate, .int .i64 keeps, .slice (some ⟨bd, od, none⟩) ds.length cd] 24)).drew := ⟨_, rfl⟩
    obtain ⟨g9, hg9⟩ : ∃ g, g = (w2.heap.size + 1) := ⟨_, rfl⟩
    obtain ⟨g10, hg10⟩ : ∃ g, g = w2.heap.size := ⟨_, rfl⟩
    have C9 : Cells X5 g9 #[.int .i64 (n : Int), .int .i64 rate, .int .i64 keeps, .slice (some ⟨bd, od, none⟩) ds.length cd] 24 := by rw [hX5, hg9]; exact ((Cells.new' (w2.alloc (.cells #[.int .i64 (n : Int), .int .i64 rate, .int .i64 keeps, .slice (some ⟨bd, od, none⟩) ds.length cd] 24)) _ _ _ (by simp))).below ((Below.refl _ _).drew)
    have C10 : Cells X5 g10 #[.int .i64 (n : Int), .int .i64 rate, .int .i64 keeps, .slice (some ⟨bd, od, none⟩) ds.length cd] 24 := by rw [hX5, hg10]; exact (((Cells.new w2 _ _).alloc _)).below ((Below.refl _ _).drew)
    have bS : Below w2.heap.size w2 X5 := by rw [hX5]; exact (((Below.refl _ _).alloc (Nat.le_refl _) _).alloc (by simp) _).drew
    rw [← hX5, ← hg9, ← hg10]
    have g9w : w2.heap.size ≤ g9 := by omega
    have g10w : w2.heap.size ≤ g10 := by omega
    have g910 : g9 ≠ g10 := by omega
    clear hX5 hg9 hg10 S0
    have l9 := C9.lt
    have l10 := C10.lt
    obtain ⟨vs, vsD, vsS, vs1⟩ := dis_vals hd
    obtain ⟨al, cl, _, _, _, hv3, hPs⟩ := vsD.2 i hi
    have k0 := q0
    have k1 := q1
    have k2 := q2
    have k3 := q3
    have kd := hd
    replace hd := hd.below bS
    replace q0 := below_cell bS q0
    replace q1 := below_cell bS q1
    replace q2 := below_cell bS q2
    replace q3 := below_cell bS q3
    replace lB := Nat.lt_of_lt_of_le lB bS.size
    have p9 := C9.cell 3
    simp at p9
    go_upto_region 7 with (at_builtin; refine wpList_app elRDisp rfl _ _ rfl X5.heap.size _ _ _ _ rfl (OwnL.lit #[] (Nat.le_refl _) (by decide) rfl) (some ⟨bd, od, none⟩) ds.length cd vs rfl (fun h => by cases h) vsD.1 (src_below vsS (bS.alloc bS.size _)) vs1 (by unfold maxLen; omega) (by omega) (by simp) ?_; intro a6 c6 X6 own6 b6; rw [Nat.zero_add, show ((#[] : Array Value).toList ++ vs) = vs from rfl] at own6; rw [Nat.zero_add]; obtain ⟨g6, rfl, gg6, gl6⟩ := own_some own6 (by omega); have bL : Below X5.heap.size X5 X6 := ((Below.refl _ _).alloc (Nat.le_refl _) _).trans b6; have C9b := C9.below bL; have f9 := C9b.frozen 3; have l9b := C9b.lt; have p9b := C9b.cell 3; simp at p9b)
    have C10b := C10.below bL
    obtain ⟨X7, hX7⟩ : ∃ z : World, z = X6.setCell ⟨g9, 3, none⟩ (.slice (some ⟨g6, 0, none⟩) ds.length c6) := ⟨_, rfl⟩
    have C9c : Cells X7 g9 #[.int .i64 (n : Int), .int .i64 rate, .int .i64 keeps, .slice (some ⟨g6, 0, none⟩) ds.length c6] 24 := by rw [hX7]; exact C9b.set 3 _
    have C10c : Cells X7 g10 #[.int .i64 (n : Int), .int .i64 rate, .int .i64 keeps, .slice (some ⟨bd, od, none⟩) ds.length cd] 24 := by rw [hX7]; exact C10b.other (Ne.symm g910) 3 _
    have own7 : OwnL 43 4 X5.heap.size X7 (some ⟨g6, 0, none⟩) c6 ds.length vs := by rw [hX7]; exact own6.store (p := ⟨g9, 3, none⟩) l9 _
    have bS7 : Below w2.heap.size w2 X7 := by rw [hX7]; exact (bS.trans (bL.mono bS.size)).setCell (p := ⟨g9, 3, none⟩) g9w _
    rw [← hX7]
    clear hX7 p9 f9 l9b p9b C9b C10b own6 bL b6 vsS vs1
    replace hd := kd.below bS7
    replace q0 := below_cell bS7 k0
    replace q1 := below_cell bS7 k1
    replace q2 := below_cell bS7 k2
    replace q3 := below_cell bS7 k3
    replace lB := cell_ltK q0
    have p9 := C9c.cell 3
    simp at p9
    have l9c := C9c.lt
    have hP1 := hPs.le
    have c73 : X7.cell? ⟨g6, i * 4 + 3, none⟩ = some (.slice al ds[i].passed.length cl) := by
      rcases own7.form with ⟨e, _⟩ | ⟨g', e, _, _, _, _, hf, hc⟩
      · cases e
      · cases e
        exact hc _ _ hv3
    have hf7 : ∀ j, X7.frozen? ⟨g6, j, none⟩ = false := by
      rcases own7.form with ⟨e, _⟩ | ⟨g', e, _, _, _, _, hf, hc⟩
      · cases e
      · cases e
        exact hf
    have l6 := cell_ltK c73
    have hnp1 : 1 ≤ ds[i].passed.length := HGp.out.1
    have hnp5 : ds[i].passed.length ≤ 5 := HGp.out.2
    have hal : ∃ bp op, al = some ⟨bp, op, none⟩ := by
      obtain ⟨b, off, e, _⟩ := hPs.at_ 0 (by omega)
      exact ⟨b, off, e⟩
    obtain ⟨bp, op, rfl⟩ := hal
    have htk1 : (ds[i].passed.take 1).length = 1 := by rw [List.length_take]; omega
    have vsA := vsD.alone hi hPs.one
    rw [htk1, HD1.out] at vsA
    obtain ⟨np, hnp⟩ : ∃ m, ds[i].passed.length = m := ⟨_, rfl⟩
    rw [hnp] at c73 hP1 hnp1 hnp5
    have h1n : (1 : Int) ≤ (np : Int) := by omega
    have h1c : (1 : Int) ≤ (cl : Int) := by omega
    have hc0 : ¬ cl = 0 := by omega
    clear hnp hv3 htk1
    go_wp2
    (refine wp_region_seq 12 [] [12] 128 [true, true, true, true, true, true, true, true, true, true, true, true] [] (by kernel_rfl) (by kernel_rfl) rfl mono_nil ?_; simp only [pickOps, List.filterMap_cons, List.filterMap_nil, List.getElem?_toArray, List.getElem?_cons_succ, List.getElem?_cons_zero]; (repeat (refine wpFl_step _ rfl (fun w => (by go_simp; rfl)) ?_)); refine wpFl_nil ?_; simp only [maskOps, dummy, Act.put, List.setIfInBounds_toArray, List.set_cons_zero, List.set_cons_succ, List.take_succ_cons, List.take_zero, List.drop_succ_cons, List.drop_zero]; (repeat (refine wpQB_step (fun K hK => ?_); go_simp; first | (refine hK _ ?_; clear hK K) | (apply Exists.intro; refine ⟨fun ex => ?_, hK _ ?_⟩; (fail); clear hK K))); refine wpQB_nil ?_; simp only [relObl2, under, relEnd, and_true, List.nil_append, List.cons_append])
    refine ⟨trivial, fun ex => ?_⟩
    have hex := ex.below
    obtain ⟨Y7, hY7⟩ : ∃ x : World, x = ex.to := ⟨_, rfl⟩
    rw [← hY7] at hex ⊢
    clear hY7 ex
    have own8 := own_setCellN (own7.kept hex) (i * 4 + 3) (.slice (some ⟨bp, op, none⟩) 1 cl)
    have C9d := C9c.below hex
    have C10d := C10c.below hex
    have c83 := below_cell hex c73
    have f83 : Y7.frozen? ⟨g6, i * 4 + 3, none⟩ = false := by
      rcases (own7.kept hex).form with ⟨e, _⟩ | ⟨g', e, _, _, _, _, hf, hc⟩
      · cases e
      · cases e
        exact hf _
    have l83 := cell_ltK c83
    have bS8 : Below w2.heap.size w2 (Y7.setCell ⟨g6, i * 4 + 3, none⟩ (.slice (some ⟨bp, op, none⟩) 1 cl)) := (bS7.trans (hex.mono bS7.size)).setCell (p := ⟨g6, i * 4 + 3, none⟩) (by show w2.heap.size ≤ g6; have := bS.size; omega) _
    have n96 : g9 ≠ g6 := by omega
    have n106 : g10 ≠ g6 := by omega
    replace C9d := C9d.other n96 (i * 4 + 3) (.slice (some ⟨bp, op, none⟩) 1 cl)
    replace C10d := C10d.other n106 (i * 4 + 3) (.slice (some ⟨bp, op, none⟩) 1 cl)
    obtain ⟨X8, hX8⟩ : ∃ x : World, x = Y7.setCell ⟨g6, i * 4 + 3, none⟩ (.slice (some ⟨bp, op, none⟩) 1 cl) := ⟨_, rfl⟩
    rw [← hX8] at own8 bS8 C9d C10d
    go_upto_region 8 with fail
    rw [← hX8]
    clear hX8 own7 c73 c83 f83 l83 hex C9c C10c p9 l9c hf7 l6
    have dA := (vsA.below bS8).dis own8
    have p10 := C10d.cell 2
    simp at p10
    have f10 := C10d.frozen 2
    have l10d := C10d.lt
    have bS9 : Below w2.heap.size w2 (X8.setCell ⟨g10, 2, none⟩ (.int .i64 0)) := bS8.setCell (p := ⟨g10, 2, none⟩) g10w _
    have C10e := C10d.set 2 (.int .i64 0)
    have C9e := C9d.other g910 2 (.int .i64 0)
    have own9 := own8.store (p := ⟨g10, 2, none⟩) l10 (.int .i64 0)
    obtain ⟨X9, hX9⟩ : ∃ x : World, x = X8.setCell ⟨g10, 2, none⟩ (.int .i64 0) := ⟨_, rfl⟩
    rw [← hX9] at bS9 C10e C9e own9
    go_upto_region 9 with fail
    rw [← hX9]
    clear hX9 p10 f10 l10d C9d C10d own8 dA
    have dA := (vsA.below bS9).dis own9
    replace hd := kd.below bS9
    replace q1 := below_cell bS9 k1
    have x0 := C9e.cell 0
    have x1 := C9e.cell 1
    have x2 := C9e.cell 2
    have x3 := C9e.cell 3
    have z0 := C10e.cell 0
    have z1 := C10e.cell 1
    have z2 := C10e.cell 2
    have z3 := C10e.cell 3
    simp at x0 x1 x2 x3 z0 z1 z2 z3
    have lx := C9e.lt
    have lz := C10e.lt
    have lq := cell_ltK q1
    have tX := t2.trans (bS9.mono t2.size)
    rw [← HD1l.out] at x3
    clear C9e C10e own9 k0 k1 k2 k3 vsA vsD bS7 bS8
    go_wp2_with fail
    go_at_call 19
    refine (account_eq (n : Int) rate keeps D1 (some ⟨g6, 0, none⟩) c6 _ dA SM1).mono ?_
    rintro e y1 ⟨⟨aP, cP, rfl, dP⟩, e1⟩
    have s1 : Below X9.heap.size X9 y1 := by (repeat (first | exact Below.refl _ _ | refine Below.alloc ?_ (by first | omega | (simp; done) | (simp; omega)) _ | refine Below.drew ?_ | refine Below.setCell ?_ (by first | omega | (simp; done) | (simp; omega)) _ | refine Below.trans ?_ (Below.mono (by assumption) (by first | omega | (simp; done) | (simp; omega)))))
    replace hd := hd.below s1
    replace dA := dA.below s1
    replace q1 := below_cell s1 q1
    replace x0 := below_cell s1 x0
    replace x1 := below_cell s1 x1
    replace x2 := below_cell s1 x2
    replace x3 := below_cell s1 x3
    replace z0 := below_cell s1 z0
    replace z1 := below_cell s1 z1
    replace z2 := below_cell s1 z2
    replace z3 := below_cell s1 z3
    replace lx := Nat.lt_of_lt_of_le lx s1.size
    replace lz := Nat.lt_of_lt_of_le lz s1.size
    replace lq := Nat.lt_of_lt_of_le lq s1.size
    go_wp2_with fail
    go_at_call 20
    refine (shares_in (n : Int) rate keeps D1 aP cP _ i x [P] HA0 hi1 Hx1 HS1 dP SM1).mono ?_
    rintro e y2 ⟨⟨aX, cX, rfl, iX⟩, e2⟩
    have r2 : Below y1.heap.size y1 y2 := by (repeat (first | exact Below.refl _ _ | refine Below.alloc ?_ (by first | omega | (simp; done) | (simp; omega)) _ | refine Below.drew ?_ | refine Below.setCell ?_ (by first | omega | (simp; done) | (simp; omega)) _ | refine Below.trans ?_ (Below.mono (by assumption) (by first | omega | (simp; done) | (simp; omega)))))
    have s2 : Below X9.heap.size X9 y2 := s1.trans (r2.mono s1.size)
    replace hd := hd.below r2
    replace dA := dA.below r2
    replace q1 := below_cell r2 q1
    replace x0 := below_cell r2 x0
    replace x1 := below_cell r2 x1
    replace x2 := below_cell r2 x2
    replace x3 := below_cell r2 x3
    replace z0 := below_cell r2 z0
    replace z1 := below_cell r2 z1
    replace z2 := below_cell r2 z2
    replace z3 := below_cell r2 z3
    replace lx := Nat.lt_of_lt_of_le lx r2.size
    replace lz := Nat.lt_of_lt_of_le lz r2.size
    replace lq := Nat.lt_of_lt_of_le lq r2.size
    replace dP := dP.below r2
    clear dP
    go_wp2_with fail
    go_at_call 19
    refine (account_eq (n : Int) rate 0 ds (some ⟨bd, od, none⟩) cd _ hd SM0).mono ?_
    rintro e y3 ⟨⟨aQ, cQ, rfl, dQ⟩, e3⟩
    have r3 : Below y2.heap.size y2 y3 := by (repeat (first | exact Below.refl _ _ | refine Below.alloc ?_ (by first | omega | (simp; done) | (simp; omega)) _ | refine Below.drew ?_ | refine Below.setCell ?_ (by first | omega | (simp; done) | (simp; omega)) _ | refine Below.trans ?_ (Below.mono (by assumption) (by first | omega | (simp; done) | (simp; omega)))))
    have s3 : Below X9.heap.size X9 y3 := s2.trans (r3.mono s2.size)
    replace hd := hd.below r3
    replace dA := dA.below r3
    replace q1 := below_cell r3 q1
    replace x0 := below_cell r3 x0
    replace x1 := below_cell r3 x1
    replace x2 := below_cell r3 x2
    replace x3 := below_cell r3 x3
    replace z0 := below_cell r3 z0
    replace z1 := below_cell r3 z1
    replace z2 := below_cell r3 z2
    replace z3 := below_cell r3 z3
    replace lx := Nat.lt_of_lt_of_le lx r3.size
    replace lz := Nat.lt_of_lt_of_le lz r3.size
    replace lq := Nat.lt_of_lt_of_le lq r3.size
    replace iX := iX.below r3
    go_wp2_with fail
    go_at_call 20
    refine (shares_in (n : Int) rate 0 ds aQ cQ _ i x S HE0 hi Hx0 HS dQ SM0).mono ?_
    rintro e y4 ⟨⟨aY, cY, rfl, iY⟩, e4⟩
    have r4 : Below y3.heap.size y3 y4 := by (repeat (first | exact Below.refl _ _ | refine Below.alloc ?_ (by first | omega | (simp; done) | (simp; omega)) _ | refine Below.drew ?_ | refine Below.setCell ?_ (by first | omega | (simp; done) | (simp; omega)) _ | refine Below.trans ?_ (Below.mono (by assumption) (by first | omega | (simp; done) | (simp; omega)))))
    have s4 : Below X9.heap.size X9 y4 := s3.trans (r4.mono s3.size)
    replace hd := hd.below r4
    replace dA := dA.below r4
    replace q1 := below_cell r4 q1
    replace x0 := below_cell r4 x0
    replace x1 := below_cell r4 x1
    replace x2 := below_cell r4 x2
    replace x3 := below_cell r4 x3
    replace z0 := below_cell r4 z0
    replace z1 := below_cell r4 z1
    replace z2 := below_cell r4 z2
    replace z3 := below_cell r4 z3
    replace lx := Nat.lt_of_lt_of_le lx r4.size
    replace lz := Nat.lt_of_lt_of_le lz r4.size
    replace lq := Nat.lt_of_lt_of_le lq r4.size
    replace iX := iX.below r4
    replace dQ := dQ.below r4
    clear dQ
    obtain ⟨bX, oX, rfl, lX, cx⟩ := iX 0 (by simp)
    rw [show ([P] : List Int).getD 0 0 = P from rfl, Nat.add_zero] at cx
    have lq := cell_ltK q1
    have hl1 : (([P] : List Int).length : Int) = 1 := rfl
    have tY : Below w.heap.size w y4 := tX.trans (s4.mono tX.size)
    have hS0 : (0 : Int) < (S.length : Int) := by omega
    go_wp2
    (refine wp_region_ext 26 (by kernel_rfl) (by kernel_rfl) ?_; simp only [List.take_succ_cons, List.take_zero, List.drop_succ_cons, List.drop_zero]; (repeat (go_big_quiet_step ((fail)))); refine wpQuiet_nil ?_; rintro _ ⟨ex, rfl⟩; have hex := ex.below; have hexz := ex.size; (try simp at hexz); (try (have hy0 : w.heap.size < ex.to.heap.size := by omega)); (try (have hy1 : w.heap.size + 1 < ex.to.heap.size := by omega)); (try (have hy2 : w.heap.size + 2 < ex.to.heap.size := by omega)))
    obtain ⟨W9, hW9⟩ : ∃ x : World, x = ex.to := ⟨_, rfl⟩
    rw [← hW9] at hex ⊢
    replace iY := iY.below hex
    have tZ := tY.trans (hex.mono tY.size)
    clear hW9
    go_wp2
    go_loopw [15] (fun v X => ∃ k : Nat, 1 ≤ k ∧ k ≤ S.length ∧ v = .int .i64 k ∧ Below W9.heap.size W9 X) (fun v _ => S.length - (intOf v).toNat)
    case atStart => exact ⟨1, Nat.le_refl _, by omega, rfl, Below.refl _ _⟩
    case round =>
      obtain ⟨k, hk1, hk, rfl, hbX⟩ := hrel
      rename World => X
      by_cases hlt : k < S.length
      · have hkI : (k : Int) < (S.length : Int) := by omega
        obtain ⟨j, rfl⟩ : ∃ j, k = j + 1 := ⟨k - 1, by omega⟩
        have hq := HSq.out j hlt
        have wj : IntKind.i64.wrap (((j + 1 : Nat) : Int) - 1) = (j : Int) := by rw [IntWalk.i64_in _ (by omega)]; push_cast; omega
        have hjI : (j : Int) < (S.length : Int) := by omega
        obtain ⟨bY, oY, rfl, _, y1⟩ := (iY.below hbX) (j + 1) hlt
        obtain ⟨_, _, e, _, y0⟩ := (iY.below hbX) j (by omega)
        cases e
        obtain ⟨_, _, e, _, yz⟩ := (iY.below hbX) 0 (by omega)
        cases e
        rw [Nat.add_zero] at yz
        have hb0 := HSb.out _ (List.getElem_mem (show 0 < S.length by omega))
        rw [show S[0] = S.getD 0 0 by simp [show 0 < S.length by omega]] at hb0
        obtain ⟨v1, hv1⟩ : ∃ v, S.getD (j + 1) 0 = v := ⟨_, rfl⟩
        obtain ⟨v0, hv0⟩ : ∃ v, S.getD j 0 = v := ⟨_, rfl⟩
        obtain ⟨vz, hvz⟩ : ∃ v, S.getD 0 0 = v := ⟨_, rfl⟩
        rw [hv1] at y1 hq
        rw [hv0] at y0 hq
        rw [hvz] at yz hq hb0
        have f1 : decide (v1 < v0) = false := by simp; omega
        have f2 : decide (vz + 1 < v1) = false := by simp; omega
        have wz : IntKind.i64.wrap (vz + 1) = vz + 1 := IntWalk.i64_in _ (by omega)
        have ly := cell_ltK y1
        clear hv1 hv0 hvz hq hb0
        go_wp2
        (refine wp_region_ext 21 (by kernel_rfl) (by kernel_rfl) ?_; simp only [List.take_succ_cons, List.take_zero, List.drop_succ_cons, List.drop_zero]; (repeat (go_big_quiet_step ((fail)))); refine wpQuiet_nil ?_; rintro _ ⟨ex, rfl⟩; have hex := ex.below; have hexz := ex.size; (try simp at hexz); (try (have hy0 : w.heap.size < ex.to.heap.size := by omega)); (try (have hy1 : w.heap.size + 1 < ex.to.heap.size := by omega)); (try (have hy2 : w.heap.size + 2 < ex.to.heap.size := by omega)))
        go_wp2
        go_roundw
        case rel => exact ⟨j + 1 + 1, by omega, by omega, by go_num, hbX.trans (ex.below.mono hbX.size)⟩
        case measure => simp [intOf]; omega
      · obtain rfl : k = S.length := by omega
        have tW := tZ.trans (hbX.mono tZ.size)
        go_wp2_with fail
        go_at_call 17
        refine (awake_any _).mono ?_
        rintro e wz ⟨rfl, bz⟩
        go_wp2_with fail
        go_ret
        exact ⟨rfl, tW.trans (bz.mono tW.size)⟩

theorem alone_walk (st rate keeps : Int) (ds : List Dis) (ad : Option Addr) (cd : Nat) (aw : Option Addr) (ws : List Int) (cw : Nat) (wh : Int) (w : World) (hd : DisAt w ad ds) (big : AccBig ds) (hw : U16At w aw ws) (nw : aw = none → cw = 0) (lw : ws.length ≤ cw) (mw : cw ≤ maxLen) (hu : ∀ n ∈ ws, 0 ≤ n ∧ n ≤ 65535) (hwh : 0 ≤ wh ∧ wh ≤ 255) :
    Calls Try.prog 8 #[.agg #[.int .i64 st, .int .i64 rate, .int .i64 keeps, .slice ad ds.length cd], .slice aw ws.length cw, .int .u8 wh] w fun e w' => e = .returned (.bool true) ∧ Below w.heap.size w w' := by
  by_cases hT : thinB ds = true
  · by_cases h0 : accErr ⟨st, rate, keeps, ds⟩ = 0
    · by_cases hz : ds.length = 0
      · exact alone_a3 st rate keeps ds ad cd aw ws cw wh w hd big hw nw lw mw hu hwh hT h0 hz
      · exact alone_b st rate keeps ds ad cd aw ws cw wh w hd big hw nw lw mw hu hwh hT h0 hz
    · exact alone_a2 st rate keeps ds ad cd aw ws cw wh w hd big hw nw lw mw hu hwh hT h0
  · exact alone_a1 st rate keeps ds ad cd aw ws cw wh w hd big hw nw lw mw hu hwh (by simpa using hT)
end Go.Proofs.Ytomjlmhnjgohdaa
