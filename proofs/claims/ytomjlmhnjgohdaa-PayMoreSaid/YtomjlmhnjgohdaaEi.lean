/- PayMore: the walk -/
import Derived.Test.YtomjlmhnjgohdaaIa
namespace Go.Proofs.Ytomjlmhnjgohdaa
set_option linter.unusedVariables false
set_option linter.unusedSimpArgs false
set_option linter.unnecessarySimpa false
open Go.RowKit Go.Flow Go.Shelf

set_option maxRecDepth 100000 in
set_option maxHeartbeats 8000000 in
theorem more_a1 (st rate keeps : Int) (ds : List Dis) (ad : Option Addr) (cd : Nat) (aw : Option Addr) (ws : List Int) (cw : Nat) (wh bv : Int) (w : World) (hd : DisAt w ad ds) (big : AccBig ds) (hw : U16At w aw ws) (nw : aw = none → cw = 0) (lw : ws.length ≤ cw) (mw : cw ≤ maxLen) (hu : ∀ n ∈ ws, 0 ≤ n ∧ n ≤ 65535) (hwh : 0 ≤ wh ∧ wh ≤ 255) (hbv : 0 ≤ bv ∧ bv ≤ 255) (hT : thinB ds = false) :
    Calls Try.prog 7 #[.agg #[.int .i64 st, .int .i64 rate, .int .i64 keeps, .slice ad ds.length cd], .slice aw ws.length cw, .int .u8 wh, .int .u8 bv] w fun e w' => e = .returned (.bool true) ∧ Below w.heap.size w w' := by
  have HB := Lib.hid big
  have HT := Lib.hid hT
  clear hT big hu lw mw hwh hbv
  go_enter Try.func7, Try.ntmps7
  go_wp2_with fail
  go_at_call 38
  refine (ready_no st rate keeps ds ad cd _ HT (hd.below (by (repeat (first | exact Below.refl _ _ | refine Below.alloc ?_ (by first | omega | (simp; done) | (simp; omega)) _ | refine Below.drew ?_ | refine Below.setCell ?_ (by first | omega | (simp; done) | (simp; omega)) _ | refine Below.trans ?_ (Below.mono (by assumption) (by first | omega | (simp; done) | (simp; omega))))))) HB).mono ?_
  rintro e w1 ⟨rfl, b1⟩
  have t1 : Below w.heap.size w w1 := by (repeat (first | exact Below.refl _ _ | refine Below.alloc ?_ (by first | omega | (simp; done) | (simp; omega)) _ | refine Below.drew ?_ | refine Below.setCell ?_ (by first | omega | (simp; done) | (simp; omega)) _ | refine Below.trans ?_ (Below.mono (by assumption) (by first | omega | (simp; done) | (simp; omega)))))
  replace hd := hd.below t1
  replace hw := hw.below t1
  have q0 := rdy_cells b1 0 rfl
  have q1 := rdy_cells b1 1 rfl
  have q2 := rdy_cells b1 2 rfl
  have q3 := rdy_cells b1 3 rfl
  have lB := cell_ltK q0
  go_wp2_with fail
  go_at_call 17
  refine (awake_any _).mono ?_
  rintro e w2 ⟨rfl, b2⟩
  have j2 : Below w1.heap.size w1 w2 := by (repeat (first | exact Below.refl _ _ | refine Below.alloc ?_ (by first | omega | (simp; done) | (simp; omega)) _ | refine Below.drew ?_ | refine Below.setCell ?_ (by first | omega | (simp; done) | (simp; omega)) _ | refine Below.trans ?_ (Below.mono (by assumption) (by first | omega | (simp; done) | (simp; omega)))))
  have t2 : Below w.heap.size w w2 := t1.trans (j2.mono t1.size)
  replace hd := hd.below j2
  replace hw := hw.below j2
  replace q0 := below_cell j2 q0
  replace q1 := below_cell j2 q1
  replace q2 := below_cell j2 q2
  replace q3 := below_cell j2 q3
  replace lB := Nat.lt_of_lt_of_le lB j2.size
  go_wp2_with fail
  go_ret
  exact ⟨rfl, t2⟩
set_option maxRecDepth 100000 in
set_option maxHeartbeats 8000000 in
theorem more_a2 (st rate keeps : Int) (ds : List Dis) (ad : Option Addr) (cd : Nat) (aw : Option Addr) (ws : List Int) (cw : Nat) (wh bv : Int) (w : World) (hd : DisAt w ad ds) (big : AccBig ds) (hw : U16At w aw ws) (nw : aw = none → cw = 0) (lw : ws.length ≤ cw) (mw : cw ≤ maxLen) (hu : ∀ n ∈ ws, 0 ≤ n ∧ n ≤ 65535) (hwh : 0 ≤ wh ∧ wh ≤ 255) (hbv : 0 ≤ bv ∧ bv ≤ 255) (hT : thinB ds = true) (h0 : accErr ⟨st, rate, keeps, ds⟩ ≠ 0) :
    Calls Try.prog 7 #[.agg #[.int .i64 st, .int .i64 rate, .int .i64 keeps, .slice ad ds.length cd], .slice aw ws.length cw, .int .u8 wh, .int .u8 bv] w fun e w' => e = .returned (.bool true) ∧ Below w.heap.size w w' := by
  have HB := Lib.hid big
  obtain ⟨E, hE⟩ : ∃ E, accErr ⟨st, rate, keeps, ds⟩ = E := ⟨_, rfl⟩
  rw [hE] at h0
  have hE0 : (E == 0) = false := by simpa using h0
  have HE := Lib.hid hE
  have HT := Lib.hid hT
  have HE0 := Lib.hid hE0
  clear hT big hu lw mw hE h0 hE0 hwh hbv
  go_enter Try.func7, Try.ntmps7
  go_wp2_with fail
  go_at_call 38
  refine (ready_yes st rate keeps ds ad cd _ E false HE HE0.out HT.out (hd.below (by (repeat (first | exact Below.refl _ _ | refine Below.alloc ?_ (by first | omega | (simp; done) | (simp; omega)) _ | refine Below.drew ?_ | refine Below.setCell ?_ (by first | omega | (simp; done) | (simp; omega)) _ | refine Below.trans ?_ (Below.mono (by assumption) (by first | omega | (simp; done) | (simp; omega))))))) HB).mono ?_
  rintro e w1 ⟨rfl, b1⟩
  have t1 : Below w.heap.size w w1 := by (repeat (first | exact Below.refl _ _ | refine Below.alloc ?_ (by first | omega | (simp; done) | (simp; omega)) _ | refine Below.drew ?_ | refine Below.setCell ?_ (by first | omega | (simp; done) | (simp; omega)) _ | refine Below.trans ?_ (Below.mono (by assumption) (by first | omega | (simp; done) | (simp; omega)))))
  replace hd := hd.below t1
  replace hw := hw.below t1
  have q0 := rdy_cells b1 0 rfl
  have q1 := rdy_cells b1 1 rfl
  have q2 := rdy_cells b1 2 rfl
  have q3 := rdy_cells b1 3 rfl
  have lB := cell_ltK q0
  go_wp2_with fail
  go_at_call 17
  refine (awake_any _).mono ?_
  rintro e w2 ⟨rfl, b2⟩
  have j2 : Below w1.heap.size w1 w2 := by (repeat (first | exact Below.refl _ _ | refine Below.alloc ?_ (by first | omega | (simp; done) | (simp; omega)) _ | refine Below.drew ?_ | refine Below.setCell ?_ (by first | omega | (simp; done) | (simp; omega)) _ | refine Below.trans ?_ (Below.mono (by assumption) (by first | omega | (simp; done) | (simp; omega)))))
  have t2 : Below w.heap.size w w2 := t1.trans (j2.mono t1.size)
  replace hd := hd.below j2
  replace hw := hw.below j2
  replace q0 := below_cell j2 q0
  replace q1 := below_cell j2 q1
  replace q2 := below_cell j2 q2
  replace q3 := below_cell j2 q3
  replace lB := Nat.lt_of_lt_of_le lB j2.size
  go_wp2_with fail
  go_ret
  exact ⟨rfl, t2⟩
set_option maxRecDepth 100000 in
set_option maxHeartbeats 8000000 in
theorem more_a3 (st rate keeps : Int) (ds : List Dis) (ad : Option Addr) (cd : Nat) (aw : Option Addr) (ws : List Int) (cw : Nat) (wh bv : Int) (w : World) (hd : DisAt w ad ds) (big : AccBig ds) (hw : U16At w aw ws) (nw : aw = none → cw = 0) (lw : ws.length ≤ cw) (mw : cw ≤ maxLen) (hu : ∀ n ∈ ws, 0 ≤ n ∧ n ≤ 65535) (hwh : 0 ≤ wh ∧ wh ≤ 255) (hbv : 0 ≤ bv ∧ bv ≤ 255) (hT : thinB ds = true) (h0 : accErr ⟨st, rate, keeps, ds⟩ = 0) (hz : ds.length = 0) :
    Calls Try.prog 7 #[.agg #[.int .i64 st, .int .i64 rate, .int .i64 keeps, .slice ad ds.length cd], .slice aw ws.length cw, .int .u8 wh, .int .u8 bv] w fun e w' => e = .returned (.bool true) ∧ Below w.heap.size w w' := by
  have HB := Lib.hid big
  have HT := Lib.hid hT
  have H0 := Lib.hid h0
  have hzb : ((ds.length : Int) == 0) = true := by simp [hz]
  clear hT big hu lw mw h0 hz hwh hbv
  go_enter Try.func7, Try.ntmps7
  go_wp2_with fail
  go_at_call 38
  refine (ready_yes st rate keeps ds ad cd _ 0 true H0 rfl HT.out (hd.below (by (repeat (first | exact Below.refl _ _ | refine Below.alloc ?_ (by first | omega | (simp; done) | (simp; omega)) _ | refine Below.drew ?_ | refine Below.setCell ?_ (by first | omega | (simp; done) | (simp; omega)) _ | refine Below.trans ?_ (Below.mono (by assumption) (by first | omega | (simp; done) | (simp; omega))))))) HB).mono ?_
  rintro e w1 ⟨rfl, b1⟩
  have t1 : Below w.heap.size w w1 := by (repeat (first | exact Below.refl _ _ | refine Below.alloc ?_ (by first | omega | (simp; done) | (simp; omega)) _ | refine Below.drew ?_ | refine Below.setCell ?_ (by first | omega | (simp; done) | (simp; omega)) _ | refine Below.trans ?_ (Below.mono (by assumption) (by first | omega | (simp; done) | (simp; omega)))))
  replace hd := hd.below t1
  replace hw := hw.below t1
  have q0 := rdy_cells b1 0 rfl
  have q1 := rdy_cells b1 1 rfl
  have q2 := rdy_cells b1 2 rfl
  have q3 := rdy_cells b1 3 rfl
  have lB := cell_ltK q0
  go_wp2_with fail
  go_at_call 17
  refine (awake_any _).mono ?_
  rintro e w2 ⟨rfl, b2⟩
  have j2 : Below w1.heap.size w1 w2 := by (repeat (first | exact Below.refl _ _ | refine Below.alloc ?_ (by first | omega | (simp; done) | (simp; omega)) _ | refine Below.drew ?_ | refine Below.setCell ?_ (by first | omega | (simp; done) | (simp; omega)) _ | refine Below.trans ?_ (Below.mono (by assumption) (by first | omega | (simp; done) | (simp; omega)))))
  have t2 : Below w.heap.size w w2 := t1.trans (j2.mono t1.size)
  replace hd := hd.below j2
  replace hw := hw.below j2
  replace q0 := below_cell j2 q0
  replace q1 := below_cell j2 q1
  replace q2 := below_cell j2 q2
  replace q3 := below_cell j2 q3
  replace lB := Nat.lt_of_lt_of_le lB j2.size
  go_wp2_with fail
  go_ret
  exact ⟨rfl, t2⟩
set_option maxRecDepth 100000 in
set_option maxHeartbeats 8000000 in
theorem more_b (st rate keeps : Int) (ds : List Dis) (ad : Option Addr) (cd : Nat) (aw : Option Addr) (ws : List Int) (cw : Nat) (wh bv : Int) (w : World) (hd : DisAt w ad ds) (big : AccBig ds) (hw : U16At w aw ws) (nw : aw = none → cw = 0) (lw : ws.length ≤ cw) (mw : cw ≤ maxLen) (hu : ∀ n ∈ ws, 0 ≤ n ∧ n ≤ 65535) (hwh : 0 ≤ wh ∧ wh ≤ 255) (hbv : 0 ≤ bv ∧ bv ≤ 255) (hT : thinB ds = true) (h0 : accErr ⟨st, rate, keeps, ds⟩ = 0) (hz : ds.length ≠ 0) :
    Calls Try.prog 7 #[.agg #[.int .i64 st, .int .i64 rate, .int .i64 keeps, .slice ad ds.length cd], .slice aw ws.length cw, .int .u8 wh, .int .u8 bv] w fun e w' => e = .returned (.bool true) ∧ Below w.heap.size w w' := by
  have HB := Lib.hid big
  have HT := Lib.hid hT
  have SM := Lib.hid (thin_small (st := st) (rate := rate) (keeps := keeps) hT)
  have H0 := Lib.hid h0
  have HU : Hid (U16s ws) := Lib.hid hu
  have hwl : ws.length ≤ 9223372036854775807 := by unfold maxLen at mw; omega
  have AO := accErr_ok h0
  have hst := AO.st
  have hn6 : ds.length ≤ 6 := AO.len
  simp only at hst
  obtain ⟨n, rfl⟩ : ∃ n : Nat, st = (n : Int) := ⟨st.toNat, by omega⟩
  have hn7 : n ≤ 7 := by omega
  have hn1 : 1 ≤ n := by omega
  have G := good_of h0
  simp only at G
  have HG := Lib.hid G
  obtain ⟨T, hTe⟩ : ∃ T, pkL ds ws = T := ⟨_, rfl⟩
  have hTr : isTruth ds T = true := by rw [← hTe]; exact pk_truth (fun d h => (G.w d h).2.1) ws
  have hTl : T.length = ds.length := by rw [← hTe, pkL_len]
  have lT : T.length ≤ 1000 := by omega
  have HTe := Lib.hid hTe
  have HTr := Lib.hid hTr
  have HTl := Lib.hid hTl
  obtain ⟨wn, rfl⟩ : ∃ wn : Nat, wh = (wn : Int) := ⟨wh.toNat, by omega⟩
  obtain ⟨i, hie⟩ : ∃ i, wn % ds.length = i := ⟨_, rfl⟩
  have hi : i < ds.length := by rw [← hie]; exact Nat.mod_lt _ (by omega)
  have hcv : IntKind.i64.wrap (wn : Int) = (wn : Int) := IntWalk.i64_in _ (by omega)
  have htm : Int.tmod (wn : Int) (ds.length : Int) = (i : Int) := by rw [← hie]; rfl
  have hnz : ¬ ((ds.length : Int) = 0) := by omega
  have hnb : ((ds.length : Int) == 0) = false := by rw [beq_eq_false_iff_ne]; exact hnz
  have hiT : i < T.length := by omega
  have hiI : (i : Int) < (ds.length : Int) := by omega
  have hiTI : (i : Int) < (T.length : Int) := by omega
  have hGw := G.w _ (List.getElem_mem hi)
  have hGp := G.p _ (List.getElem_mem hi)
  have htr := (isTruth_iff.1 hTr).2 i hi
  have HGp := Lib.hid hGp
  obtain ⟨bn, rfl⟩ : ∃ bn : Nat, bv = (bn : Int) := ⟨bv.toNat, by omega⟩
  have hcb : IntKind.i64.wrap (bn : Int) = (bn : Int) := IntWalk.i64_in _ (by omega)
  obtain ⟨e8, he8⟩ : ∃ e, bn % 8 = e := ⟨_, rfl⟩
  have he8l : e8 < 8 := by rw [← he8]; exact Nat.mod_lt _ (by omega)
  have htb : Int.tmod (bn : Int) 8 = (e8 : Int) := by rw [← he8]; rfl
  obtain ⟨x, hx⟩ : ∃ x, T.getD i 0 = x := ⟨_, rfl⟩
  rw [hx] at htr
  obtain ⟨m, hm⟩ : ∃ m, (if ds[i].hi ≤ x + (e8 : Int) then ds[i].hi else x + (e8 : Int)) = m := ⟨_, rfl⟩
  have hmr : x ≤ m ∧ m ≤ ds[i].hi := by rw [← hm]; split <;> omega
  obtain ⟨U, hU⟩ : ∃ U, T.set i m = U := ⟨_, rfl⟩
  have hUtr : isTruth ds U = true := by rw [← hU]; exact truth_set hTr hi (by omega)
  have hUl : U.length = T.length := by rw [← hU]; simp
  have hUi : U.getD i 0 = m := by rw [← hU]; simp [hiT]
  have lU : U.length ≤ 1000 := by omega
  obtain ⟨S1, hS1⟩ : ∃ S, sharesF rate keeps ds[i].passed.length x = S := ⟨_, rfl⟩
  obtain ⟨S2, hS2⟩ : ∃ S, sharesF rate keeps ds[i].passed.length m = S := ⟨_, rfl⟩
  have hl1 : S1.length = ds[i].passed.length := by rw [← hS1, sharesF_len]
  have hl2 : S2.length = ds[i].passed.length := by rw [← hS2, sharesF_len]
  have hSm : ∀ k, k < S1.length → S1.getD k 0 ≤ S2.getD k 0 := fun k hk => by
    rw [← hS1, ← hS2]
    exact shares_mono G.r.1 G.k hGp hmr.1 k (by omega)
  obtain ⟨B1, hB1⟩ : ∃ B, balL rate keeps ds T n = B := ⟨_, rfl⟩
  obtain ⟨B2, hB2⟩ : ∃ B, balL rate keeps ds U n = B := ⟨_, rfl⟩
  have HA1 : Hid (balOut ⟨(n : Int), rate, keeps, ds⟩ T = B1) := Lib.hid (by rw [balOut, if_pos ⟨h0, hTr⟩]; simpa using hB1)
  have HE1 : Hid (balErr ⟨(n : Int), rate, keeps, ds⟩ T = 0) := Lib.hid (by rw [balErr, if_neg (by simpa using h0), hTr]; rfl)
  have HA2 : Hid (balOut ⟨(n : Int), rate, keeps, ds⟩ U = B2) := Lib.hid (by rw [balOut, if_pos ⟨h0, hUtr⟩]; simpa using hB2)
  have HE2 : Hid (balErr ⟨(n : Int), rate, keeps, ds⟩ U = 0) := Lib.hid (by rw [balErr, if_neg (by simpa using h0), hUtr]; rfl)
  have hb1 : B1.length = n := by rw [← hB1, balL_len]
  have hb2 : B2.length = n := by rw [← hB2, balL_len]
  have hBm : ∀ s, s < n → (ds[i].payer = (s : Int) → B2.getD s 0 ≤ B1.getD s 0) ∧ (ds[i].payer ≠ (s : Int) → B1.getD s 0 ≤ B2.getD s 0) := fun s hs => by
    rw [← hB1, ← hB2, balL_at _ _ _ _ hs, balL_at _ _ _ _ hs, hUl, hTl, ← hU]
    exact bal_more G hi hTl (by omega) (s : Int)
  have Hx1 : Hid (ds[i].lo ≤ x ∧ x ≤ ds[i].hi) := Lib.hid htr
  have Hx2 : Hid (ds[i].lo ≤ m ∧ m ≤ ds[i].hi) := Lib.hid (by omega)
  have n1 : ((S1.length : Int) != (S2.length : Int)) = false := by simp [hl1, hl2]
  have n2 : ((B1.length : Int) != (n : Int)) = false := by simp [hb1]
  have n3 : ((B2.length : Int) != (n : Int)) = false := by simp [hb2]
  obtain ⟨hi2, hhi⟩ : ∃ z, ds[i].hi = z := ⟨_, rfl⟩
  obtain ⟨py, hpy⟩ : ∃ z, ds[i].payer = z := ⟨_, rfl⟩
  rw [hhi] at hm hmr hGw
  rw [hpy] at hBm
  have wS : IntKind.i64.wrap (x + (e8 : Int)) = x + (e8 : Int) := IntWalk.i64_in _ (by omega)
  have wM : (if hi2 ≤ x + (e8 : Int) then hi2 else x + (e8 : Int)) = m := hm
  have wM2 : (if x + (e8 : Int) < hi2 then x + (e8 : Int) else hi2) = m := by rw [← hm]; split <;> split <;> omega
  have hS5 : S1.length ≤ 5 := by omega
  have lS12 : Hid (S2.length = S1.length) := Lib.hid (by omega)
  have Hhi := Lib.hid hhi
  have Hpy := Lib.hid hpy
  have HS1 := Lib.hid hS1
  have HS2 := Lib.hid hS2
  have HSm := Lib.hid hSm
  have HBm := Lib.hid hBm
  have Hb1 := Lib.hid hb1
  have Hb2 := Lib.hid hb2
  have HUi := Lib.hid hUi
  have HUl := Lib.hid hUl
  have HU2 := Lib.hid hU
  have Hxe := Lib.hid hx
  have Hm := Lib.hid hm
  clear hhi hpy hS1 hS2 hSm hBm hb1 hb2 hl1 hl2 hUi hUl hU hB1 hB2 hUtr hx hm he8 hie htr hGw hmr hz
  clear hT h0 big hu lw mw hTe hTr hTl G AO hst hwh hbv
  go_enter Try.func7, Try.ntmps7
  go_wp2_with fail
  go_at_call 38
  refine (ready_yes (n : Int) rate keeps ds ad cd _ 0 true H0 rfl HT.out (hd.below (by (repeat (first | exact Below.refl _ _ | refine Below.alloc ?_ (by first | omega | (simp; done) | (simp; omega)) _ | refine Below.drew ?_ | refine Below.setCell ?_ (by first | omega | (simp; done) | (simp; omega)) _ | refine Below.trans ?_ (Below.mono (by assumption) (by first | omega | (simp; done) | (simp; omega))))))) HB).mono ?_
  rintro e w1 ⟨rfl, b1⟩
  have t1 : Below w.heap.size w w1 := by (repeat (first | exact Below.refl _ _ | refine Below.alloc ?_ (by first | omega | (simp; done) | (simp; omega)) _ | refine Below.drew ?_ | refine Below.setCell ?_ (by first | omega | (simp; done) | (simp; omega)) _ | refine Below.trans ?_ (Below.mono (by assumption) (by first | omega | (simp; done) | (simp; omega)))))
  replace hd := hd.below t1
  replace hw := hw.below t1
  have q0 := rdy_cells b1 0 rfl
  have q1 := rdy_cells b1 1 rfl
  have q2 := rdy_cells b1 2 rfl
  have q3 := rdy_cells b1 3 rfl
  have lB := cell_ltK q0
  go_wp2_with fail
  go_at_call 39
  refine (picked_eq (n : Int) rate keeps ds ad cd _ aw ws cw T H0 HTe hd hw HU hwl).mono ?_
  rintro e w2 ⟨⟨aT, cT, rfl, iT, nT⟩, b2⟩
  have j2 : Below w1.heap.size w1 w2 := by (repeat (first | exact Below.refl _ _ | refine Below.alloc ?_ (by first | omega | (simp; done) | (simp; omega)) _ | refine Below.drew ?_ | refine Below.setCell ?_ (by first | omega | (simp; done) | (simp; omega)) _ | refine Below.trans ?_ (Below.mono (by assumption) (by first | omega | (simp; done) | (simp; omega)))))
  have t2 : Below w.heap.size w w2 := t1.trans (j2.mono t1.size)
  replace hd := hd.below j2
  replace hw := hw.below j2
  replace q0 := below_cell j2 q0
  replace q1 := below_cell j2 q1
  replace q2 := below_cell j2 q2
  replace q3 := below_cell j2 q3
  replace lB := Nat.lt_of_lt_of_le lB j2.size
  clear hw
  have kd := hd
  have kT := iT
  have k0 := q0
  have k1 := q1
  have k2 := q2
  have k3 := q3
  have kB := lB
  go_wp2_with fail
  go_at_call 22
  refine (list_own aT T cT _ iT lT nT).mono ?_
  rintro e w3 ⟨⟨aU, cU, rfl, oU⟩, b3⟩
  have j3 : Below w2.heap.size w2 w3 := by (repeat (first | exact Below.refl _ _ | refine Below.alloc ?_ (by first | omega | (simp; done) | (simp; omega)) _ | refine Below.drew ?_ | refine Below.setCell ?_ (by first | omega | (simp; done) | (simp; omega)) _ | refine Below.trans ?_ (Below.mono (by assumption) (by first | omega | (simp; done) | (simp; omega)))))
  have t3 : Below w.heap.size w w3 := t2.trans (j3.mono t2.size)
  replace hd := hd.below j3
  replace q0 := below_cell j3 q0
  replace q1 := below_cell j3 q1
  replace q2 := below_cell j3 q2
  replace q3 := below_cell j3 q3
  replace lB := Nat.lt_of_lt_of_le lB j3.size
  replace iT := iT.below j3
  obtain ⟨gU, rfl, gU1, gU2⟩ := own_some oU (by omega)
  obtain ⟨bd, od, al, cl, rfl, lbd, d0, d1, d2, d3, _⟩ := hd i hi
  rw [Hhi.out] at d2
  obtain ⟨bT, oT, rfl, lT3, c1⟩ := iT i hiT
  rw [Hxe.out] at c1
  have lg3 := cell_ltK d2
  have lg4 := cell_ltK c1
  clear d0 d1 d3
  go_wp2
  (refine wp_region_seq 19 [] [19] 197 [true, true, true, true, true, true, true, true, true, true, true, true, true, true, true, true, true, true, true] [] (by kernel_rfl) (by kernel_rfl) rfl mono_nil ?_; simp only [pickOps, List.filterMap_cons, List.filterMap_nil, List.getElem?_toArray, List.getElem?_cons_succ, List.getElem?_cons_zero]; (repeat (refine wpFl_step _ rfl (fun w => (by go_simp; rfl)) ?_)); refine wpFl_nil ?_; simp only [maskOps, dummy, Act.put, List.setIfInBounds_toArray, List.set_cons_zero, List.set_cons_succ, List.take_succ_cons, List.take_zero, List.drop_succ_cons, List.drop_zero]; (repeat (refine wpQB_step (fun K hK => ?_); go_simp; first | (refine hK _ ?_; clear hK K) | (apply Exists.intro; refine ⟨fun ex => ?_, hK _ ?_⟩; (fail); clear hK K))); refine wpQB_nil ?_; simp only [relObl2, under, relEnd, and_true, List.nil_append, List.cons_append])
  refine ⟨trivial, fun ex => ?_⟩
  have hex := ex.below
  obtain ⟨X4, hX4⟩ : ∃ x : World, x = ex.to := ⟨_, rfl⟩
  rw [← hX4] at hex ⊢
  clear hX4 ex
  have oU4 := oU.kept hex
  obtain ⟨fX, eX⟩ := own_cell oU4 i hiT
  have oU6 := own_setCell oU4 i (.int .i64 m)
  rw [← List.map_set, HU2.out] at oU6
  have bS : Below w2.heap.size w2 (X4.setCell ⟨gU, i, none⟩ (.int .i64 m)) := (b3.trans (hex.mono b3.size)).setCell (p := ⟨gU, i, none⟩) gU1 (.int .i64 m)
  obtain ⟨X6, hX6⟩ : ∃ z : World, z = X4.setCell ⟨gU, i, none⟩ (.int .i64 m) := ⟨_, rfl⟩
  rw [← hX6] at oU6 bS
  go_upto_region 7 with fail
  rw [← hX6]
  clear hX6
  replace hd := kd.below bS
  replace iT := kT.below bS
  replace q0 := below_cell bS k0
  replace q1 := below_cell bS k1
  replace q2 := below_cell bS k2
  replace q3 := below_cell bS k3
  replace lB := Nat.lt_of_lt_of_le kB bS.size
  have tX := t2.trans (bS.mono t2.size)
  clear kd kT k0 k1 k2 k3 kB fX eX c1 d2 oU oU4 gU2 hex lg3 lg4 lT3 lbd
  have iU := oU6.ints.1
  obtain ⟨fU, c2⟩ := own_cell oU6 i (by rw [HUl.out]; exact hiT)
  rw [HUi.out] at c2
  obtain ⟨bT, oT, e1, _, c1⟩ := iT i hiT
  cases e1
  rw [Hxe.out] at c1
  have lgU := cell_ltK c2
  clear fU oU6
  have sh1 := fun W (b : Below X6.heap.size X6 W) a c (hA : DisAt W a ds) => shares_in (n : Int) rate keeps ds a c W i x S1 H0 hi Hx1 HS1 hA SM
  have ac1 := fun W (b : Below X6.heap.size X6 W) => account_eq (n : Int) rate keeps ds (some ⟨bd, od, none⟩) cd W (hd.below b) SM
  have lbT := cell_ltK c1
  go_wp2
  (refine wp_region_seq 13 [] [] 197 [true, false, true, true, true, true, true, false, false, false, false, false, false] [AccW (n : Int) rate keeps ds, TupV S1 0, TupV S1 0, SlV S1, IntV 0, SlV S1, IntV 0] (by kernel_rfl) (by kernel_rfl) rfl (mono_cons (fun v w w' h hb => h.kept hb) (mono_cons (fun v w w' h hb => h.kept hb) (mono_cons (fun v w w' h hb => h.kept hb) (mono_cons (fun v w w' h hb => h.kept hb) (mono_cons (fun v w w' h hb => h.kept hb) (mono_cons (fun v w w' h hb => h.kept hb) (mono_cons (fun v w w' h hb => h.kept hb) mono_nil))))))) ?_; simp only [pickOps, List.filterMap_cons, List.filterMap_nil, List.getElem?_toArray, List.getElem?_cons_succ, List.getElem?_cons_zero]; (repeat (refine wpFl_step _ rfl (fun w => (by go_simp; rfl)) ?_)); refine wpFl_nil ?_; simp only [maskOps, dummy, Act.put, List.setIfInBounds_toArray, List.set_cons_zero, List.set_cons_succ, List.take_succ_cons, List.take_zero, List.drop_succ_cons, List.drop_zero]; (repeat (refine wpQB_step (fun K hK => ?_); go_simp; first | (refine hK _ ?_; clear hK K) | (apply Exists.intro; refine ⟨fun ex => ?_, hK _ ?_⟩; (fail); clear hK K))); refine wpQB_nil ?_; simp only [relObl2_t, relObl2_f, relObl2_n, under_c, under_n, relEnd_t, relEnd_f, relEnd_n, and_true, List.nil_append, List.cons_append])
  refine ⟨⟨?_, ?_, ?_, ?_, ?_, ?_, ?_⟩, ?_⟩
  · intro e
    refine ⟨?_⟩
    go_simp
    refine (ac1 _ e.below).mono ?_
    rintro _ _ ⟨⟨a, c, rfl, hA⟩, hb⟩
    exact ⟨hb, a, c, rfl, hA⟩
  · intro e v1 h1
    obtain ⟨a, c, rfl, hA⟩ := h1 (by kernel_rfl)
    refine ⟨?_⟩
    go_simp
    refine (sh1 _ e.below a c hA).mono ?_
    rintro _ _ ⟨⟨a, c, rfl, hA⟩, hb⟩
    exact ⟨hb, a, c, rfl, hA⟩
  · intro e v1 _ v2 h2
    refine ⟨?_⟩
    go_simp
    exact ⟨Below.refl _ _, h2 (by kernel_rfl)⟩
  · intro e v1 _ v2 _ v3 h3
    obtain ⟨a, c, rfl, hA⟩ := h3 (by kernel_rfl)
    refine ⟨?_⟩
    go_simp
    exact ⟨Below.refl _ _, a, c, rfl, hA⟩
  · intro e v1 _ v2 _ v3 h3 v4 _
    obtain ⟨a, c, rfl, hA⟩ := h3 (by kernel_rfl)
    refine ⟨?_⟩
    go_simp
    exact ⟨Below.refl _ _, rfl⟩
  · intro e v1 _ v2 _ v3 _ v4 h4 v5 _
    refine ⟨?_⟩
    go_simp
    exact ⟨Below.refl _ _, h4 (by kernel_rfl)⟩
  · intro e v1 _ v2 _ v3 _ v4 _ v5 h5 v6 _
    refine ⟨?_⟩
    go_simp
    exact ⟨Below.refl _ _, h5 (by kernel_rfl)⟩
  intro e
  rintro v1 - v2 - v3 - v4 - v5 - v6 hv v7 hv7
  refine ⟨?_⟩
  simp only [Act.put, List.setIfInBounds_toArray, List.set_cons_zero, List.set_cons_succ]
  have he5 := e.below
  obtain ⟨W5, hw5⟩ : ∃ x : World, x = e.to := ⟨_, rfl⟩
  rw [← hw5] at he5 hv hv7 ⊢
  clear hw5 e sh1 ac1
  obtain ⟨aS1, cS1, rfl, iS1⟩ := hv
  obtain rfl : v7 = .int .i64 0 := hv7
  have e1 := he5
  obtain ⟨y1, hwq⟩ : ∃ x : World, x = W5 := ⟨_, rfl⟩
  subst hwq
  have s1 : Below X6.heap.size X6 y1 := by (repeat (first | exact Below.refl _ _ | refine Below.alloc ?_ (by first | omega | (simp; done) | (simp; omega)) _ | refine Below.drew ?_ | refine Below.setCell ?_ (by first | omega | (simp; done) | (simp; omega)) _ | refine Below.trans ?_ (Below.mono (by assumption) (by first | omega | (simp; done) | (simp; omega)))))
  replace hd := hd.below s1
  replace iT := iT.below s1
  replace iU := iU.below s1
  replace q0 := below_cell s1 q0
  replace q1 := below_cell s1 q1
  replace q2 := below_cell s1 q2
  replace q3 := below_cell s1 q3
  replace c1 := below_cell s1 c1
  replace c2 := below_cell s1 c2
  replace lB := Nat.lt_of_lt_of_le lB s1.size
  replace lgU := Nat.lt_of_lt_of_le lgU s1.size
  replace lbT := Nat.lt_of_lt_of_le lbT s1.size
  have sh2 := fun W (b : Below y1.heap.size y1 W) a c (hA : DisAt W a ds) => shares_in (n : Int) rate keeps ds a c W i m S2 H0 hi Hx2 HS2 hA SM
  have ac2 := fun W (b : Below y1.heap.size y1 W) => account_eq (n : Int) rate keeps ds (some ⟨bd, od, none⟩) cd W (hd.below b) SM
  go_wp2
  (refine wp_region_seq 13 [] [] 197 [true, false, true, true, true, true, true, false, false, false, false, false, false] [AccW (n : Int) rate keeps ds, TupV S2 0, TupV S2 0, SlV S2, IntV 0, SlV S2, IntV 0] (by kernel_rfl) (by kernel_rfl) rfl (mono_cons (fun v w w' h hb => h.kept hb) (mono_cons (fun v w w' h hb => h.kept hb) (mono_cons (fun v w w' h hb => h.kept hb) (mono_cons (fun v w w' h hb => h.kept hb) (mono_cons (fun v w w' h hb => h.kept hb) (mono_cons (fun v w w' h hb => h.kept hb) (mono_cons (fun v w w' h hb => h.kept hb) mono_nil))))))) ?_; simp only [pickOps, List.filterMap_cons, List.filterMap_nil, List.getElem?_toArray, List.getElem?_cons_succ, List.getElem?_cons_zero]; (repeat (refine wpFl_step _ rfl (fun w => (by go_simp; rfl)) ?_)); refine wpFl_nil ?_; simp only [maskOps, dummy, Act.put, List.setIfInBounds_toArray, List.set_cons_zero, List.set_cons_succ, List.take_succ_cons, List.take_zero, List.drop_succ_cons, List.drop_zero]; (repeat (refine wpQB_step (fun K hK => ?_); go_simp; first | (refine hK _ ?_; clear hK K) | (apply Exists.intro; refine ⟨fun ex => ?_, hK _ ?_⟩; (fail); clear hK K))); refine wpQB_nil ?_; simp only [relObl2_t, relObl2_f, relObl2_n, under_c, under_n, relEnd_t, relEnd_f, relEnd_n, and_true, List.nil_append, List.cons_append])
  refine ⟨⟨?_, ?_, ?_, ?_, ?_, ?_, ?_⟩, ?_⟩
  · intro e
    refine ⟨?_⟩
    go_simp
    refine (ac2 _ e.below).mono ?_
    rintro _ _ ⟨⟨a, c, rfl, hA⟩, hb⟩
    exact ⟨hb, a, c, rfl, hA⟩
  · intro e v1 h1
    obtain ⟨a, c, rfl, hA⟩ := h1 (by kernel_rfl)
    refine ⟨?_⟩
    go_simp
    refine (sh2 _ e.below a c hA).mono ?_
    rintro _ _ ⟨⟨a, c, rfl, hA⟩, hb⟩
    exact ⟨hb, a, c, rfl, hA⟩
  · intro e v1 _ v2 h2
    refine ⟨?_⟩
    go_simp
    exact ⟨Below.refl _ _, h2 (by kernel_rfl)⟩
  · intro e v1 _ v2 _ v3 h3
    obtain ⟨a, c, rfl, hA⟩ := h3 (by kernel_rfl)
    refine ⟨?_⟩
    go_simp
    exact ⟨Below.refl _ _, a, c, rfl, hA⟩
  · intro e v1 _ v2 _ v3 h3 v4 _
    obtain ⟨a, c, rfl, hA⟩ := h3 (by kernel_rfl)
    refine ⟨?_⟩
    go_simp
    exact ⟨Below.refl _ _, rfl⟩
  · intro e v1 _ v2 _ v3 _ v4 h4 v5 _
    refine ⟨?_⟩
    go_simp
    exact ⟨Below.refl _ _, h4 (by kernel_rfl)⟩
  · intro e v1 _ v2 _ v3 _ v4 _ v5 h5 v6 _
    refine ⟨?_⟩
    go_simp
    exact ⟨Below.refl _ _, h5 (by kernel_rfl)⟩
  intro e
  rintro v1 - v2 - v3 - v4 - v5 - v6 hv v7 hv7
  refine ⟨?_⟩
  simp only [Act.put, List.setIfInBounds_toArray, List.set_cons_zero, List.set_cons_succ]
  have he5 := e.below
  obtain ⟨W5, hw5⟩ : ∃ x : World, x = e.to := ⟨_, rfl⟩
  rw [← hw5] at he5 hv hv7 ⊢
  clear hw5 e sh2 ac2
  obtain ⟨aS2, cS2, rfl, iS2⟩ := hv
  obtain rfl : v7 = .int .i64 0 := hv7
  have e2 := he5
  obtain ⟨y2, hwq⟩ : ∃ x : World, x = W5 := ⟨_, rfl⟩
  subst hwq
  have r2 : Below y1.heap.size y1 y2 := by (repeat (first | exact Below.refl _ _ | refine Below.alloc ?_ (by first | omega | (simp; done) | (simp; omega)) _ | refine Below.drew ?_ | refine Below.setCell ?_ (by first | omega | (simp; done) | (simp; omega)) _ | refine Below.trans ?_ (Below.mono (by assumption) (by first | omega | (simp; done) | (simp; omega)))))
  have s2 : Below X6.heap.size X6 y2 := s1.trans (r2.mono s1.size)
  replace hd := hd.below r2
  replace iT := iT.below r2
  replace iU := iU.below r2
  replace q0 := below_cell r2 q0
  replace q1 := below_cell r2 q1
  replace q2 := below_cell r2 q2
  replace q3 := below_cell r2 q3
  replace c1 := below_cell r2 c1
  replace c2 := below_cell r2 c2
  replace lB := Nat.lt_of_lt_of_le lB r2.size
  replace lgU := Nat.lt_of_lt_of_le lgU r2.size
  replace lbT := Nat.lt_of_lt_of_le lbT r2.size
  replace iS1 := iS1.below r2
  go_wp2_with fail
  go_at_call 19
  refine (account_eq (n : Int) rate keeps ds (some ⟨bd, od, none⟩) cd _ hd SM).mono ?_
  rintro e y3 ⟨⟨aP, cP, rfl, dP⟩, e3⟩
  have r3 : Below y2.heap.size y2 y3 := by (repeat (first | exact Below.refl _ _ | refine Below.alloc ?_ (by first | omega | (simp; done) | (simp; omega)) _ | refine Below.drew ?_ | refine Below.setCell ?_ (by first | omega | (simp; done) | (simp; omega)) _ | refine Below.trans ?_ (Below.mono (by assumption) (by first | omega | (simp; done) | (simp; omega)))))
  have s3 : Below X6.heap.size X6 y3 := s2.trans (r3.mono s2.size)
  replace hd := hd.below r3
  replace iT := iT.below r3
  replace iU := iU.below r3
  replace q0 := below_cell r3 q0
  replace q1 := below_cell r3 q1
  replace q2 := below_cell r3 q2
  replace q3 := below_cell r3 q3
  replace c1 := below_cell r3 c1
  replace c2 := below_cell r3 c2
  replace lB := Nat.lt_of_lt_of_le lB r3.size
  replace lgU := Nat.lt_of_lt_of_le lgU r3.size
  replace lbT := Nat.lt_of_lt_of_le lbT r3.size
  replace iS1 := iS1.below r3
  replace iS2 := iS2.below r3
  go_wp2_with fail
  go_at_call 22
  refine (list_eq _ _ T cT iT lT nT).mono ?_
  rintro e y4 ⟨⟨aL, cL, rfl, iL, nL⟩, e4⟩
  have r4 : Below y3.heap.size y3 y4 := by (repeat (first | exact Below.refl _ _ | refine Below.alloc ?_ (by first | omega | (simp; done) | (simp; omega)) _ | refine Below.drew ?_ | refine Below.setCell ?_ (by first | omega | (simp; done) | (simp; omega)) _ | refine Below.trans ?_ (Below.mono (by assumption) (by first | omega | (simp; done) | (simp; omega)))))
  have s4 : Below X6.heap.size X6 y4 := s3.trans (r4.mono s3.size)
  replace hd := hd.below r4
  replace iT := iT.below r4
  replace iU := iU.below r4
  replace q0 := below_cell r4 q0
  replace q1 := below_cell r4 q1
  replace q2 := below_cell r4 q2
  replace q3 := below_cell r4 q3
  replace c1 := below_cell r4 c1
  replace c2 := below_cell r4 c2
  replace lB := Nat.lt_of_lt_of_le lB r4.size
  replace lgU := Nat.lt_of_lt_of_le lgU r4.size
  replace lbT := Nat.lt_of_lt_of_le lbT r4.size
  replace iS1 := iS1.below r4
  replace iS2 := iS2.below r4
  replace dP := dP.below r4
  go_wp2_with fail
  go_at_call 21
  refine (bal_eq (n : Int) rate keeps ds aP cP _ aL T cL B1 0 H0 HA1 HE1 dP SM iL lT).mono ?_
  rintro e y5 ⟨⟨aB1, cB1, rfl, iB1⟩, e5⟩
  have r5 : Below y4.heap.size y4 y5 := by (repeat (first | exact Below.refl _ _ | refine Below.alloc ?_ (by first | omega | (simp; done) | (simp; omega)) _ | refine Below.drew ?_ | refine Below.setCell ?_ (by first | omega | (simp; done) | (simp; omega)) _ | refine Below.trans ?_ (Below.mono (by assumption) (by first | omega | (simp; done) | (simp; omega)))))
  have s5 : Below X6.heap.size X6 y5 := s4.trans (r5.mono s4.size)
  replace hd := hd.below r5
  replace iT := iT.below r5
  replace iU := iU.below r5
  replace q0 := below_cell r5 q0
  replace q1 := below_cell r5 q1
  replace q2 := below_cell r5 q2
  replace q3 := below_cell r5 q3
  replace c1 := below_cell r5 c1
  replace c2 := below_cell r5 c2
  replace lB := Nat.lt_of_lt_of_le lB r5.size
  replace lgU := Nat.lt_of_lt_of_le lgU r5.size
  replace lbT := Nat.lt_of_lt_of_le lbT r5.size
  replace iS1 := iS1.below r5
  replace iS2 := iS2.below r5
  replace dP := dP.below r5
  replace iL := iL.below r5
  clear dP iL
  go_wp2_with fail
  go_at_call 19
  refine (account_eq (n : Int) rate keeps ds (some ⟨bd, od, none⟩) cd _ hd SM).mono ?_
  rintro e y6 ⟨⟨aQ, cQ, rfl, dQ⟩, e6⟩
  have r6 : Below y5.heap.size y5 y6 := by (repeat (first | exact Below.refl _ _ | refine Below.alloc ?_ (by first | omega | (simp; done) | (simp; omega)) _ | refine Below.drew ?_ | refine Below.setCell ?_ (by first | omega | (simp; done) | (simp; omega)) _ | refine Below.trans ?_ (Below.mono (by assumption) (by first | omega | (simp; done) | (simp; omega)))))
  have s6 : Below X6.heap.size X6 y6 := s5.trans (r6.mono s5.size)
  replace hd := hd.below r6
  replace iT := iT.below r6
  replace iU := iU.below r6
  replace q0 := below_cell r6 q0
  replace q1 := below_cell r6 q1
  replace q2 := below_cell r6 q2
  replace q3 := below_cell r6 q3
  replace c1 := below_cell r6 c1
  replace c2 := below_cell r6 c2
  replace lB := Nat.lt_of_lt_of_le lB r6.size
  replace lgU := Nat.lt_of_lt_of_le lgU r6.size
  replace lbT := Nat.lt_of_lt_of_le lbT r6.size
  replace iS1 := iS1.below r6
  replace iS2 := iS2.below r6
  replace iB1 := iB1.below r6
  rw [show T.length = U.length from HUl.out.symm]
  go_wp2_with fail
  go_at_call 22
  refine (list_eq _ _ U cU iU lU (fun h => by cases h)).mono ?_
  rintro e y7 ⟨⟨aM, cM, rfl, iM, nM⟩, e7⟩
  have r7 : Below y6.heap.size y6 y7 := by (repeat (first | exact Below.refl _ _ | refine Below.alloc ?_ (by first | omega | (simp; done) | (simp; omega)) _ | refine Below.drew ?_ | refine Below.setCell ?_ (by first | omega | (simp; done) | (simp; omega)) _ | refine Below.trans ?_ (Below.mono (by assumption) (by first | omega | (simp; done) | (simp; omega)))))
  have s7 : Below X6.heap.size X6 y7 := s6.trans (r7.mono s6.size)
  replace hd := hd.below r7
  replace iT := iT.below r7
  replace iU := iU.below r7
  replace q0 := below_cell r7 q0
  replace q1 := below_cell r7 q1
  replace q2 := below_cell r7 q2
  replace q3 := below_cell r7 q3
  replace c1 := below_cell r7 c1
  replace c2 := below_cell r7 c2
  replace lB := Nat.lt_of_lt_of_le lB r7.size
  replace lgU := Nat.lt_of_lt_of_le lgU r7.size
  replace lbT := Nat.lt_of_lt_of_le lbT r7.size
  replace iS1 := iS1.below r7
  replace iS2 := iS2.below r7
  replace iB1 := iB1.below r7
  replace dQ := dQ.below r7
  go_wp2_with fail
  go_at_call 21
  refine (bal_eq (n : Int) rate keeps ds aQ cQ _ aM U cM B2 0 H0 HA2 HE2 dQ SM iM lU).mono ?_
  rintro e y8 ⟨⟨aB2, cB2, rfl, iB2⟩, e8⟩
  have r8 : Below y7.heap.size y7 y8 := by (repeat (first | exact Below.refl _ _ | refine Below.alloc ?_ (by first | omega | (simp; done) | (simp; omega)) _ | refine Below.drew ?_ | refine Below.setCell ?_ (by first | omega | (simp; done) | (simp; omega)) _ | refine Below.trans ?_ (Below.mono (by assumption) (by first | omega | (simp; done) | (simp; omega)))))
  have s8 : Below X6.heap.size X6 y8 := s7.trans (r8.mono s7.size)
  replace hd := hd.below r8
  replace iT := iT.below r8
  replace iU := iU.below r8
  replace q0 := below_cell r8 q0
  replace q1 := below_cell r8 q1
  replace q2 := below_cell r8 q2
  replace q3 := below_cell r8 q3
  replace c1 := below_cell r8 c1
  replace c2 := below_cell r8 c2
  replace lB := Nat.lt_of_lt_of_le lB r8.size
  replace lgU := Nat.lt_of_lt_of_le lgU r8.size
  replace lbT := Nat.lt_of_lt_of_le lbT r8.size
  replace iS1 := iS1.below r8
  replace iS2 := iS2.below r8
  replace iB1 := iB1.below r8
  replace dQ := dQ.below r8
  replace iM := iM.below r8
  clear dQ iM
  have tY : Below w.heap.size w y8 := tX.trans (s8.mono tX.size)
  go_wp2
  go_loopw [20] (fun v X => ∃ k : Nat, k ≤ S1.length ∧ v = .int .i64 k ∧ Below y8.heap.size y8 X) (fun v _ => S1.length - (intOf v).toNat)
  case atStart => exact ⟨0, Nat.zero_le _, rfl, Below.refl _ _⟩
  case round =>
    obtain ⟨k, hk, rfl, hbX⟩ := hrel
    rename World => X
    by_cases hlt : k < S1.length
    · have hkI : (k : Int) < (S1.length : Int) := by omega
      have hkI2 : (k : Int) < (S2.length : Int) := by rw [lS12.out]; exact hkI
      obtain ⟨g1, o1, rfl, _, z1⟩ := (iS1.below hbX) k hlt
      obtain ⟨g2, o2, rfl, _, z2⟩ := (iS2.below hbX) k (by rw [lS12.out]; exact hlt)
      have hle := HSm.out k hlt
      obtain ⟨v1, hv1⟩ : ∃ v, S1.getD k 0 = v := ⟨_, rfl⟩
      obtain ⟨v2, hv2⟩ : ∃ v, S2.getD k 0 = v := ⟨_, rfl⟩
      rw [hv1] at z1 hle
      rw [hv2] at z2 hle
      have f1 : decide (v2 < v1) = false := by simpa using hle
      have l1 := cell_ltK z1
      have l2 := cell_ltK z2
      clear hv1 hv2 hle
      go_wp2
      (refine wp_region_ext 9 (by kernel_rfl) (by kernel_rfl) ?_; simp only [List.take_succ_cons, List.take_zero, List.drop_succ_cons, List.drop_zero]; (repeat (go_big_quiet_step ((fail)))); refine wpQuiet_nil ?_; rintro _ ⟨ex, rfl⟩; have hex := ex.below; have hexz := ex.size; (try simp at hexz); (try (have hy0 : w.heap.size < ex.to.heap.size := by omega)); (try (have hy1 : w.heap.size + 1 < ex.to.heap.size := by omega)); (try (have hy2 : w.heap.size + 2 < ex.to.heap.size := by omega)))
      go_wp2
      go_roundw
      case rel => exact ⟨k + 1, by omega, by go_num, hbX.trans (ex.below.mono hbX.size)⟩
      case measure => simp [intOf]; omega
    · obtain rfl : k = S1.length := by omega
      replace iB1 := iB1.below hbX
      replace iB2 := iB2.below hbX
      replace hd := hd.below hbX
      replace q0 := below_cell hbX q0
      replace q3 := below_cell hbX q3
      have tZ := tY.trans (hbX.mono tY.size)
      clear hbX
      go_wp2
      go_loopw [21] (fun v Y => ∃ k : Nat, k ≤ n ∧ v = .int .i64 k ∧ Below X.heap.size X Y) (fun v _ => n - (intOf v).toNat)
      case atStart => exact ⟨0, Nat.zero_le _, rfl, Below.refl _ _⟩
      case round =>
        obtain ⟨s, hs, rfl, hbX⟩ := hrel
        rename World => Y
        replace q0 := below_cell hbX q0
        replace q3 := below_cell hbX q3
        have lq0 := cell_ltK q0
        by_cases hlt : s < n
        · have hkI : (s : Int) < (n : Int) := by omega
          have hk1 : (s : Int) < (B1.length : Int) := by rw [Hb1.out]; exact hkI
          have hk2 : (s : Int) < (B2.length : Int) := by rw [Hb2.out]; exact hkI
          obtain ⟨g1, o1, rfl, _, z1⟩ := (iB1.below hbX) s (by rw [Hb1.out]; exact hlt)
          obtain ⟨g2, o2, rfl, _, z2⟩ := (iB2.below hbX) s (by rw [Hb2.out]; exact hlt)
          obtain ⟨_, _, _, _, e1, _, d0, _, _, _, _⟩ := (hd.below hbX) i hi
          cases e1
          rw [Hpy.out] at d0
          have hle := HBm.out s hlt
          obtain ⟨v1, hv1⟩ : ∃ v, B1.getD s 0 = v := ⟨_, rfl⟩
          obtain ⟨v2, hv2⟩ : ∃ v, B2.getD s 0 = v := ⟨_, rfl⟩
          rw [hv1] at z1 hle
          rw [hv2] at z2 hle
          have l1 := cell_ltK z1
          have l2 := cell_ltK z2
          have l3 := cell_ltK d0
          clear hv1 hv2
          by_cases hp : py = (s : Int)
          · have f1 : decide (v1 < v2) = false := by simpa using hle.1 hp
            subst hp
            have p1 : ((s : Int) == (s : Int)) = true := by simp
            have p2 : ((s : Int) != (s : Int)) = false := by simp
            clear hle
            go_wp2
            (refine wp_region_ext 40 (by kernel_rfl) (by kernel_rfl) ?_; simp only [List.take_succ_cons, List.take_zero, List.drop_succ_cons, List.drop_zero]; (repeat (go_big_quiet_step ((fail)))); refine wpQuiet_nil ?_; rintro _ ⟨ex, rfl⟩; have hex := ex.below; have hexz := ex.size; (try simp at hexz); (try (have hy0 : w.heap.size < ex.to.heap.size := by omega)); (try (have hy1 : w.heap.size + 1 < ex.to.heap.size := by omega)); (try (have hy2 : w.heap.size + 2 < ex.to.heap.size := by omega)))
            go_wp2
            go_roundw
            case rel => exact ⟨s + 1, by omega, by go_num, hbX.trans (ex.below.mono hbX.size)⟩
            case measure => simp [intOf]; omega
          · have f1 : decide (v2 < v1) = false := by simpa using hle.2 hp
            have p1 : ((s : Int) == py) = false := by simpa using Ne.symm hp
            have p2 : ((s : Int) != py) = true := by simpa using Ne.symm hp
            clear hle hp
            go_wp2
            (refine wp_region_ext 40 (by kernel_rfl) (by kernel_rfl) ?_; simp only [List.take_succ_cons, List.take_zero, List.drop_succ_cons, List.drop_zero]; (repeat (go_big_quiet_step ((fail)))); refine wpQuiet_nil ?_; rintro _ ⟨ex, rfl⟩; have hex := ex.below; have hexz := ex.size; (try simp at hexz); (try (have hy0 : w.heap.size < ex.to.heap.size := by omega)); (try (have hy1 : w.heap.size + 1 < ex.to.heap.size := by omega)); (try (have hy2 : w.heap.size + 2 < ex.to.heap.size := by omega)))
            go_wp2
            go_roundw
            case rel => exact ⟨s + 1, by omega, by go_num, hbX.trans (ex.below.mono hbX.size)⟩
            case measure => simp [intOf]; omega
        · obtain rfl : s = n := by omega
          have tW := tZ.trans (hbX.mono tZ.size)
          go_wp2_with fail
          go_at_call 17
          refine (awake_any _).mono ?_
          rintro e wz ⟨rfl, bz⟩
          go_wp2_with fail
          go_ret
          exact ⟨rfl, tW.trans (bz.mono tW.size)⟩
theorem more_walk (st rate keeps : Int) (ds : List Dis) (ad : Option Addr) (cd : Nat) (aw : Option Addr) (ws : List Int) (cw : Nat) (wh bv : Int) (w : World) (hd : DisAt w ad ds) (big : AccBig ds) (hw : U16At w aw ws) (nw : aw = none → cw = 0) (lw : ws.length ≤ cw) (mw : cw ≤ maxLen) (hu : ∀ n ∈ ws, 0 ≤ n ∧ n ≤ 65535) (hwh : 0 ≤ wh ∧ wh ≤ 255) (hbv : 0 ≤ bv ∧ bv ≤ 255) :
    Calls Try.prog 7 #[.agg #[.int .i64 st, .int .i64 rate, .int .i64 keeps, .slice ad ds.length cd], .slice aw ws.length cw, .int .u8 wh, .int .u8 bv] w fun e w' => e = .returned (.bool true) ∧ Below w.heap.size w w' := by
  by_cases hT : thinB ds = true
  · by_cases h0 : accErr ⟨st, rate, keeps, ds⟩ = 0
    · by_cases hz : ds.length = 0
      · exact more_a3 st rate keeps ds ad cd aw ws cw wh bv w hd big hw nw lw mw hu hwh hbv hT h0 hz
      · exact more_b st rate keeps ds ad cd aw ws cw wh bv w hd big hw nw lw mw hu hwh hbv hT h0 hz
    · exact more_a2 st rate keeps ds ad cd aw ws cw wh bv w hd big hw nw lw mw hu hwh hbv hT h0
  · exact more_a1 st rate keeps ds ad cd aw ws cw wh bv w hd big hw nw lw mw hu hwh hbv (by simpa using hT)
end Go.Proofs.Ytomjlmhnjgohdaa
