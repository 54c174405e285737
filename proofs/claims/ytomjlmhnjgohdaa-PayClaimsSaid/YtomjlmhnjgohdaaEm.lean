/- PayClaims: the walk -/
import Derived.Test.YtomjlmhnjgohdaaIa
import Derived.Test.YtomjlmhnjgohdaaHe
import Derived.Test.YtomjlmhnjgohdaaIe
namespace Go.Proofs.Ytomjlmhnjgohdaa
set_option linter.unusedVariables false
set_option linter.unusedSimpArgs false
set_option linter.unnecessarySimpa false
open Go.RowKit Go.Flow Go.Shelf

section
variable (st rate keeps : Int) (ds : List Dis) (ad : Option Addr) (cd : Nat) (w : World)
theorem words_eq (i k : Nat) (x : Int) (cs cp : Int) (F : List Int) (H0 : Hid (accErr ⟨st, rate, keeps, ds⟩ = 0)) (hi : i < ds.length) (Hk : Hid (∃ h : k < ds[i].passed.length, ds[i].passed[k] = cs)) (Hp : Hid ((sharesF rate keeps ds[i].passed.length x).getD k 0 = cp)) (Hx : Hid (ds[i].lo ≤ x ∧ x ≤ ds[i].hi)) (HF : Hid (clF rate keeps ds[i] x k = F)) (hd : DisAt w ad ds) (SM : Hid (AccSmall ⟨st, rate, keeps, ds⟩)) :
    Calls Try.prog 29 #[.agg #[.int .i64 st, .int .i64 rate, .int .i64 keeps, .slice ad ds.length cd], .agg #[.int .i64 (i : Int), .int .i64 cs, .int .i64 cp]] w fun e w' => (∃ a c, e = .returned (.tuple #[.slice a F.length c, .int .i64 0]) ∧ OwnL 3 1 w.heap.size w' a c F.length (F.map (Value.int .i64))) ∧ Below w.heap.size w w' := by
  obtain ⟨hk, hc⟩ := Hk.out
  have A := accErr_ok H0.out
  have hn := (disB_ok (A.dis _ (List.getElem_mem hi))).nd
  have hx := Hx.out
  have e1 : idxF ds[i].passed cs = (k : Int) := by rw [← hc]; exact idxF_at hn hk
  have e2 : wordsOut rate keeps ds[i] cs cp = F := by
    rw [wordsOut, e1, if_neg (by omega), ← HF.out, clF, Hp.out, Int.toNat_natCast]
  have hm : x ∈ F := by rw [← HF.out]; exact (clF_mem hx).2 rfl
  have e3 : wordsErr rate keeps ds[i] cs cp = 0 := by
    have h2 := e2
    rw [wordsOut, e1, if_neg (by omega)] at h2
    rw [wordsErr, e1, if_neg (by omega), h2, err11, if_neg (fun e => by rw [e] at hm; cases hm)]
  have := Words_own st rate keeps ds ad cd i cs cp w hd SM.out H0.out hi
  rw [e2, e3] at this
  exact this
end
def TupO (B : Nat) (S : List Int) (v : Value) (w : World) : Prop := ∃ a c, v = .tuple #[.slice a S.length c, .int .i64 0] ∧ OwnL 3 1 B w a c S.length (S.map (Value.int .i64))
theorem TupO.kept {B : Nat} {S : List Int} {v : Value} {w w' : World} (h : TupO B S v w) (hb : Below w.heap.size w w') : TupO B S v w' := let ⟨a, c, h1, h2⟩ := h; ⟨a, c, h1, h2.kept hb⟩
def SlO (B : Nat) (S : List Int) (v : Value) (w : World) : Prop := ∃ a c, v = .slice a S.length c ∧ OwnL 3 1 B w a c S.length (S.map (Value.int .i64))
theorem SlO.kept {B : Nat} {S : List Int} {v : Value} {w w' : World} (h : SlO B S v w) (hb : Below w.heap.size w w') : SlO B S v w' := let ⟨a, c, h1, h2⟩ := h; ⟨a, c, h1, h2.kept hb⟩
set_option maxRecDepth 100000 in
set_option maxHeartbeats 8000000 in
theorem claims_a1 (st rate keeps : Int) (ds : List Dis) (ad : Option Addr) (cd : Nat) (aw : Option Addr) (ws : List Int) (cw : Nat) (wh : Int) (w : World) (hd : DisAt w ad ds) (big : AccBig ds) (hw : U16At w aw ws) (nw : aw = none → cw = 0) (lw : ws.length ≤ cw) (mw : cw ≤ maxLen) (hu : ∀ n ∈ ws, 0 ≤ n ∧ n ≤ 65535) (hwh : 0 ≤ wh ∧ wh ≤ 255) (hT : thinB ds = false) :
    Calls Try.prog 6 #[.agg #[.int .i64 st, .int .i64 rate, .int .i64 keeps, .slice ad ds.length cd], .slice aw ws.length cw, .int .u8 wh] w fun e w' => e = .returned (.bool true) ∧ Below w.heap.size w w' := by
  have HB := Lib.hid big
  have HT := Lib.hid hT
  clear hT big hu lw mw hwh
  go_enter Try.func6, Try.ntmps6
  go_wp2_with fail
  go_at_call 38
  refine (ready_no st rate keeps ds ad cd _ HT (hd.below (by (repeat (first | exact Below.refl _ _ | refine Below.alloc ?_ (by first | omega | (simp; done) | (simp; omega)) _ | refine Below.drew ?_ | refine Below.setCell ?_ (by first | omega | (simp; done) | (simp; omega)) _ | refine Below.trans ?_ (Below.mono (by assumption) (by first | omega | (simp; done) | (simp; omega))))))) HB).mono ?_
  rintro e w1 ⟨rfl, b1⟩
  have t1 : Below w.heap.size w w1 := by (repeat (first | exact Below.refl _ _ | refine Below.alloc ?_ (by first | omega | (simp; done) | (simp; omega)) _ | refine Below.drew ?_ | refine Below.setCell ?_ (by first | omega | (simp; done) | (simp; omega)) _ | refine Below.trans ?_ (Below.mono (by assumption) (by first | omega | (simp; done) | (simp; omega)))))
  replace hd := hd.below t1
  replace hw := hw.below t1
  have q0 := rdy_cells b1 0 rfl
  have q1 := rdy_cells b1 1 rfl
  have q2 := rdy_cells b1 2 rfl
  have q3 := rdy_cells b1 3 rfl
  have lB := cell_ltK q0
  go_wp2_with fail
  go_at_call 17
  refine (awake_any _).mono ?_
  rintro e w2 ⟨rfl, b2⟩
  have j2 : Below w1.heap.size w1 w2 := by (repeat (first | exact Below.refl _ _ | refine Below.alloc ?_ (by first | omega | (simp; done) | (simp; omega)) _ | refine Below.drew ?_ | refine Below.setCell ?_ (by first | omega | (simp; done) | (simp; omega)) _ | refine Below.trans ?_ (Below.mono (by assumption) (by first | omega | (simp; done) | (simp; omega)))))
  have t2 : Below w.heap.size w w2 := t1.trans (j2.mono t1.size)
  replace hd := hd.below j2
  replace hw := hw.below j2
  replace q0 := below_cell j2 q0
  replace q1 := below_cell j2 q1
  replace q2 := below_cell j2 q2
  replace q3 := below_cell j2 q3
  replace lB := Nat.lt_of_lt_of_le lB j2.size
  go_wp2_with fail
  go_ret
  exact ⟨rfl, t2⟩
set_option maxRecDepth 100000 in
set_option maxHeartbeats 8000000 in
theorem claims_a2 (st rate keeps : Int) (ds : List Dis) (ad : Option Addr) (cd : Nat) (aw : Option Addr) (ws : List Int) (cw : Nat) (wh : Int) (w : World) (hd : DisAt w ad ds) (big : AccBig ds) (hw : U16At w aw ws) (nw : aw = none → cw = 0) (lw : ws.length ≤ cw) (mw : cw ≤ maxLen) (hu : ∀ n ∈ ws, 0 ≤ n ∧ n ≤ 65535) (hwh : 0 ≤ wh ∧ wh ≤ 255) (hT : thinB ds = true) (h0 : accErr ⟨st, rate, keeps, ds⟩ ≠ 0) :
    Calls Try.prog 6 #[.agg #[.int .i64 st, .int .i64 rate, .int .i64 keeps, .slice ad ds.length cd], .slice aw ws.length cw, .int .u8 wh] w fun e w' => e = .returned (.bool true) ∧ Below w.heap.size w w' := by
  have HB := Lib.hid big
  obtain ⟨E, hE⟩ : ∃ E, accErr ⟨st, rate, keeps, ds⟩ = E := ⟨_, rfl⟩
  rw [hE] at h0
  have hE0 : (E == 0) = false := by simpa using h0
  have HE := Lib.hid hE
  have HT := Lib.hid hT
  have HE0 := Lib.hid hE0
  clear hT big hu lw mw hE h0 hE0 hwh
  go_enter Try.func6, Try.ntmps6
  go_wp2_with fail
  go_at_call 38
  refine (ready_yes st rate keeps ds ad cd _ E false HE HE0.out HT.out (hd.below (by (repeat (first | exact Below.refl _ _ | refine Below.alloc ?_ (by first | omega | (simp; done) | (simp; omega)) _ | refine Below.drew ?_ | refine Below.setCell ?_ (by first | omega | (simp; done) | (simp; omega)) _ | refine Below.trans ?_ (Below.mono (by assumption) (by first | omega | (simp; done) | (simp; omega))))))) HB).mono ?_
  rintro e w1 ⟨rfl, b1⟩
  have t1 : Below w.heap.size w w1 := by (repeat (first | exact Below.refl _ _ | refine Below.alloc ?_ (by first | omega | (simp; done) | (simp; omega)) _ | refine Below.drew ?_ | refine Below.setCell ?_ (by first | omega | (simp; done) | (simp; omega)) _ | refine Below.trans ?_ (Below.mono (by assumption) (by first | omega | (simp; done) | (simp; omega)))))
  replace hd := hd.below t1
  replace hw := hw.below t1
  have q0 := rdy_cells b1 0 rfl
  have q1 := rdy_cells b1 1 rfl
  have q2 := rdy_cells b1 2 rfl
  have q3 := rdy_cells b1 3 rfl
  have lB := cell_ltK q0
  go_wp2_with fail
  go_at_call 17
  refine (awake_any _).mono ?_
  rintro e w2 ⟨rfl, b2⟩
  have j2 : Below w1.heap.size w1 w2 := by (repeat (first | exact Below.refl _ _ | refine Below.alloc ?_ (by first | omega | (simp; done) | (simp; omega)) _ | refine Below.drew ?_ | refine Below.setCell ?_ (by first | omega | (simp; done) | (simp; omega)) _ | refine Below.trans ?_ (Below.mono (by assumption) (by first | omega | (simp; done) | (simp; omega)))))
  have t2 : Below w.heap.size w w2 := t1.trans (j2.mono t1.size)
  replace hd := hd.below j2
  replace hw := hw.below j2
  replace q0 := below_cell j2 q0
  replace q1 := below_cell j2 q1
  replace q2 := below_cell j2 q2
  replace q3 := below_cell j2 q3
  replace lB := Nat.lt_of_lt_of_le lB j2.size
  go_wp2_with fail
  go_ret
  exact ⟨rfl, t2⟩
set_option maxRecDepth 100000 in
set_option maxHeartbeats 8000000 in
theorem claims_a3 (st rate keeps : Int) (ds : List Dis) (ad : Option Addr) (cd : Nat) (aw : Option Addr) (ws : List Int) (cw : Nat) (wh : Int) (w : World) (hd : DisAt w ad ds) (big : AccBig ds) (hw : U16At w aw ws) (nw : aw = none → cw = 0) (lw : ws.length ≤ cw) (mw : cw ≤ maxLen) (hu : ∀ n ∈ ws, 0 ≤ n ∧ n ≤ 65535) (hwh : 0 ≤ wh ∧ wh ≤ 255) (hT : thinB ds = true) (h0 : accErr ⟨st, rate, keeps, ds⟩ = 0) (hz : ds.length = 0) :
    Calls Try.prog 6 #[.agg #[.int .i64 st, .int .i64 rate, .int .i64 keeps, .slice ad ds.length cd], .slice aw ws.length cw, .int .u8 wh] w fun e w' => e = .returned (.bool true) ∧ Below w.heap.size w w' := by
  have HB := Lib.hid big
  have HT := Lib.hid hT
  have H0 := Lib.hid h0
  have hzb : ((ds.length : Int) == 0) = true := by simp [hz]
  clear hT big hu lw mw h0 hz hwh
  go_enter Try.func6, Try.ntmps6
  go_wp2_with fail
  go_at_call 38
  refine (ready_yes st rate keeps ds ad cd _ 0 true H0 rfl HT.out (hd.below (by (repeat (first | exact Below.refl _ _ | refine Below.alloc ?_ (by first | omega | (simp; done) | (simp; omega)) _ | refine Below.drew ?_ | refine Below.setCell ?_ (by first | omega | (simp; done) | (simp; omega)) _ | refine Below.trans ?_ (Below.mono (by assumption) (by first | omega | (simp; done) | (simp; omega))))))) HB).mono ?_
  rintro e w1 ⟨rfl, b1⟩
  have t1 : Below w.heap.size w w1 := by (repeat (first | exact Below.refl _ _ | refine Below.alloc ?_ (by first | omega | (simp; done) | (simp; omega)) _ | refine Below.drew ?_ | refine Below.setCell ?_ (by first | omega | (simp; done) | (simp; omega)) _ | refine Below.trans ?_ (Below.mono (by assumption) (by first | omega | (simp; done) | (simp; omega)))))
  replace hd := hd.below t1
  replace hw := hw.below t1
  have q0 := rdy_cells b1 0 rfl
  have q1 := rdy_cells b1 1 rfl
  have q2 := rdy_cells b1 2 rfl
  have q3 := rdy_cells b1 3 rfl
  have lB := cell_ltK q0
  go_wp2_with fail
  go_at_call 17
  refine (awake_any _).mono ?_
  rintro e w2 ⟨rfl, b2⟩
  have j2 : Below w1.heap.size w1 w2 := by (repeat (first | exact Below.refl _ _ | refine Below.alloc ?_ (by first | omega | (simp; done) | (simp; omega)) _ | refine Below.drew ?_ | refine Below.setCell ?_ (by first | omega | (simp; done) | (simp; omega)) _ | refine Below.trans ?_ (Below.mono (by assumption) (by first | omega | (simp; done) | (simp; omega)))))
  have t2 : Below w.heap.size w w2 := t1.trans (j2.mono t1.size)
  replace hd := hd.below j2
  replace hw := hw.below j2
  replace q0 := below_cell j2 q0
  replace q1 := below_cell j2 q1
  replace q2 := below_cell j2 q2
  replace q3 := below_cell j2 q3
  replace lB := Nat.lt_of_lt_of_le lB j2.size
  go_wp2_with fail
  go_ret
  exact ⟨rfl, t2⟩
set_option maxRecDepth 100000 in
set_option maxHeartbeats 8000000 in
theorem claims_b (st rate keeps : Int) (ds : List Dis) (ad : Option Addr) (cd : Nat) (aw : Option Addr) (ws : List Int) (cw : Nat) (wh : Int) (w : World) (hd : DisAt w ad ds) (big : AccBig ds) (hw : U16At w aw ws) (nw : aw = none → cw = 0) (lw : ws.length ≤ cw) (mw : cw ≤ maxLen) (hu : ∀ n ∈ ws, 0 ≤ n ∧ n ≤ 65535) (hwh : 0 ≤ wh ∧ wh ≤ 255) (hT : thinB ds = true) (h0 : accErr ⟨st, rate, keeps, ds⟩ = 0) (hz : ds.length ≠ 0) :
    Calls Try.prog 6 #[.agg #[.int .i64 st, .int .i64 rate, .int .i64 keeps, .slice ad ds.length cd], .slice aw ws.length cw, .int .u8 wh] w fun e w' => e = .returned (.bool true) ∧ Below w.heap.size w w' := by
  have HB := Lib.hid big
  have HT := Lib.hid hT
  have SM := Lib.hid (thin_small (st := st) (rate := rate) (keeps := keeps) hT)
  have H0 := Lib.hid h0
  have HU : Hid (U16s ws) := Lib.hid hu
  have hwl : ws.length ≤ 9223372036854775807 := by unfold maxLen at mw; omega
  have AO := accErr_ok h0
  have hst := AO.st
  have hn6 : ds.length ≤ 6 := AO.len
  simp only at hst
  obtain ⟨n, rfl⟩ : ∃ n : Nat, st = (n : Int) := ⟨st.toNat, by omega⟩
  have hn7 : n ≤ 7 := by omega
  have hn1 : 1 ≤ n := by omega
  have G := good_of h0
  simp only at G
  have HG := Lib.hid G
  obtain ⟨T, hTe⟩ : ∃ T, pkL ds ws = T := ⟨_, rfl⟩
  have hTr : isTruth ds T = true := by rw [← hTe]; exact pk_truth (fun d h => (G.w d h).2.1) ws
  have hTl : T.length = ds.length := by rw [← hTe, pkL_len]
  have lT : T.length ≤ 1000 := by omega
  have HTe := Lib.hid hTe
  have HTr := Lib.hid hTr
  have HTl := Lib.hid hTl
  obtain ⟨wn, rfl⟩ : ∃ wn : Nat, wh = (wn : Int) := ⟨wh.toNat, by omega⟩
  obtain ⟨i, hie⟩ : ∃ i, wn % ds.length = i := ⟨_, rfl⟩
  have hi : i < ds.length := by rw [← hie]; exact Nat.mod_lt _ (by omega)
  have hcv : IntKind.i64.wrap (wn : Int) = (wn : Int) := IntWalk.i64_in _ (by omega)
  have htm : Int.tmod (wn : Int) (ds.length : Int) = (i : Int) := by rw [← hie]; rfl
  have hnz : ¬ ((ds.length : Int) = 0) := by omega
  have hnb : ((ds.length : Int) == 0) = false := by rw [beq_eq_false_iff_ne]; exact hnz
  have hiT : i < T.length := by omega
  have hiI : (i : Int) < (ds.length : Int) := by omega
  have hiTI : (i : Int) < (T.length : Int) := by omega
  have hGw := G.w _ (List.getElem_mem hi)
  have hGp := G.p _ (List.getElem_mem hi)
  have htr := (isTruth_iff.1 hTr).2 i hi
  have HGp := Lib.hid hGp
  obtain ⟨x, hx⟩ : ∃ x, T.getD i 0 = x := ⟨_, rfl⟩
  rw [hx] at htr
  have hD := disB_ok (AO.dis _ (List.getElem_mem hi))
  obtain ⟨S, hS⟩ : ∃ S, sharesF rate keeps ds[i].passed.length x = S := ⟨_, rfl⟩
  have hSl : S.length = ds[i].passed.length := by rw [← hS, sharesF_len]
  have hS5 : S.length ≤ 5 := by omega
  have hGw2 := hGw
  obtain ⟨F, hF⟩ : ∃ F, clF rate keeps ds[i] x = F := ⟨_, rfl⟩
  have hFr : ∀ k, (F k).Pairwise (· < ·) := fun k => by rw [← hF]; exact clF_rise _ _ _ _ _
  have hFi : ∀ k, ∀ y ∈ F k, ds[i].lo ≤ y ∧ y ≤ ds[i].hi := fun k y hy => by rw [← hF] at hy; exact clF_in hy
  have hFl : ∀ k, (F k).length ≤ 200 := fun k => by
    rw [← hF]
    have := fitsL_len rate keeps ds[i] k ((sharesF rate keeps ds[i].passed.length x).getD k 0) (ds[i].hi - ds[i].lo + 1).toNat
    unfold clF; omega
  have hFa : ∀ y, ds[i].lo ≤ y → y ≤ ds[i].hi → (fitN F y S.length = S.length ↔ (y = x ∨ rate = 0)) := fun y h1 h2 => by
    rw [← hF, hSl]; exact clF_all hGp ⟨h1, h2⟩
  have Hx : Hid (ds[i].lo ≤ x ∧ x ≤ ds[i].hi) := Lib.hid htr
  have HFk : ∀ k, Hid (clF rate keeps ds[i] x k = F k) := fun k => Lib.hid (by rw [hF])
  have HSk : ∀ k, Hid ((sharesF rate keeps ds[i].passed.length x).getD k 0 = S.getD k 0) := fun k => Lib.hid (by rw [hS])
  obtain ⟨P, hP⟩ : ∃ P, ds[i].passed = P := ⟨_, rfl⟩
  rw [hP] at hSl
  have HPk : ∀ k (h : k < P.length), Hid (∃ h : k < ds[i].passed.length, ds[i].passed[k] = P.getD k 0) := fun k h => Lib.hid (by subst hP; exact ⟨h, by simp [h]⟩)
  obtain ⟨lo, hlo⟩ : ∃ z, ds[i].lo = z := ⟨_, rfl⟩
  obtain ⟨hi2, hhi⟩ : ∃ z, ds[i].hi = z := ⟨_, rfl⟩
  obtain ⟨py, hpy⟩ : ∃ z, ds[i].payer = z := ⟨_, rfl⟩
  rw [hlo, hhi] at hGw2
  have hFi2 : ∀ k, ∀ y ∈ F k, lo ≤ y ∧ y ≤ hi2 := fun k y hy => by have := hFi k y hy; rwa [hlo, hhi] at this
  have hFa2 : ∀ y, lo ≤ y → y ≤ hi2 → (fitN F y S.length = S.length ↔ (y = x ∨ rate = 0)) := fun y h1 h2 => hFa y (by rwa [hlo]) (by rwa [hhi])
  have HSl := Lib.hid hSl
  have nS : ((S.length : Int) != (P.length : Int)) = false := by simp [hSl]
  have HS := Lib.hid hS
  have HP := Lib.hid hP
  have Hlo := Lib.hid hlo
  have Hhi := Lib.hid hhi
  have Hpy := Lib.hid hpy
  have HFr := Lib.hid hFr
  have HFi := Lib.hid hFi2
  have HFl := Lib.hid hFl
  have HFa := Lib.hid hFa2
  have Hxe := Lib.hid hx
  have hlh := hGw2
  clear hFi hFa hFr hFl hFi2 hFa2 hSl hS hF hP hlo hhi hpy hGw2 hx hie htr hGw hz hD
  clear hT h0 big hu lw mw hTe hTr hTl G AO hst hwh
  go_enter Try.func6, Try.ntmps6
  go_wp2_with fail
  go_at_call 38
  refine (ready_yes (n : Int) rate keeps ds ad cd _ 0 true H0 rfl HT.out (hd.below (by (repeat (first | exact Below.refl _ _ | refine Below.alloc ?_ (by first | omega | (simp; done) | (simp; omega)) _ | refine Below.drew ?_ | refine Below.setCell ?_ (by first | omega | (simp; done) | (simp; omega)) _ | refine Below.trans ?_ (Below.mono (by assumption) (by first | omega | (simp; done) | (simp; omega))))))) HB).mono ?_
  rintro e w1 ⟨rfl, b1⟩
  have t1 : Below w.heap.size w w1 := by (repeat (first | exact Below.refl _ _ | refine Below.alloc ?_ (by first | omega | (simp; done) | (simp; omega)) _ | refine Below.drew ?_ | refine Below.setCell ?_ (by first | omega | (simp; done) | (simp; omega)) _ | refine Below.trans ?_ (Below.mono (by assumption) (by first | omega | (simp; done) | (simp; omega)))))
  replace hd := hd.below t1
  replace hw := hw.below t1
  have q0 := rdy_cells b1 0 rfl
  have q1 := rdy_cells b1 1 rfl
  have q2 := rdy_cells b1 2 rfl
  have q3 := rdy_cells b1 3 rfl
  have lB := cell_ltK q0
  go_wp2_with fail
  go_at_call 39
  refine (picked_eq (n : Int) rate keeps ds ad cd _ aw ws cw T H0 HTe hd hw HU hwl).mono ?_
  rintro e w2 ⟨⟨aT, cT, rfl, iT, nT⟩, b2⟩
  have j2 : Below w1.heap.size w1 w2 := by (repeat (first | exact Below.refl _ _ | refine Below.alloc ?_ (by first | omega | (simp; done) | (simp; omega)) _ | refine Below.drew ?_ | refine Below.setCell ?_ (by first | omega | (simp; done) | (simp; omega)) _ | refine Below.trans ?_ (Below.mono (by assumption) (by first | omega | (simp; done) | (simp; omega)))))
  have t2 : Below w.heap.size w w2 := t1.trans (j2.mono t1.size)
  replace hd := hd.below j2
  replace hw := hw.below j2
  replace q0 := below_cell j2 q0
  replace q1 := below_cell j2 q1
  replace q2 := below_cell j2 q2
  replace q3 := below_cell j2 q3
  replace lB := Nat.lt_of_lt_of_le lB j2.size
  clear hw
  obtain ⟨bT, oT, rfl, lT3, c1⟩ := iT i hiT
  rw [Hxe.out] at c1
  obtain ⟨bd, od, al, cl, rfl, lbd, d0, d1, d2, d3, hPa⟩ := hd i hi
  rw [Hpy.out] at d0
  rw [Hlo.out] at d1
  rw [Hhi.out] at d2
  rw [HP.out] at d3 hPa
  obtain ⟨X5, hX5⟩ : ∃ z : World, z = w2.alloc (.cells #[.int .i64 py, .int .i64 lo, .int .i64 hi2, .slice al P.length cl] 43) := ⟨_, rfl⟩
  have C5 : Cells X5 w2.heap.size #[.int .i64 py, .int .i64 lo, .int .i64 hi2, .slice al P.length cl] 43 := by rw [hX5]; exact Cells.new _ _ _
  have bS : Below w2.heap.size w2 X5 := by rw [hX5]; exact (Below.refl _ _).alloc (Nat.le_refl _) _
  go_upto_region 6 with fail
  rw [← hX5]
  clear hX5 d0 d1 d2 d3 c1
  have iP := hPa.at_
  replace hd := hd.below bS
  replace iP := iP.below bS
  replace q0 := below_cell bS q0
  replace q1 := below_cell bS q1
  replace q2 := below_cell bS q2
  replace q3 := below_cell bS q3
  replace lB := Nat.lt_of_lt_of_le lB bS.size
  have m1 := C5.cell 1
  have m2 := C5.cell 2
  have m3 := C5.cell 3
  simp at m1 m2 m3
  have lC := C5.lt
  have tX := t2.trans (bS.mono t2.size)
  clear iT C5 hPa
  go_wp2_with fail
  go_at_call 19
  refine (account_eq (n : Int) rate keeps ds (some ⟨bd, od, none⟩) cd _ hd SM).mono ?_
  rintro e y1 ⟨⟨aP, cP, rfl, dP⟩, e1⟩
  have s1 : Below X5.heap.size X5 y1 := by (repeat (first | exact Below.refl _ _ | refine Below.alloc ?_ (by first | omega | (simp; done) | (simp; omega)) _ | refine Below.drew ?_ | refine Below.setCell ?_ (by first | omega | (simp; done) | (simp; omega)) _ | refine Below.trans ?_ (Below.mono (by assumption) (by first | omega | (simp; done) | (simp; omega)))))
  replace hd := hd.below s1
  replace iP := iP.below s1
  replace q0 := below_cell s1 q0
  replace q1 := below_cell s1 q1
  replace q2 := below_cell s1 q2
  replace q3 := below_cell s1 q3
  replace m1 := below_cell s1 m1
  replace m2 := below_cell s1 m2
  replace m3 := below_cell s1 m3
  replace lB := Nat.lt_of_lt_of_le lB s1.size
  replace lC := Nat.lt_of_lt_of_le lC s1.size
  go_wp2_with fail
  go_at_call 20
  refine (shares_in (n : Int) rate keeps ds aP cP _ i x S H0 hi Hx HS dP SM).mono ?_
  rintro e y2 ⟨⟨aS, cS, rfl, iS⟩, e2⟩
  have r2 : Below y1.heap.size y1 y2 := by (repeat (first | exact Below.refl _ _ | refine Below.alloc ?_ (by first | omega | (simp; done) | (simp; omega)) _ | refine Below.drew ?_ | refine Below.setCell ?_ (by first | omega | (simp; done) | (simp; omega)) _ | refine Below.trans ?_ (Below.mono (by assumption) (by first | omega | (simp; done) | (simp; omega)))))
  have s2 : Below X5.heap.size X5 y2 := s1.trans (r2.mono s1.size)
  replace hd := hd.below r2
  replace iP := iP.below r2
  replace q0 := below_cell r2 q0
  replace q1 := below_cell r2 q1
  replace q2 := below_cell r2 q2
  replace q3 := below_cell r2 q3
  replace m1 := below_cell r2 m1
  replace m2 := below_cell r2 m2
  replace m3 := below_cell r2 m3
  replace lB := Nat.lt_of_lt_of_le lB r2.size
  replace lC := Nat.lt_of_lt_of_le lC r2.size
  replace dP := dP.below r2
  clear dP
  have tY : Below w.heap.size w y2 := tX.trans (s2.mono tX.size)
  have lC0 := lC
  go_upto_region 10 with fail
  obtain ⟨W0, hW0⟩ : ∃ z : World, z = y2.alloc (.cells Try.zeroCells68 68) := ⟨_, rfl⟩
  have hR0 : RowAt W0 y2.heap.size 68 ((fitL F 0 0).map (Value.int .i64)) := by
    rw [hW0, fitL_zero]
    exact ⟨_, Cells.new _ _ _, fun j u hu => by rw [show Try.zeroCells68 = ((List.replicate 201 (0 : Int)).map (Value.int .i64)).toArray by kernel_rfl]; simpa using hu⟩
  have e0 : Below y2.heap.size y2 W0 := by rw [hW0]; exact (Below.refl _ _).alloc (Nat.le_refl _) _
  obtain ⟨g, hg⟩ : ∃ g, y2.heap.size = g := ⟨_, rfl⟩
  have hgw : y2.heap.size ≤ g := by omega
  first | rw [← hW0] | skip
  rw [hg] at hR0 ⊢
  clear hW0
  go_wp2
  go_loopw [13, 14, 15, 16] (fun v _ _ _ X => ∃ k : Nat, k ≤ S.length ∧ v = .int .i64 k ∧ RowAt X g 68 ((fitL F k 0).map (Value.int .i64)) ∧ Below y2.heap.size y2 X) (fun v _ _ _ _ => S.length - (intOf v).toNat)
  case atStart => exact ⟨0, Nat.zero_le _, rfl, hR0, e0⟩
  case round =>
    obtain ⟨k, hk, rfl, hR, hbX⟩ := hrel
    rename World => X
    replace hd := hd.below hbX
    replace iP := iP.below hbX
    replace iS := iS.below hbX
    replace q0 := below_cell hbX q0
    replace q1 := below_cell hbX q1
    replace q2 := below_cell hbX q2
    replace q3 := below_cell hbX q3
    replace m1 := below_cell hbX m1
    replace m2 := below_cell hbX m2
    replace m3 := below_cell hbX m3
    replace lB := Nat.lt_of_lt_of_le lB hbX.size
    replace lC := Nat.lt_of_lt_of_le lC hbX.size
    have lG := hR.lt
    by_cases hlt : k < S.length
    · have hkI : (k : Int) < (S.length : Int) := by omega
      have hkP : k < P.length := by rw [← HSl.out]; exact hlt
      have hkPI : (k : Int) < (P.length : Int) := by omega
      obtain ⟨bP, oP, rfl, lP, z1⟩ := iP k hkP
      obtain ⟨bS, oS, rfl, lS, z2⟩ := iS k hlt
      have wd := fun W (b : Below X.heap.size X W) a c (hA : DisAt W a ds) => words_eq (n : Int) rate keeps ds a c W i k x (P.getD k 0) (S.getD k 0) (F k) H0 hi (HPk k hkP) (HSk k) Hx (HFk k) hA SM
      have ac := fun W (b : Below X.heap.size X W) => account_eq (n : Int) rate keeps ds (some ⟨bd, od, none⟩) cd W (hd.below b) SM
      obtain ⟨ps, hps⟩ : ∃ z, P.getD k 0 = z := ⟨_, rfl⟩
      obtain ⟨sk, hsk⟩ : ∃ z, S.getD k 0 = z := ⟨_, rfl⟩
      rw [hps] at z1 wd
      rw [hsk] at z2 wd
      clear hps hsk
      go_wp2
      (refine wp_region_seq 19 [] [] 158 [true, false, true, true, true, true, true, true, true, true, true, true, true, false, false, false, false, false, false] [AccW (n : Int) rate keeps ds, TupO X.heap.size (F k), TupO X.heap.size (F k), SlO X.heap.size (F k), IntV 0, SlO X.heap.size (F k), IntV 0] (by kernel_rfl) (by kernel_rfl) rfl (mono_cons (fun v w w' h hb => h.kept hb) (mono_cons (fun v w w' h hb => h.kept hb) (mono_cons (fun v w w' h hb => h.kept hb) (mono_cons (fun v w w' h hb => h.kept hb) (mono_cons (fun v w w' h hb => h.kept hb) (mono_cons (fun v w w' h hb => h.kept hb) (mono_cons (fun v w w' h hb => h.kept hb) mono_nil))))))) ?_; simp only [pickOps, List.filterMap_cons, List.filterMap_nil, List.getElem?_toArray, List.getElem?_cons_succ, List.getElem?_cons_zero]; (repeat (refine wpFl_step _ rfl (fun w => (by go_simp; rfl)) ?_)); refine wpFl_nil ?_; simp only [maskOps, dummy, Act.put, List.setIfInBounds_toArray, List.set_cons_zero, List.set_cons_succ, List.take_succ_cons, List.take_zero, List.drop_succ_cons, List.drop_zero]; (repeat (refine wpQB_step (fun K hK => ?_); go_simp; first | (refine hK _ ?_; clear hK K) | (apply Exists.intro; refine ⟨fun ex => ?_, hK _ ?_⟩; (fail); clear hK K))); refine wpQB_nil ?_; simp only [relObl2_t, relObl2_f, relObl2_n, under_c, under_n, relEnd_t, relEnd_f, relEnd_n, and_true, List.nil_append, List.cons_append])
      refine ⟨⟨?_, ?_, ?_, ?_, ?_, ?_, ?_⟩, ?_⟩
      · intro e
        refine ⟨?_⟩
        go_simp
        refine (ac _ e.below).mono ?_
        rintro _ _ ⟨⟨a, c, rfl, hA⟩, hb⟩
        exact ⟨hb, a, c, rfl, hA⟩
      · intro e v1 h1
        obtain ⟨a, c, rfl, hA⟩ := h1 (by kernel_rfl)
        refine ⟨?_⟩
        go_simp
        refine (wd _ e.below a c hA).mono ?_
        rintro _ _ ⟨⟨a, c, rfl, hA⟩, hb⟩
        exact ⟨hb, a, c, rfl, hA.base_le e.size⟩
      · intro e v1 _ v2 h2
        refine ⟨?_⟩
        go_simp
        exact ⟨Below.refl _ _, h2 (by kernel_rfl)⟩
      · intro e v1 _ v2 _ v3 h3
        obtain ⟨a, c, rfl, hA⟩ := h3 (by kernel_rfl)
        refine ⟨?_⟩
        go_simp
        exact ⟨Below.refl _ _, a, c, rfl, hA⟩
      · intro e v1 _ v2 _ v3 h3 v4 _
        obtain ⟨a, c, rfl, hA⟩ := h3 (by kernel_rfl)
        refine ⟨?_⟩
        go_simp
        exact ⟨Below.refl _ _, rfl⟩
      · intro e v1 _ v2 _ v3 _ v4 h4 v5 _
        refine ⟨?_⟩
        go_simp
        exact ⟨Below.refl _ _, h4 (by kernel_rfl)⟩
      · intro e v1 _ v2 _ v3 _ v4 _ v5 h5 v6 _
        refine ⟨?_⟩
        go_simp
        exact ⟨Below.refl _ _, h5 (by kernel_rfl)⟩
      intro e
      rintro v1 - v2 - v3 - v4 - v5 - v6 hv v7 hv7
      refine ⟨?_⟩
      simp only [Act.put, List.setIfInBounds_toArray, List.set_cons_zero, List.set_cons_succ]
      have he5 := e.below
      obtain ⟨W5, hw5⟩ : ∃ x : World, x = e.to := ⟨_, rfl⟩
      rw [← hw5] at he5 hv hv7 ⊢
      clear hw5 e wd ac
      obtain ⟨aNM, cNM, rfl, iNM⟩ := hv
      obtain rfl : v7 = .int .i64 0 := hv7
      have hR2 := hR.below he5
      replace m1 := below_cell he5 m1
      replace m2 := below_cell he5 m2
      have hfl := HFl.out k
      have bW := hbX.trans (he5.mono hbX.size)
      have HFr2 := HFr.out k
      have hfr3 : ∀ j : Nat, j + 1 < (F k).length → (F k).getD j 0 < (F k).getD (j + 1) 0 := fun j h => by
        have := (List.pairwise_iff_getElem.1 HFr2) j (j + 1) (by omega) h (by omega)
        rw [show (F k).getD j 0 = (F k)[j] by simp [show j < (F k).length by omega], show (F k).getD (j + 1) 0 = (F k)[j + 1] by simp [h]]
        exact this
      have hfi3 := HFi.out k
      have hst : ∀ (j : Nat), j < (F k).length → ∀ y : Nat, (F k).getD j 0 = (y : Int) → y < 201 → (fitL F k j).set y ((fitL F k j).getD y 0 + 1) = fitL F k (j + 1) := fun j h y hy hy2 =>
        fitL_step (F := F) (k := k) (j := j) HFr2 h (by rw [← hy]; simp [h]) hy2 rfl
      have hbd : ∀ (j m : Nat), m < 201 → 0 ≤ (fitL F k j).getD m 0 ∧ (fitL F k j).getD m 0 ≤ 6 := fun j m hm => by
        have h5 := fitN_bd F (m : Int) k
        rw [fitL_at F k j hm]
        constructor
        · omega
        · split <;> omega
      have hnx := fitL_next F k
      obtain ⟨f, hf⟩ : ∃ f, F k = f := ⟨_, rfl⟩
      have HR3 := Lib.hid hR2
      simp only [hf] at hfl hfr3 hfi3 hst iNM hnx ⊢
      have Hfr := Lib.hid hfr3
      have Hfi := Lib.hid hfi3
      have Hst := Lib.hid hst
      have Hbd := Lib.hid hbd
      have Hnx := Lib.hid hnx
      have gX : g < X.heap.size := lG
      clear hfr3 hfi3 hst hbd hf HFr2 hnx hR hR2 z1 z2 HFk
      go_wp2
      go_loopw [16] (fun v Z => ∃ j : Nat, j ≤ f.length ∧ v = .int .i64 j ∧ RowAt Z g 68 ((fitL F k j).map (Value.int .i64)) ∧ OwnL 3 1 X.heap.size Z aNM cNM f.length (f.map (Value.int .i64)) ∧ Below y2.heap.size W5 Z) (fun v _ => f.length - (intOf v).toNat)
      case atStart => exact ⟨0, Nat.zero_le _, rfl, HR3.out, iNM, Below.refl _ _⟩
      case round =>
        obtain ⟨j, hj, rfl, hRZ, oZ, hbZ⟩ := hrel
        rename World => Z
        clear iNM
        have m1z := (hbZ.cell (p := ⟨w2.heap.size, 1, none⟩) lC0).trans m1
        have m2z := (hbZ.cell (p := ⟨w2.heap.size, 2, none⟩) lC0).trans m2
        have lCz := cell_ltK m1z
        have bZ := bW.trans hbZ
        by_cases hjl : j < f.length
        · have hjI : (j : Int) < (f.length : Int) := by omega
          have hfy := Hfi.out _ (List.getElem_mem hjl)
          have hst := Hst.out j hjl
          obtain ⟨y, hy⟩ : ∃ y : Nat, f[j] = (y : Int) := ⟨f[j].toNat, by omega⟩
          rw [hy] at hfy
          have hy2 : y < 201 := by omega
          have hs2 := hst y (by rw [← hy]; simp [hjl]) hy2
          have hvb := Hbd.out j y hy2
          have Hin : Hid (inR (y : Int) lo hi2 = true) := Lib.hid (inR_iff.2 hfy)
          have cF := hRZ.cell (show ((fitL F k j).map (Value.int .i64))[y]? = some (.int .i64 ((fitL F k j).getD y 0)) by simp [fitL_len, hy2])
          have fG := hRZ.frozen y
          have lGz := hRZ.lt
          obtain ⟨bF, oF, rfl, _, z1⟩ := oZ.ints.1 j hjl
          rw [show f.getD j 0 = (y : Int) by simp [hjl, hy]] at z1
          obtain ⟨v, hve⟩ : ∃ v, (fitL F k j).getD y 0 = v := ⟨_, rfl⟩
          rw [hve] at hs2 hvb cF
          have wV : IntKind.i64.wrap (v + 1) = v + 1 := IntWalk.i64_in _ (by omega)
          have HS2 := Lib.hid hs2
          have hyI : (y : Int) < 201 := by omega
          have rin := rin_eq' (y : Int) lo hi2 true Hin
          have l1 := cell_ltK z1
          clear hst hfy hs2 hvb hve
          cases j with
          | zero =>
            have d0 : decide ((0 : Int) < ((0 : Nat) : Int)) = false := rfl
            have hj0 : (0 : Int) < (f.length : Int) := by omega
            rw [Nat.add_zero] at z1
            clear hy
            go_wp2
            (refine wp_region_ext 28 (by kernel_rfl) (by kernel_rfl) ?_; simp only [List.take_succ_cons, List.take_zero, List.drop_succ_cons, List.drop_zero]; (repeat (go_big_quiet_step (((go_at_call 24; refine Calls_ext_same (rin _)))))); refine wpQuiet_nil ?_; rintro _ ⟨ex, rfl⟩; have hex := ex.below; have hexz := ex.size; (try simp at hexz); (try (have hy0 : w.heap.size < ex.to.heap.size := by omega)); (try (have hy1 : w.heap.size + 1 < ex.to.heap.size := by omega)); (try (have hy2 : w.heap.size + 2 < ex.to.heap.size := by omega)))
            have hex' := ex.below
            obtain ⟨Z1, hZ1⟩ : ∃ x : World, x = ex.to := ⟨_, rfl⟩
            rw [← hZ1] at hex' ⊢
            clear hZ1 ex hex hexz
            have hR1 := hRZ.below hex'
            have o1 := oZ.kept hex'
            have e1 := hbZ.trans (hex'.mono bZ.size)
            have z1' := below_cell hex' z1
            have cF' := below_cell hex' cF
            have fG' := hR1.frozen y
            have l1' := cell_ltK z1'
            have lG' := hR1.lt
            have hR2 := hR1.set y (.int .i64 (v + 1))
            rw [← List.map_set, HS2.out] at hR2
            have o2 := o1.store (p := ⟨g, y, none⟩) gX (.int .i64 (v + 1))
            have e2 : Below y2.heap.size W5 (Z1.setCell ⟨g, y, none⟩ (.int .i64 (v + 1))) := e1.setCell (p := ⟨g, y, none⟩) hgw (.int .i64 (v + 1))
            obtain ⟨Z2, hZ2⟩ : ∃ x : World, x = Z1.setCell ⟨g, y, none⟩ (.int .i64 (v + 1)) := ⟨_, rfl⟩
            rw [← hZ2] at hR2 o2 e2
            go_upto_region 18 with fail
            rw [← hZ2]
            clear hZ2 cF' fG' hR1 o1 e1 z1'
            go_wp2
            go_roundw
            case rel => exact ⟨0 + 1, by omega, by go_num, hR2, o2, e2⟩
            case measure => simp [intOf]; omega
          | succ j =>
            have d0 : decide ((0 : Int) < ((j + 1 : Nat) : Int)) = true := decide_eq_true (by omega)
            have wj : IntKind.i64.wrap (((j + 1 : Nat) : Int) - 1) = (j : Int) := by rw [IntWalk.i64_in _ (by omega)]; push_cast; omega
            obtain ⟨bF2, oF2, e2, _, z0⟩ := oZ.ints.1 j (by omega)
            cases e2
            have hjI2 : (j : Int) < (f.length : Int) := by omega
            have hlt2 := Hfr.out j hjl
            rw [show f.getD (j + 1) 0 = (y : Int) by rw [← hy]; simp [hjl]] at hlt2
            obtain ⟨p, hp⟩ : ∃ p, f.getD j 0 = p := ⟨_, rfl⟩
            rw [hp] at z0 hlt2
            have d1 : decide ((y : Int) ≤ p) = false := by simp; omega
            clear hp hlt2 hy
            go_wp2
            (refine wp_region_ext 28 (by kernel_rfl) (by kernel_rfl) ?_; simp only [List.take_succ_cons, List.take_zero, List.drop_succ_cons, List.drop_zero]; (repeat (go_big_quiet_step (((go_at_call 24; refine Calls_ext_same (rin _)))))); refine wpQuiet_nil ?_; rintro _ ⟨ex, rfl⟩; have hex := ex.below; have hexz := ex.size; (try simp at hexz); (try (have hy0 : w.heap.size < ex.to.heap.size := by omega)); (try (have hy1 : w.heap.size + 1 < ex.to.heap.size := by omega)); (try (have hy2 : w.heap.size + 2 < ex.to.heap.size := by omega)))
            have hex' := ex.below
            obtain ⟨Z1, hZ1⟩ : ∃ x : World, x = ex.to := ⟨_, rfl⟩
            rw [← hZ1] at hex' ⊢
            clear hZ1 ex hex hexz
            have hR1 := hRZ.below hex'
            have o1 := oZ.kept hex'
            have e1 := hbZ.trans (hex'.mono bZ.size)
            have z1' := below_cell hex' z1
            have cF' := below_cell hex' cF
            have fG' := hR1.frozen y
            have l1' := cell_ltK z1'
            have lG' := hR1.lt
            have hR2 := hR1.set y (.int .i64 (v + 1))
            rw [← List.map_set, HS2.out] at hR2
            have o2 := o1.store (p := ⟨g, y, none⟩) gX (.int .i64 (v + 1))
            have e2 : Below y2.heap.size W5 (Z1.setCell ⟨g, y, none⟩ (.int .i64 (v + 1))) := e1.setCell (p := ⟨g, y, none⟩) hgw (.int .i64 (v + 1))
            obtain ⟨Z2, hZ2⟩ : ∃ x : World, x = Z1.setCell ⟨g, y, none⟩ (.int .i64 (v + 1)) := ⟨_, rfl⟩
            rw [← hZ2] at hR2 o2 e2
            go_upto_region 18 with fail
            rw [← hZ2]
            clear hZ2 cF' fG' hR1 o1 e1 z1'
            go_wp2
            go_roundw
            case rel => exact ⟨(j + 1) + 1, by omega, by go_num, hR2, o2, e2⟩
            case measure => simp [intOf]; omega
        · obtain rfl : j = f.length := by omega
          rw [Hnx.out] at hRZ
          go_wp2
          go_roundw
          case rel => exact ⟨k + 1, by omega, by go_num, hRZ, bZ⟩
          case measure => simp [intOf]; omega
    · obtain rfl : k = S.length := by omega
      have HR3 := Lib.hid hR
      have tZ := tY.trans (hbX.mono tY.size)
      clear hR HFk
      go_wp2
      go_loopw [17, 18] (fun v _ Z => ∃ q : Nat, lo + (q : Int) ≤ hi2 + 1 ∧ v = .int .i64 (lo + (q : Int)) ∧ Z = X) (fun v _ _ => (hi2 + 1 - intOf v).toNat)
      case atStart => exact ⟨0, by omega, by simp, rfl⟩
      case round =>
        obtain ⟨q, hq, rfl, rfl⟩ := hrel
        have wq : IntKind.i64.wrap (lo + (q : Int) + 1) = lo + ((q + 1 : Nat) : Int) := by rw [IntWalk.i64_in _ (by omega)]; push_cast; omega
        by_cases hlt : lo + (q : Int) ≤ hi2
        · have hqd : decide (lo + (q : Int) ≤ hi2) = true := by simpa using hlt
          obtain ⟨y, hy⟩ : ∃ y : Nat, lo + (q : Int) = (y : Int) := ⟨(lo + (q : Int)).toNat, by omega⟩
          have hy2 : y < 201 := by omega
          have hfa := HFa.out (y : Int) (by omega) (by omega)
          have cF := HR3.out.cell (show ((fitL F S.length 0).map (Value.int .i64))[y]? = some (.int .i64 ((fitL F S.length 0).getD y 0)) by simp [fitL_len, hy2])
          rw [fitL_at F S.length 0 hy2, List.take_zero, if_neg List.not_mem_nil, Nat.add_zero] at cF
          have lGz := HR3.out.lt
          have hyI : (y : Int) < 201 := by omega
          obtain ⟨c, hc⟩ : ∃ c, fitN F (y : Int) S.length = c := ⟨_, rfl⟩
          rw [hc] at cF hfa
          have Hy := Lib.hid hy
          rw [hy] at wq hqd ⊢
          have wq2 := wq
          clear hc hy
          by_cases hyx : (y : Int) = x
          · have p1 : ((y : Int) == x) = true := by simpa using hyx
            obtain rfl : c = S.length := hfa.2 (.inl hyx)
            have p3 : ((S.length : Int) == (S.length : Int)) = true := by simp
            clear hyx hfa
            go_wp2
            go_roundw
            case rel => exact ⟨q + 1, by have := Hy.out; push_cast; omega, by have := Hy.out; first | go_num | (simp; omega), by trivial⟩
            case measure => have := Hy.out; simp [intOf]; omega
          · have p1 : ((y : Int) == x) = false := by simpa using hyx
            by_cases hr0 : rate = 0
            · have p2 : (rate == 0) = true := by simpa using hr0
              obtain rfl : c = S.length := hfa.2 (.inr hr0)
              have p3 : ((S.length : Int) == (S.length : Int)) = true := by simp
              have Hr0 := Lib.hid hr0
              clear hyx hfa hr0
              go_wp2
              go_roundw
              case rel => exact ⟨q + 1, by have := Hy.out; push_cast; omega, by have := Hy.out; first | go_num | (simp; omega), by trivial⟩
              case measure => have := Hy.out; simp [intOf]; omega
            · have p2 : (rate == 0) = false := by simpa using hr0
              have hcn : ¬ c = S.length := fun e => by rcases hfa.1 e with h | h; exact hyx h; exact hr0 h
              have p3 : ((c : Int) == (S.length : Int)) = false := by rw [beq_eq_false_iff_ne]; omega
              clear hyx hfa hr0 hcn
              go_wp2
              go_roundw
              case rel => exact ⟨q + 1, by have := Hy.out; push_cast; omega, by have := Hy.out; first | go_num | (simp; omega), by trivial⟩
              case measure => have := Hy.out; simp [intOf]; omega
        · have hqd : decide (lo + (q : Int) ≤ hi2) = false := by simpa using hlt
          clear hlt
          go_wp2_with fail
          go_at_call 17
          refine (awake_any _).mono ?_
          rintro e wz ⟨rfl, bz⟩
          go_wp2_with fail
          go_ret
          exact ⟨rfl, tZ.trans (bz.mono tZ.size)⟩
theorem claims_walk (st rate keeps : Int) (ds : List Dis) (ad : Option Addr) (cd : Nat) (aw : Option Addr) (ws : List Int) (cw : Nat) (wh : Int) (w : World) (hd : DisAt w ad ds) (big : AccBig ds) (hw : U16At w aw ws) (nw : aw = none → cw = 0) (lw : ws.length ≤ cw) (mw : cw ≤ maxLen) (hu : ∀ n ∈ ws, 0 ≤ n ∧ n ≤ 65535) (hwh : 0 ≤ wh ∧ wh ≤ 255) :
    Calls Try.prog 6 #[.agg #[.int .i64 st, .int .i64 rate, .int .i64 keeps, .slice ad ds.length cd], .slice aw ws.length cw, .int .u8 wh] w fun e w' => e = .returned (.bool true) ∧ Below w.heap.size w w' := by
  by_cases hT : thinB ds = true
  · by_cases h0 : accErr ⟨st, rate, keeps, ds⟩ = 0
    · by_cases hz : ds.length = 0
      · exact claims_a3 st rate keeps ds ad cd aw ws cw wh w hd big hw nw lw mw hu hwh hT h0 hz
      · exact claims_b st rate keeps ds ad cd aw ws cw wh w hd big hw nw lw mw hu hwh hT h0 hz
    · exact claims_a2 st rate keeps ds ad cd aw ws cw wh w hd big hw nw lw mw hu hwh hT h0
  · exact claims_a1 st rate keeps ds ad cd aw ws cw wh w hd big hw nw lw mw hu hwh (by simpa using hT)
end Go.Proofs.Ytomjlmhnjgohdaa
