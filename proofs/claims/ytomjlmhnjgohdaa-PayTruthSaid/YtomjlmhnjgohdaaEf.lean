/- PayTruth: the walk -/
import Derived.Test.YtomjlmhnjgohdaaIa
namespace Go.Proofs.Ytomjlmhnjgohdaa
set_option linter.unusedVariables false
set_option linter.unusedSimpArgs false
set_option linter.unnecessarySimpa false
open Go.RowKit Go.Flow Go.Shelf

set_option maxRecDepth 100000 in
set_option maxHeartbeats 8000000 in
theorem truth_a1 (st rate keeps : Int) (ds : List Dis) (ad : Option Addr) (cd : Nat) (aw : Option Addr) (ws : List Int) (cw : Nat) (wh : Int) (w : World) (hd : DisAt w ad ds) (big : AccBig ds) (hw : U16At w aw ws) (nw : aw = none → cw = 0) (lw : ws.length ≤ cw) (mw : cw ≤ maxLen) (hu : ∀ n ∈ ws, 0 ≤ n ∧ n ≤ 65535) (hwh : 0 ≤ wh ∧ wh ≤ 255) (hT : thinB ds = false) :
    Calls Try.prog 12 #[.agg #[.int .i64 st, .int .i64 rate, .int .i64 keeps, .slice ad ds.length cd], .slice aw ws.length cw, .int .u8 wh] w fun e w' => e = .returned (.bool true) ∧ Below w.heap.size w w' := by
  have HB := Lib.hid big
  have HT := Lib.hid hT
  clear hT big hu lw mw hwh
  go_enter Try.func12, Try.ntmps12
  go_wp2_with fail
  go_at_call 38
  refine (ready_no st rate keeps ds ad cd _ HT (hd.below (by (repeat (first | exact Below.refl _ _ | refine Below.alloc ?_ (by first | omega | (simp; done) | (simp; omega)) _ | refine Below.drew ?_ | refine Below.setCell ?_ (by first | omega | (simp; done) | (simp; omega)) _ | refine Below.trans ?_ (Below.mono (by assumption) (by first | omega | (simp; done) | (simp; omega))))))) HB).mono ?_
  rintro e w1 ⟨rfl, b1⟩
  have t1 : Below w.heap.size w w1 := by (repeat (first | exact Below.refl _ _ | refine Below.alloc ?_ (by first | omega | (simp; done) | (simp; omega)) _ | refine Below.drew ?_ | refine Below.setCell ?_ (by first | omega | (simp; done) | (simp; omega)) _ | refine Below.trans ?_ (Below.mono (by assumption) (by first | omega | (simp; done) | (simp; omega)))))
  replace hd := hd.below t1
  replace hw := hw.below t1
  have q0 := rdy_cells b1 0 rfl
  have q1 := rdy_cells b1 1 rfl
  have q2 := rdy_cells b1 2 rfl
  have q3 := rdy_cells b1 3 rfl
  have lB := cell_ltK q0
  go_wp2_with fail
  go_at_call 17
  refine (awake_any _).mono ?_
  rintro e w2 ⟨rfl, b2⟩
  have j2 : Below w1.heap.size w1 w2 := by (repeat (first | exact Below.refl _ _ | refine Below.alloc ?_ (by first | omega | (simp; done) | (simp; omega)) _ | refine Below.drew ?_ | refine Below.setCell ?_ (by first | omega | (simp; done) | (simp; omega)) _ | refine Below.trans ?_ (Below.mono (by assumption) (by first | omega | (simp; done) | (simp; omega)))))
  have t2 : Below w.heap.size w w2 := t1.trans (j2.mono t1.size)
  replace hd := hd.below j2
  replace hw := hw.below j2
  replace q0 := below_cell j2 q0
  replace q1 := below_cell j2 q1
  replace q2 := below_cell j2 q2
  replace q3 := below_cell j2 q3
  replace lB := Nat.lt_of_lt_of_le lB j2.size
  go_wp2_with fail
  go_ret
  exact ⟨rfl, t2⟩
set_option maxRecDepth 100000 in
set_option maxHeartbeats 8000000 in
theorem truth_a2 (st rate keeps : Int) (ds : List Dis) (ad : Option Addr) (cd : Nat) (aw : Option Addr) (ws : List Int) (cw : Nat) (wh : Int) (w : World) (hd : DisAt w ad ds) (big : AccBig ds) (hw : U16At w aw ws) (nw : aw = none → cw = 0) (lw : ws.length ≤ cw) (mw : cw ≤ maxLen) (hu : ∀ n ∈ ws, 0 ≤ n ∧ n ≤ 65535) (hwh : 0 ≤ wh ∧ wh ≤ 255) (hT : thinB ds = true) (h0 : accErr ⟨st, rate, keeps, ds⟩ ≠ 0) :
    Calls Try.prog 12 #[.agg #[.int .i64 st, .int .i64 rate, .int .i64 keeps, .slice ad ds.length cd], .slice aw ws.length cw, .int .u8 wh] w fun e w' => e = .returned (.bool true) ∧ Below w.heap.size w w' := by
  have HB := Lib.hid big
  obtain ⟨E, hE⟩ : ∃ E, accErr ⟨st, rate, keeps, ds⟩ = E := ⟨_, rfl⟩
  rw [hE] at h0
  have hE0 : (E == 0) = false := by simpa using h0
  have HE := Lib.hid hE
  have HT := Lib.hid hT
  have HE0 := Lib.hid hE0
  clear hT big hu lw mw hwh hE h0 hE0
  go_enter Try.func12, Try.ntmps12
  go_wp2_with fail
  go_at_call 38
  refine (ready_yes st rate keeps ds ad cd _ E false HE HE0.out HT.out (hd.below (by (repeat (first | exact Below.refl _ _ | refine Below.alloc ?_ (by first | omega | (simp; done) | (simp; omega)) _ | refine Below.drew ?_ | refine Below.setCell ?_ (by first | omega | (simp; done) | (simp; omega)) _ | refine Below.trans ?_ (Below.mono (by assumption) (by first | omega | (simp; done) | (simp; omega))))))) HB).mono ?_
  rintro e w1 ⟨rfl, b1⟩
  have t1 : Below w.heap.size w w1 := by (repeat (first | exact Below.refl _ _ | refine Below.alloc ?_ (by first | omega | (simp; done) | (simp; omega)) _ | refine Below.drew ?_ | refine Below.setCell ?_ (by first | omega | (simp; done) | (simp; omega)) _ | refine Below.trans ?_ (Below.mono (by assumption) (by first | omega | (simp; done) | (simp; omega)))))
  replace hd := hd.below t1
  replace hw := hw.below t1
  have q0 := rdy_cells b1 0 rfl
  have q1 := rdy_cells b1 1 rfl
  have q2 := rdy_cells b1 2 rfl
  have q3 := rdy_cells b1 3 rfl
  have lB := cell_ltK q0
  go_wp2_with fail
  go_at_call 17
  refine (awake_any _).mono ?_
  rintro e w2 ⟨rfl, b2⟩
  have j2 : Below w1.heap.size w1 w2 := by (repeat (first | exact Below.refl _ _ | refine Below.alloc ?_ (by first | omega | (simp; done) | (simp; omega)) _ | refine Below.drew ?_ | refine Below.setCell ?_ (by first | omega | (simp; done) | (simp; omega)) _ | refine Below.trans ?_ (Below.mono (by assumption) (by first | omega | (simp; done) | (simp; omega)))))
  have t2 : Below w.heap.size w w2 := t1.trans (j2.mono t1.size)
  replace hd := hd.below j2
  replace hw := hw.below j2
  replace q0 := below_cell j2 q0
  replace q1 := below_cell j2 q1
  replace q2 := below_cell j2 q2
  replace q3 := below_cell j2 q3
  replace lB := Nat.lt_of_lt_of_le lB j2.size
  go_wp2_with fail
  go_ret
  exact ⟨rfl, t2⟩
set_option maxRecDepth 100000 in
set_option maxHeartbeats 8000000 in
theorem truth_a3 (st rate keeps : Int) (ds : List Dis) (ad : Option Addr) (cd : Nat) (aw : Option Addr) (ws : List Int) (cw : Nat) (wh : Int) (w : World) (hd : DisAt w ad ds) (big : AccBig ds) (hw : U16At w aw ws) (nw : aw = none → cw = 0) (lw : ws.length ≤ cw) (mw : cw ≤ maxLen) (hu : ∀ n ∈ ws, 0 ≤ n ∧ n ≤ 65535) (hwh : 0 ≤ wh ∧ wh ≤ 255) (hT : thinB ds = true) (h0 : accErr ⟨st, rate, keeps, ds⟩ = 0) :
    Calls Try.prog 12 #[.agg #[.int .i64 st, .int .i64 rate, .int .i64 keeps, .slice ad ds.length cd], .slice aw ws.length cw, .int .u8 wh] w fun e w' => e = .returned (.bool true) ∧ Below w.heap.size w w' := by
  have HB := Lib.hid big
  have HT := Lib.hid hT
  have SM := Lib.hid (thin_small (st := st) (rate := rate) (keeps := keeps) hT)
  have H0 := Lib.hid h0
  have HU : Hid (U16s ws) := Lib.hid hu
  have hwl : ws.length ≤ 9223372036854775807 := by unfold maxLen at mw; omega
  have AO := accErr_ok h0
  have hst := AO.st
  have hn6 : ds.length ≤ 6 := AO.len
  simp only at hst
  obtain ⟨n, rfl⟩ : ∃ n : Nat, st = (n : Int) := ⟨st.toNat, by omega⟩
  have G := good_of h0
  simp only at G
  have HG := Lib.hid G
  obtain ⟨T, hTe⟩ : ∃ T, pkL ds ws = T := ⟨_, rfl⟩
  have hTr : isTruth ds T = true := by rw [← hTe]; exact pk_truth (fun d h => (G.w d h).2.1) ws
  have hTl : T.length = ds.length := by rw [← hTe, pkL_len]
  obtain ⟨O, hO⟩ : ∃ O, bdOut ⟨(n : Int), rate, keeps, ds⟩ = O := ⟨_, rfl⟩
  have hOd : bdL rate keeps ds n = O := by rw [← hO, bdOut, if_pos h0]; simp
  obtain ⟨B, hBd⟩ : ∃ B, balL rate keeps ds T n = B := ⟨_, rfl⟩
  have hBa : balOut ⟨(n : Int), rate, keeps, ds⟩ T = B := by rw [balOut, if_pos ⟨h0, hTr⟩]; simpa using hBd
  have hBe : balErr ⟨(n : Int), rate, keeps, ds⟩ T = 0 := by rw [balErr, if_neg (by simpa using h0), hTr]; rfl
  have hBl : B.length = n := by rw [← hBd, balL_len]
  have hOl : O.length = n := by rw [← hOd, bdL_len]
  have hBz : psum (fun s => B.getD s 0) n = 0 := by rw [← hBd]; exact balL_zero h0 hTl
  have hBO : ∀ k (h : k < O.length), O[k].1 ≤ B.getD k 0 ∧ B.getD k 0 ≤ O[k].2 ∧ O[k].1 = endB rate keeps ds (endX false) (k : Int) ∧ O[k].2 = endB rate keeps ds (endX true) (k : Int) := by
    intro k h
    subst hOd
    rw [bdL_at, ← hBd, balL_at _ _ _ _ (by rw [bdL_len] at h; exact h)]
    exact ⟨(bal_in G hTr _).1, (bal_in G hTr _).2, rfl, rfl⟩
  have hBb : ∀ k, -50000 ≤ B.getD k 0 ∧ B.getD k 0 ≤ 50000 := by
    intro k
    by_cases h : k < n
    · rw [← hBd, balL_at _ _ _ _ h]
      have h2 := isTruth_iff.1 hTr
      have h3 := balN_bd (t := T) (s := (k : Int)) G (fun x hx => by
        obtain ⟨i, hi, rfl⟩ := List.getElem_of_mem hx
        have h4 := h2.2 i (by omega)
        have h5 := G.w _ (List.getElem_mem (show i < ds.length by omega))
        rw [show T.getD i 0 = T[i] by simp [hi]] at h4
        omega) (by omega) T.length (Nat.le_refl _)
      omega
    · rw [show B.getD k 0 = 0 by simp; rw [List.getElem?_eq_none (by omega)]; rfl]; omega
  have hPb : ∀ k, k ≤ n → -350000 ≤ psum (fun s => B.getD s 0) k ∧ psum (fun s => B.getD s 0) k ≤ 350000 := by
    have aux : ∀ k : Nat, -50000 * (k : Int) ≤ psum (fun s => B.getD s 0) k ∧ psum (fun s => B.getD s 0) k ≤ 50000 * (k : Int) := by
      intro k
      induction k with
      | zero => simp [psum]
      | succ k ih => have := hBb k; rw [psum]; push_cast; omega
    intro k hk
    have := aux k
    omega
  have HTe := Lib.hid hTe
  have HTr := Lib.hid hTr
  have HTl := Lib.hid hTl
  have HO := Lib.hid hO
  have HBa := Lib.hid hBa
  have HBe := Lib.hid hBe
  have HBl := Lib.hid hBl
  have HOl := Lib.hid hOl
  have HBz := Lib.hid hBz
  have HBO := Lib.hid hBO
  have HBb := Lib.hid hBb
  have HPb := Lib.hid hPb
  have hBn : ((B.length : Int) != (n : Int)) = false := by simp [hBl]
  have hOn : ((O.length : Int) != (n : Int)) = false := by simp [hOl]
  have hn7 : n ≤ 7 := by omega
  have hn1 : 1 ≤ n := by omega
  have lT : T.length ≤ 1000 := by omega
  have lB' : B.length ≤ 1000 := by omega
  have lO' : O.length ≤ 1000 := by omega
  -- the station
  obtain ⟨wn, rfl⟩ : ∃ wn : Nat, wh = (wn : Int) := ⟨wh.toNat, by omega⟩
  obtain ⟨s, hse⟩ : ∃ s, wn % n = s := ⟨_, rfl⟩
  have hsn : s < n := by rw [← hse]; exact Nat.mod_lt _ (by omega)
  have hcv : IntKind.i64.wrap (wn : Int) = (wn : Int) := IntWalk.i64_in _ (by omega)
  have htm : Int.tmod (wn : Int) (n : Int) = (s : Int) := by rw [← hse]; rfl
  have hnz : ¬ ((n : Int) = 0) := by omega
  have Hs : Hid (inR (s : Int) 0 ((n : Int) - 1) = true) := Lib.hid (inR_iff.2 ⟨by omega, by omega⟩)
  obtain ⟨L1, hL1⟩ : ∃ R, reachL rate keeps (endX false) (s : Int) ds ds.length = R := ⟨_, rfl⟩
  obtain ⟨L2, hL2⟩ : ∃ R, reachL rate keeps (endX true) (s : Int) ds ds.length = R := ⟨_, rfl⟩
  have hT1 : isTruth ds L1 = true := by rw [← hL1]; exact reach_truth G _ _
  have hT2 : isTruth ds L2 = true := by rw [← hL2]; exact reach_truth G _ _
  have l1 : L1.length ≤ 1000 := by rw [(isTruth_iff.1 hT1).1]; omega
  have l2 : L2.length ≤ 1000 := by rw [(isTruth_iff.1 hT2).1]; omega
  obtain ⟨B1, hB1⟩ : ∃ B, balL rate keeps ds L1 n = B := ⟨_, rfl⟩
  obtain ⟨B2, hB2⟩ : ∃ B, balL rate keeps ds L2 n = B := ⟨_, rfl⟩
  have HA1 : Hid (balOut ⟨(n : Int), rate, keeps, ds⟩ L1 = B1) := Lib.hid (by rw [balOut, if_pos ⟨h0, hT1⟩]; simpa using hB1)
  have HE1 : Hid (balErr ⟨(n : Int), rate, keeps, ds⟩ L1 = 0) := Lib.hid (by rw [balErr, if_neg (by simpa using h0), hT1]; rfl)
  have HA2 : Hid (balOut ⟨(n : Int), rate, keeps, ds⟩ L2 = B2) := Lib.hid (by rw [balOut, if_pos ⟨h0, hT2⟩]; simpa using hB2)
  have HE2 : Hid (balErr ⟨(n : Int), rate, keeps, ds⟩ L2 = 0) := Lib.hid (by rw [balErr, if_neg (by simpa using h0), hT2]; rfl)
  have Hl1 : Hid (B1.length = n) := Lib.hid (by rw [← hB1, balL_len])
  have Hl2 : Hid (B2.length = n) := Lib.hid (by rw [← hB2, balL_len])
  have Hv1 : Hid (B1.getD s 0 = endB rate keeps ds (endX false) (s : Int)) := Lib.hid (by rw [← hB1, balL_at _ _ _ _ hsn, (isTruth_iff.1 hT1).1, ← hL1]; rfl)
  have Hv2 : Hid (B2.getD s 0 = endB rate keeps ds (endX true) (s : Int)) := Lib.hid (by rw [← hB2, balL_at _ _ _ _ hsn, (isTruth_iff.1 hT2).1, ← hL2]; rfl)
  have HT1 := Lib.hid hT1
  have HT2 := Lib.hid hT2
  have HL1 := Lib.hid hL1
  have HL2 := Lib.hid hL2
  have Hsn := Lib.hid hsn
  clear hB1 hB2 hL1 hL2 hT1 hT2 hse hsn
  clear hT h0 big hu lw mw hwh hTe hTr hTl hO hOd hBd hBa hBe hBl hOl hBz hBO hBb hPb G AO hst
  go_enter Try.func12, Try.ntmps12
  go_wp2_with fail
  go_at_call 38
  refine (ready_yes (n : Int) rate keeps ds ad cd _ 0 true H0 rfl HT.out (hd.below (by (repeat (first | exact Below.refl _ _ | refine Below.alloc ?_ (by first | omega | (simp; done) | (simp; omega)) _ | refine Below.drew ?_ | refine Below.setCell ?_ (by first | omega | (simp; done) | (simp; omega)) _ | refine Below.trans ?_ (Below.mono (by assumption) (by first | omega | (simp; done) | (simp; omega))))))) HB).mono ?_
  rintro e w1 ⟨rfl, b1⟩
  have t1 : Below w.heap.size w w1 := by (repeat (first | exact Below.refl _ _ | refine Below.alloc ?_ (by first | omega | (simp; done) | (simp; omega)) _ | refine Below.drew ?_ | refine Below.setCell ?_ (by first | omega | (simp; done) | (simp; omega)) _ | refine Below.trans ?_ (Below.mono (by assumption) (by first | omega | (simp; done) | (simp; omega)))))
  replace hd := hd.below t1
  replace hw := hw.below t1
  have q0 := rdy_cells b1 0 rfl
  have q1 := rdy_cells b1 1 rfl
  have q2 := rdy_cells b1 2 rfl
  have q3 := rdy_cells b1 3 rfl
  have lB := cell_ltK q0
  go_wp2_with fail
  go_at_call 39
  refine (picked_eq (n : Int) rate keeps ds ad cd _ aw ws cw T H0 HTe hd hw HU hwl).mono ?_
  rintro e w2 ⟨⟨aT, cT, rfl, iT, nT⟩, b2⟩
  have j2 : Below w1.heap.size w1 w2 := by (repeat (first | exact Below.refl _ _ | refine Below.alloc ?_ (by first | omega | (simp; done) | (simp; omega)) _ | refine Below.drew ?_ | refine Below.setCell ?_ (by first | omega | (simp; done) | (simp; omega)) _ | refine Below.trans ?_ (Below.mono (by assumption) (by first | omega | (simp; done) | (simp; omega)))))
  have t2 : Below w.heap.size w w2 := t1.trans (j2.mono t1.size)
  replace hd := hd.below j2
  replace hw := hw.below j2
  replace q0 := below_cell j2 q0
  replace q1 := below_cell j2 q1
  replace q2 := below_cell j2 q2
  replace q3 := below_cell j2 q3
  replace lB := Nat.lt_of_lt_of_le lB j2.size
  clear hw
  go_wp2_with fail
  go_at_call 19
  refine (account_eq (n : Int) rate keeps ds ad cd _ hd SM).mono ?_
  rintro e w3 ⟨⟨aX, cX, rfl, dX⟩, b3⟩
  have j3 : Below w2.heap.size w2 w3 := by (repeat (first | exact Below.refl _ _ | refine Below.alloc ?_ (by first | omega | (simp; done) | (simp; omega)) _ | refine Below.drew ?_ | refine Below.setCell ?_ (by first | omega | (simp; done) | (simp; omega)) _ | refine Below.trans ?_ (Below.mono (by assumption) (by first | omega | (simp; done) | (simp; omega)))))
  have t3 : Below w.heap.size w w3 := t2.trans (j3.mono t2.size)
  replace hd := hd.below j3
  replace q0 := below_cell j3 q0
  replace q1 := below_cell j3 q1
  replace q2 := below_cell j3 q2
  replace q3 := below_cell j3 q3
  replace lB := Nat.lt_of_lt_of_le lB j3.size
  replace iT := iT.below j3
  go_wp2_with fail
  go_at_call 22
  refine (list_eq _ aT T cT iT lT nT).mono ?_
  rintro e w4 ⟨⟨aL, cL, rfl, iL, nL⟩, b4⟩
  have j4 : Below w3.heap.size w3 w4 := by (repeat (first | exact Below.refl _ _ | refine Below.alloc ?_ (by first | omega | (simp; done) | (simp; omega)) _ | refine Below.drew ?_ | refine Below.setCell ?_ (by first | omega | (simp; done) | (simp; omega)) _ | refine Below.trans ?_ (Below.mono (by assumption) (by first | omega | (simp; done) | (simp; omega)))))
  have t4 : Below w.heap.size w w4 := t3.trans (j4.mono t3.size)
  replace hd := hd.below j4
  replace q0 := below_cell j4 q0
  replace q1 := below_cell j4 q1
  replace q2 := below_cell j4 q2
  replace q3 := below_cell j4 q3
  replace lB := Nat.lt_of_lt_of_le lB j4.size
  replace iT := iT.below j4
  replace dX := dX.below j4
  go_wp2_with fail
  go_at_call 21
  refine (bal_eq (n : Int) rate keeps ds aX cX _ aL T cL B 0 H0 HBa HBe dX SM iL lT).mono ?_
  rintro e w5 ⟨⟨aB, cB, rfl, iB⟩, b5⟩
  have j5 : Below w4.heap.size w4 w5 := by (repeat (first | exact Below.refl _ _ | refine Below.alloc ?_ (by first | omega | (simp; done) | (simp; omega)) _ | refine Below.drew ?_ | refine Below.setCell ?_ (by first | omega | (simp; done) | (simp; omega)) _ | refine Below.trans ?_ (Below.mono (by assumption) (by first | omega | (simp; done) | (simp; omega)))))
  have t5 : Below w.heap.size w w5 := t4.trans (j5.mono t4.size)
  replace hd := hd.below j5
  replace q0 := below_cell j5 q0
  replace q1 := below_cell j5 q1
  replace q2 := below_cell j5 q2
  replace q3 := below_cell j5 q3
  replace lB := Nat.lt_of_lt_of_le lB j5.size
  replace iT := iT.below j5
  replace dX := dX.below j5
  replace iL := iL.below j5
  clear dX iL
  go_wp2_with fail
  go_at_call 19
  refine (account_eq (n : Int) rate keeps ds ad cd _ hd SM).mono ?_
  rintro e w6 ⟨⟨aY, cY, rfl, dY⟩, b6⟩
  have j6 : Below w5.heap.size w5 w6 := by (repeat (first | exact Below.refl _ _ | refine Below.alloc ?_ (by first | omega | (simp; done) | (simp; omega)) _ | refine Below.drew ?_ | refine Below.setCell ?_ (by first | omega | (simp; done) | (simp; omega)) _ | refine Below.trans ?_ (Below.mono (by assumption) (by first | omega | (simp; done) | (simp; omega)))))
  have t6 : Below w.heap.size w w6 := t5.trans (j6.mono t5.size)
  replace hd := hd.below j6
  replace q0 := below_cell j6 q0
  replace q1 := below_cell j6 q1
  replace q2 := below_cell j6 q2
  replace q3 := below_cell j6 q3
  replace lB := Nat.lt_of_lt_of_le lB j6.size
  replace iT := iT.below j6
  replace iB := iB.below j6
  go_wp2_with fail
  go_at_call 40
  refine (bounds_eq (n : Int) rate keeps ds aY cY _ O H0 HO dY SM).mono ?_
  rintro e w7 ⟨⟨aO, cO, rfl, iO⟩, b7⟩
  have j7 : Below w6.heap.size w6 w7 := by (repeat (first | exact Below.refl _ _ | refine Below.alloc ?_ (by first | omega | (simp; done) | (simp; omega)) _ | refine Below.drew ?_ | refine Below.setCell ?_ (by first | omega | (simp; done) | (simp; omega)) _ | refine Below.trans ?_ (Below.mono (by assumption) (by first | omega | (simp; done) | (simp; omega)))))
  have t7 : Below w.heap.size w w7 := t6.trans (j7.mono t6.size)
  replace hd := hd.below j7
  replace q0 := below_cell j7 q0
  replace q1 := below_cell j7 q1
  replace q2 := below_cell j7 q2
  replace q3 := below_cell j7 q3
  replace lB := Nat.lt_of_lt_of_le lB j7.size
  replace iT := iT.below j7
  replace iB := iB.below j7
  replace dY := dY.below j7
  clear dY
  have TB := t7
  go_wp2_with fail
  go_loopw [12, 13] (fun u v X => ∃ k : Nat, k ≤ n ∧ v = .int .i64 k ∧ u = .int .i64 (psum (fun s => B.getD s 0) k) ∧ Below w7.heap.size w7 X) (fun _ v _ => n - (intOf v).toNat)
  case atStart => exact ⟨0, Nat.zero_le _, rfl, rfl, Below.refl _ _⟩
  case round =>
    obtain ⟨k, k2, rfl, rfl, hbX⟩ := hrel
    rename World => X
    have iX := iO.below hbX
    have jX := iB.below hbX
    have dX := hd.below hbX
    replace iT := iT.below hbX
    replace q0 := below_cell hbX q0
    replace q1 := below_cell hbX q1
    replace q2 := below_cell hbX q2
    replace q3 := below_cell hbX q3
    replace lB := Nat.lt_of_lt_of_le lB hbX.size
    have hp0 := HPb.out k k2
    clear iO iB hd
    by_cases hlt : k < n
    · have hkI : (k : Int) < (n : Int) := by omega
      have hkO : k < O.length := by rw [HOl.out]; exact hlt
      have hkB : k < B.length := by rw [HBl.out]; exact hlt
      have hkOI : (k : Int) < (O.length : Int) := by omega
      have hkBI : (k : Int) < (B.length : Int) := by omega
      have hbo := HBO.out k hkO
      have hp1 := HPb.out (k + 1) (by omega)
      have hps : psum (fun s => B.getD s 0) (k + 1) = psum (fun s => B.getD s 0) k + B.getD k 0 := rfl
      obtain ⟨bO, oO, rfl, lO, c1, c2⟩ := iX k hkO
      obtain ⟨bB, oB, rfl, lBB, c3⟩ := jX k hkB
      replace c3 := c3.trans (show some (Value.int .i64 (B.getD k 0)) = some (.int .i64 B[k]) by simp [hkB]) |>.trans (show some (Value.int .i64 B[k]) = some (.int .i64 (B.getD k 0)) by simp [hkB])
      obtain ⟨lo, hlo⟩ : ∃ z, O[k].1 = z := ⟨_, rfl⟩
      obtain ⟨mo, hmo⟩ : ∃ z, O[k].2 = z := ⟨_, rfl⟩
      obtain ⟨x, hx⟩ : ∃ z, B.getD k 0 = z := ⟨_, rfl⟩
      obtain ⟨p, hp⟩ : ∃ z, psum (fun s => B.getD s 0) k = z := ⟨_, rfl⟩
      obtain ⟨p', hp'⟩ : ∃ z, psum (fun s => B.getD s 0) (k + 1) = z := ⟨_, rfl⟩
      rw [hlo] at c1 hbo
      rw [hmo] at c2 hbo
      rw [hx] at c3 hbo hps
      rw [hp] at hps hp0 ⊢
      rw [hp'] at hps hp1
      have Hp' := Lib.hid hp'
      have f1 : decide (x < lo) = false := by simpa using hbo.1
      have f2 : decide (mo < x) = false := by simpa using hbo.2.1
      have wS : IntKind.i64.wrap (p + x) = p' := by rw [hps]; exact IntWalk.i64_in _ (by omega)
      have hyX : bO < X.heap.size ∧ bB < X.heap.size := ⟨cell_ltK c1, cell_ltK c3⟩
      clear hlo hmo hx hp hp' hbo hps hp0 hp1 iX jX
      go_wp2
      (refine wp_region_ext 22 (by kernel_rfl) (by kernel_rfl) ?_; simp only [List.take_succ_cons, List.take_zero, List.drop_succ_cons, List.drop_zero]; (repeat (go_big_quiet_step ((fail)))); refine wpQuiet_nil ?_; rintro _ ⟨ex, rfl⟩; have hex := ex.below; have hexz := ex.size; (try simp at hexz); (try (have hy0 : w.heap.size < ex.to.heap.size := by omega)); (try (have hy1 : w.heap.size + 1 < ex.to.heap.size := by omega)); (try (have hy2 : w.heap.size + 2 < ex.to.heap.size := by omega)))
      have c3' := below_cell ex.below c3
      have lB3 := cell_ltK c3'
      go_wp2
      go_roundw
      case rel => exact ⟨k + 1, by omega, by go_num, by rw [Hp'.out], hbX.trans (ex.below.mono hbX.size)⟩
      case measure => simp [intOf]; omega
    · obtain rfl : n = k := by omega
      rw [HBz.out]
      have tX := TB.trans (hbX.mono TB.size)
      clear hp0
      go_wp2
      go_loopw [14, 15, 16, 17, 18] (fun v _ _ _ _ Y => ∃ i : Nat, i ≤ ds.length ∧ v = .int .i64 i ∧ Below X.heap.size X Y) (fun v _ _ _ _ _ => ds.length - (intOf v).toNat)
      case atStart => exact ⟨0, Nat.zero_le _, rfl, Below.refl _ _⟩
      case round =>
        obtain ⟨i, hi2, rfl, hbY⟩ := hrel
        rename World => Y
        replace dX := dX.below hbY
        replace iT := iT.below hbY
        replace iX := iX.below hbY
        replace q0 := below_cell hbY q0
        replace q1 := below_cell hbY q1
        replace q2 := below_cell hbY q2
        replace q3 := below_cell hbY q3
        replace lB := Nat.lt_of_lt_of_le lB hbY.size
        have tY := tX.trans (hbY.mono tX.size)
        clear jX
        by_cases hil : i < ds.length
        · have hiT : i < T.length := by rw [HTl.out]; exact hil
          have hiI : (i : Int) < (T.length : Int) := by omega
          have hiD : (i : Int) < (ds.length : Int) := by omega
          have htr := (isTruth_iff.1 HTr.out).2 i hil
          have hGw := HG.out.w _ (List.getElem_mem hil)
          have hGp := HG.out.p _ (List.getElem_mem hil)
          obtain ⟨bT, oT, rfl, lT3, c1⟩ := iT i hiT
          obtain ⟨x, hx⟩ : ∃ x, T.getD i 0 = x := ⟨_, rfl⟩
          rw [hx] at c1 htr
          have Hx := Lib.hid htr
          obtain ⟨S, hS⟩ : ∃ S, sharesF rate keeps ds[i].passed.length x = S := ⟨_, rfl⟩
          have hSl : S.length = ds[i].passed.length := by rw [← hS, sharesF_len]
          have hSs : S.sum = x * rate := by rw [← hS]; exact shares_sum x hGp
          have hSb : ∀ v ∈ S, 0 ≤ v ∧ v ≤ 8001 := by rw [← hS]; exact shares_bd HG.out.r HG.out.k (by omega) hGp.1
          have HS := Lib.hid hS
          have hpr : -4000 ≤ x * rate ∧ x * rate ≤ 4000 := by
            have h1 := HG.out.r
            have h2 : 0 ≤ x * rate := Int.mul_nonneg (by omega) h1.1
            have h3 : x * rate ≤ 200 * 20 := Int.mul_le_mul (by omega) h1.2 h1.1 (by omega)
            omega
          have sh := fun W (b : Below Y.heap.size Y W) a c (hA : DisAt W a ds) => shares_in (n : Int) rate keeps ds a c W i x S H0 hil Hx HS hA SM
          obtain ⟨bd, od, al, cl, rfl, lbd, d0, d1, d2, d3, _⟩ := dX i hil
          have ac := fun W (b : Below Y.heap.size Y W) => account_eq (n : Int) rate keeps ds (some ⟨bd, od, none⟩) cd W (dX.below b) SM
          rw [← hSl] at d3
          have HSs := Lib.hid hSs
          have HSb := Lib.hid hSb
          have HSl := Lib.hid hSl
          have hS5 : S.length ≤ 5 := by omega
          have Hpr := Lib.hid hpr
          clear hx htr hS hSs hSb hSl hpr d0 d1 d2
          go_wp2
          (refine wp_region_seq 13 [] [] 264 [true, false, true, true, true, true, true, false, false, false, false, false, false] [AccW (n : Int) rate keeps ds, TupV S 0, TupV S 0, SlV S, IntV 0, SlV S, IntV 0] (by kernel_rfl) (by kernel_rfl) rfl (mono_cons (fun v w w' h hb => h.kept hb) (mono_cons (fun v w w' h hb => h.kept hb) (mono_cons (fun v w w' h hb => h.kept hb) (mono_cons (fun v w w' h hb => h.kept hb) (mono_cons (fun v w w' h hb => h.kept hb) (mono_cons (fun v w w' h hb => h.kept hb) (mono_cons (fun v w w' h hb => h.kept hb) mono_nil))))))) ?_; simp only [pickOps, List.filterMap_cons, List.filterMap_nil, List.getElem?_toArray, List.getElem?_cons_succ, List.getElem?_cons_zero]; (repeat (refine wpFl_step _ rfl (fun w => (by go_simp; rfl)) ?_)); refine wpFl_nil ?_; simp only [maskOps, dummy, Act.put, List.setIfInBounds_toArray, List.set_cons_zero, List.set_cons_succ, List.take_succ_cons, List.take_zero, List.drop_succ_cons, List.drop_zero]; (repeat (refine wpQB_step (fun K hK => ?_); go_simp; first | (refine hK _ ?_; clear hK K) | (apply Exists.intro; refine ⟨fun ex => ?_, hK _ ?_⟩; (fail); clear hK K))); refine wpQB_nil ?_; simp only [relObl2_t, relObl2_f, relObl2_n, under_c, under_n, relEnd_t, relEnd_f, relEnd_n, and_true, List.nil_append, List.cons_append])
          refine ⟨⟨?_, ?_, ?_, ?_, ?_, ?_, ?_⟩, ?_⟩
          · intro e
            refine ⟨?_⟩
            go_simp
            refine (ac _ e.below).mono ?_
            rintro _ _ ⟨⟨a, c, rfl, hA⟩, hb⟩
            exact ⟨hb, a, c, rfl, hA⟩
          · intro e v1 h1
            obtain ⟨a, c, rfl, hA⟩ := h1 (by kernel_rfl)
            refine ⟨?_⟩
            go_simp
            refine (sh _ e.below a c hA).mono ?_
            rintro _ _ ⟨⟨a, c, rfl, hA⟩, hb⟩
            exact ⟨hb, a, c, rfl, hA⟩
          · intro e v1 _ v2 h2
            refine ⟨?_⟩
            go_simp
            exact ⟨Below.refl _ _, h2 (by kernel_rfl)⟩
          · intro e v1 _ v2 _ v3 h3
            obtain ⟨a, c, rfl, hA⟩ := h3 (by kernel_rfl)
            refine ⟨?_⟩
            go_simp
            exact ⟨Below.refl _ _, a, c, rfl, hA⟩
          · intro e v1 _ v2 _ v3 h3 v4 _
            obtain ⟨a, c, rfl, hA⟩ := h3 (by kernel_rfl)
            refine ⟨?_⟩
            go_simp
            exact ⟨Below.refl _ _, rfl⟩
          · intro e v1 _ v2 _ v3 _ v4 h4 v5 _
            refine ⟨?_⟩
            go_simp
            exact ⟨Below.refl _ _, h4 (by kernel_rfl)⟩
          · intro e v1 _ v2 _ v3 _ v4 _ v5 h5 v6 _
            refine ⟨?_⟩
            go_simp
            exact ⟨Below.refl _ _, h5 (by kernel_rfl)⟩
          intro e
          rintro v1 - v2 - v3 - v4 - v5 - v6 hv v7 hv7
          refine ⟨?_⟩
          simp only [Act.put, List.setIfInBounds_toArray, List.set_cons_zero, List.set_cons_succ]
          have he5 := e.below
          obtain ⟨W5, hw5⟩ : ∃ x : World, x = e.to := ⟨_, rfl⟩
          rw [← hw5] at he5 hv hv7 ⊢
          clear hw5 e sh ac
          obtain ⟨aS, cS, rfl, iS⟩ := hv
          obtain rfl : v7 = .int .i64 0 := hv7
          replace c1 := below_cell he5 c1
          replace d3 := below_cell he5 d3
          replace q3 := below_cell he5 q3
          replace q1 := below_cell he5 q1
          have lq := cell_ltK q1
          have ld := cell_ltK d3
          have lc := cell_ltK c1
          have fS : ((S.length : Int) != (S.length : Int)) = false := by simp
          go_wp2
          go_loopw [17, 18] (fun u v Z => ∃ j : Nat, j ≤ S.length ∧ v = .int .i64 j ∧ u = .int .i64 (preS S j) ∧ Z = W5) (fun _ v _ => S.length - (intOf v).toNat)
          case atStart => exact ⟨0, Nat.zero_le _, rfl, rfl, rfl⟩
          case round =>
            obtain ⟨j, hj, rfl, rfl, rfl⟩ := hrel
            by_cases hjl : j < S.length
            · have hjI : (j : Int) < (S.length : Int) := by omega
              obtain ⟨bS, oS, rfl, lS, c5⟩ := iS j hjl
              have hb1 := HSb.out _ (List.getElem_mem hjl)
              rw [show S[j] = S.getD j 0 by simp [hjl]] at hb1
              have hpp : preS S (j + 1) = preS S j + S.getD j 0 := rfl
              have hp0 : 0 ≤ preS S j := preS_nonneg (fun v h => (HSb.out v h).1) j
              have hp9 : preS S j ≤ 8001 * (j : Int) := preS_le (fun v h => (HSb.out v h).2) (by omega) j
              obtain ⟨y, hy⟩ : ∃ y, S.getD j 0 = y := ⟨_, rfl⟩
              rw [hy] at c5 hb1 hpp
              obtain ⟨p, hp⟩ : ∃ z, preS S j = z := ⟨_, rfl⟩
              obtain ⟨p', hp'⟩ : ∃ z, preS S (j + 1) = z := ⟨_, rfl⟩
              rw [hp] at hpp hp0 hp9 ⊢
              rw [hp'] at hpp
              have Hp' := Lib.hid hp'
              have f1 : decide (y < 0) = false := by simp; omega
              have wS : IntKind.i64.wrap (p + y) = p' := by rw [hpp]; exact IntWalk.i64_in _ (by omega)
              clear hy hp hp' hpp hp0 hp9 hb1
              go_wp2
              go_roundw
              case rel => exact ⟨j + 1, by omega, by go_num, by rw [Hp'.out], by trivial⟩
              case measure => simp [intOf]; omega
            · obtain rfl : j = S.length := by omega
              rw [preS_all, HSs.out]
              obtain ⟨P, hP⟩ : ∃ P, x * rate = P := ⟨_, rfl⟩
              have hpr := Hpr.out
              rw [hP] at hpr ⊢
              have wP : IntKind.i64.wrap (x * rate) = P := by rw [hP]; exact IntWalk.i64_in _ (by omega)
              have fP : (P != P) = false := by simp
              clear hP hpr
              go_wp2
              (refine wp_region_ext 9 (by kernel_rfl) (by kernel_rfl) ?_; simp only [List.take_succ_cons, List.take_zero, List.drop_succ_cons, List.drop_zero]; (repeat (go_big_quiet_step ((fail)))); refine wpQuiet_nil ?_; rintro _ ⟨ex, rfl⟩; have hex := ex.below; have hexz := ex.size; (try simp at hexz); (try (have hy0 : w.heap.size < ex.to.heap.size := by omega)); (try (have hy1 : w.heap.size + 1 < ex.to.heap.size := by omega)); (try (have hy2 : w.heap.size + 2 < ex.to.heap.size := by omega)))
              go_wp2
              go_roundw
              case rel => exact ⟨i + 1, by omega, by go_num, (hbY.trans (he5.mono hbY.size)).trans (ex.below.mono (hbY.trans (he5.mono hbY.size)).size)⟩
              case measure => simp [intOf]; omega
        · obtain rfl : i = ds.length := by omega
          have hiI : ((ds.length : Nat) : Int) = (T.length : Int) := by rw [HTl.out]
          have hsn := Hsn.out
          have hsO : s < O.length := by rw [HOl.out]; exact hsn
          have hbo := HBO.out s hsO
          have Hbo1 := Lib.hid hbo.2.2.1
          have Hbo2 := Lib.hid hbo.2.2.2
          clear hbo
          go_wp2_with fail
          go_at_call 19
          refine (account_eq (n : Int) rate keeps ds ad cd _ dX SM).mono ?_
          rintro e y1 ⟨⟨aP, cP, rfl, dP⟩, e1⟩
          have s1 : Below Y.heap.size Y y1 := by (repeat (first | exact Below.refl _ _ | refine Below.alloc ?_ (by first | omega | (simp; done) | (simp; omega)) _ | refine Below.drew ?_ | refine Below.setCell ?_ (by first | omega | (simp; done) | (simp; omega)) _ | refine Below.trans ?_ (Below.mono (by assumption) (by first | omega | (simp; done) | (simp; omega)))))
          replace dX := dX.below s1
          replace iX := iX.below s1
          replace q0 := below_cell s1 q0
          replace q1 := below_cell s1 q1
          replace q2 := below_cell s1 q2
          replace q3 := below_cell s1 q3
          replace lB := Nat.lt_of_lt_of_le lB s1.size
          go_wp2_with fail
          go_at_call 42
          refine (reach_eq (n : Int) rate keeps ds aP cP _ (s : Int) false L1 H0 Hs HL1 dP SM).mono ?_
          rintro e y2 ⟨⟨a1, c1, rfl, i1, n1⟩, e2⟩
          have r2 : Below y1.heap.size y1 y2 := by (repeat (first | exact Below.refl _ _ | refine Below.alloc ?_ (by first | omega | (simp; done) | (simp; omega)) _ | refine Below.drew ?_ | refine Below.setCell ?_ (by first | omega | (simp; done) | (simp; omega)) _ | refine Below.trans ?_ (Below.mono (by assumption) (by first | omega | (simp; done) | (simp; omega)))))
          have s2 : Below Y.heap.size Y y2 := s1.trans (r2.mono s1.size)
          replace dX := dX.below r2
          replace iX := iX.below r2
          replace q0 := below_cell r2 q0
          replace q1 := below_cell r2 q1
          replace q2 := below_cell r2 q2
          replace q3 := below_cell r2 q3
          replace lB := Nat.lt_of_lt_of_le lB r2.size
          replace dP := dP.below r2
          clear dP
          go_wp2_with fail
          go_at_call 19
          refine (account_eq (n : Int) rate keeps ds ad cd _ dX SM).mono ?_
          rintro e y3 ⟨⟨aQ, cQ, rfl, dQ⟩, e3⟩
          have r3 : Below y2.heap.size y2 y3 := by (repeat (first | exact Below.refl _ _ | refine Below.alloc ?_ (by first | omega | (simp; done) | (simp; omega)) _ | refine Below.drew ?_ | refine Below.setCell ?_ (by first | omega | (simp; done) | (simp; omega)) _ | refine Below.trans ?_ (Below.mono (by assumption) (by first | omega | (simp; done) | (simp; omega)))))
          have s3 : Below Y.heap.size Y y3 := s2.trans (r3.mono s2.size)
          replace dX := dX.below r3
          replace iX := iX.below r3
          replace q0 := below_cell r3 q0
          replace q1 := below_cell r3 q1
          replace q2 := below_cell r3 q2
          replace q3 := below_cell r3 q3
          replace lB := Nat.lt_of_lt_of_le lB r3.size
          replace i1 := i1.below r3
          go_wp2_with fail
          go_at_call 42
          refine (reach_eq (n : Int) rate keeps ds aQ cQ _ (s : Int) true L2 H0 Hs HL2 dQ SM).mono ?_
          rintro e y4 ⟨⟨a2, c2, rfl, i2, n2⟩, e4⟩
          have r4 : Below y3.heap.size y3 y4 := by (repeat (first | exact Below.refl _ _ | refine Below.alloc ?_ (by first | omega | (simp; done) | (simp; omega)) _ | refine Below.drew ?_ | refine Below.setCell ?_ (by first | omega | (simp; done) | (simp; omega)) _ | refine Below.trans ?_ (Below.mono (by assumption) (by first | omega | (simp; done) | (simp; omega)))))
          have s4 : Below Y.heap.size Y y4 := s3.trans (r4.mono s3.size)
          replace dX := dX.below r4
          replace iX := iX.below r4
          replace q0 := below_cell r4 q0
          replace q1 := below_cell r4 q1
          replace q2 := below_cell r4 q2
          replace q3 := below_cell r4 q3
          replace lB := Nat.lt_of_lt_of_le lB r4.size
          replace i1 := i1.below r4
          replace dQ := dQ.below r4
          clear dQ
          go_wp2_with fail
          go_at_call 27
          refine (rTruth_eq (n : Int) rate keeps ds ad cd _ a1 L1 c1 true HT1 dX SM i1).mono ?_
          rintro e y5 ⟨rfl, e5⟩
          have r5 : Below y4.heap.size y4 y5 := by (repeat (first | exact Below.refl _ _ | refine Below.alloc ?_ (by first | omega | (simp; done) | (simp; omega)) _ | refine Below.drew ?_ | refine Below.setCell ?_ (by first | omega | (simp; done) | (simp; omega)) _ | refine Below.trans ?_ (Below.mono (by assumption) (by first | omega | (simp; done) | (simp; omega)))))
          have s5 : Below Y.heap.size Y y5 := s4.trans (r5.mono s4.size)
          replace dX := dX.below r5
          replace iX := iX.below r5
          replace q0 := below_cell r5 q0
          replace q1 := below_cell r5 q1
          replace q2 := below_cell r5 q2
          replace q3 := below_cell r5 q3
          replace lB := Nat.lt_of_lt_of_le lB r5.size
          replace i1 := i1.below r5
          replace i2 := i2.below r5
          go_wp2_with fail
          go_at_call 27
          refine (rTruth_eq (n : Int) rate keeps ds ad cd _ a2 L2 c2 true HT2 dX SM i2).mono ?_
          rintro e y6 ⟨rfl, e6⟩
          have r6 : Below y5.heap.size y5 y6 := by (repeat (first | exact Below.refl _ _ | refine Below.alloc ?_ (by first | omega | (simp; done) | (simp; omega)) _ | refine Below.drew ?_ | refine Below.setCell ?_ (by first | omega | (simp; done) | (simp; omega)) _ | refine Below.trans ?_ (Below.mono (by assumption) (by first | omega | (simp; done) | (simp; omega)))))
          have s6 : Below Y.heap.size Y y6 := s5.trans (r6.mono s5.size)
          replace dX := dX.below r6
          replace iX := iX.below r6
          replace q0 := below_cell r6 q0
          replace q1 := below_cell r6 q1
          replace q2 := below_cell r6 q2
          replace q3 := below_cell r6 q3
          replace lB := Nat.lt_of_lt_of_le lB r6.size
          replace i1 := i1.below r6
          replace i2 := i2.below r6
          go_wp2_with fail
          go_at_call 19
          refine (account_eq (n : Int) rate keeps ds ad cd _ dX SM).mono ?_
          rintro e y7 ⟨⟨aR, cR, rfl, dR⟩, e7⟩
          have r7 : Below y6.heap.size y6 y7 := by (repeat (first | exact Below.refl _ _ | refine Below.alloc ?_ (by first | omega | (simp; done) | (simp; omega)) _ | refine Below.drew ?_ | refine Below.setCell ?_ (by first | omega | (simp; done) | (simp; omega)) _ | refine Below.trans ?_ (Below.mono (by assumption) (by first | omega | (simp; done) | (simp; omega)))))
          have s7 : Below Y.heap.size Y y7 := s6.trans (r7.mono s6.size)
          replace dX := dX.below r7
          replace iX := iX.below r7
          replace q0 := below_cell r7 q0
          replace q1 := below_cell r7 q1
          replace q2 := below_cell r7 q2
          replace q3 := below_cell r7 q3
          replace lB := Nat.lt_of_lt_of_le lB r7.size
          replace i1 := i1.below r7
          replace i2 := i2.below r7
          go_wp2_with fail
          go_at_call 22
          refine (list_eq _ a1 L1 c1 i1 l1 n1).mono ?_
          rintro e y8 ⟨⟨a3, c3, rfl, i3, n3⟩, e8⟩
          have r8 : Below y7.heap.size y7 y8 := by (repeat (first | exact Below.refl _ _ | refine Below.alloc ?_ (by first | omega | (simp; done) | (simp; omega)) _ | refine Below.drew ?_ | refine Below.setCell ?_ (by first | omega | (simp; done) | (simp; omega)) _ | refine Below.trans ?_ (Below.mono (by assumption) (by first | omega | (simp; done) | (simp; omega)))))
          have s8 : Below Y.heap.size Y y8 := s7.trans (r8.mono s7.size)
          replace dX := dX.below r8
          replace iX := iX.below r8
          replace q0 := below_cell r8 q0
          replace q1 := below_cell r8 q1
          replace q2 := below_cell r8 q2
          replace q3 := below_cell r8 q3
          replace lB := Nat.lt_of_lt_of_le lB r8.size
          replace i1 := i1.below r8
          replace i2 := i2.below r8
          replace dR := dR.below r8
          go_wp2_with fail
          go_at_call 21
          refine (bal_eq (n : Int) rate keeps ds aR cR _ a3 L1 c3 B1 0 H0 HA1 HE1 dR SM i3 l1).mono ?_
          rintro e y9 ⟨⟨a5, c5, rfl, i5⟩, e9⟩
          have r9 : Below y8.heap.size y8 y9 := by (repeat (first | exact Below.refl _ _ | refine Below.alloc ?_ (by first | omega | (simp; done) | (simp; omega)) _ | refine Below.drew ?_ | refine Below.setCell ?_ (by first | omega | (simp; done) | (simp; omega)) _ | refine Below.trans ?_ (Below.mono (by assumption) (by first | omega | (simp; done) | (simp; omega)))))
          have s9 : Below Y.heap.size Y y9 := s8.trans (r9.mono s8.size)
          replace dX := dX.below r9
          replace iX := iX.below r9
          replace q0 := below_cell r9 q0
          replace q1 := below_cell r9 q1
          replace q2 := below_cell r9 q2
          replace q3 := below_cell r9 q3
          replace lB := Nat.lt_of_lt_of_le lB r9.size
          replace i1 := i1.below r9
          replace i2 := i2.below r9
          replace dR := dR.below r9
          replace i3 := i3.below r9
          clear dR i3 i1
          go_wp2_with fail
          go_at_call 19
          refine (account_eq (n : Int) rate keeps ds ad cd _ dX SM).mono ?_
          rintro e y10 ⟨⟨aS, cS, rfl, dS⟩, e10⟩
          have r10 : Below y9.heap.size y9 y10 := by (repeat (first | exact Below.refl _ _ | refine Below.alloc ?_ (by first | omega | (simp; done) | (simp; omega)) _ | refine Below.drew ?_ | refine Below.setCell ?_ (by first | omega | (simp; done) | (simp; omega)) _ | refine Below.trans ?_ (Below.mono (by assumption) (by first | omega | (simp; done) | (simp; omega)))))
          have s10 : Below Y.heap.size Y y10 := s9.trans (r10.mono s9.size)
          replace dX := dX.below r10
          replace iX := iX.below r10
          replace q0 := below_cell r10 q0
          replace q1 := below_cell r10 q1
          replace q2 := below_cell r10 q2
          replace q3 := below_cell r10 q3
          replace lB := Nat.lt_of_lt_of_le lB r10.size
          replace i2 := i2.below r10
          replace i5 := i5.below r10
          go_wp2_with fail
          go_at_call 22
          refine (list_eq _ a2 L2 c2 i2 l2 n2).mono ?_
          rintro e y11 ⟨⟨a4, c4, rfl, i4, n4⟩, e11⟩
          have r11 : Below y10.heap.size y10 y11 := by (repeat (first | exact Below.refl _ _ | refine Below.alloc ?_ (by first | omega | (simp; done) | (simp; omega)) _ | refine Below.drew ?_ | refine Below.setCell ?_ (by first | omega | (simp; done) | (simp; omega)) _ | refine Below.trans ?_ (Below.mono (by assumption) (by first | omega | (simp; done) | (simp; omega)))))
          have s11 : Below Y.heap.size Y y11 := s10.trans (r11.mono s10.size)
          replace dX := dX.below r11
          replace iX := iX.below r11
          replace q0 := below_cell r11 q0
          replace q1 := below_cell r11 q1
          replace q2 := below_cell r11 q2
          replace q3 := below_cell r11 q3
          replace lB := Nat.lt_of_lt_of_le lB r11.size
          replace i2 := i2.below r11
          replace i5 := i5.below r11
          replace dS := dS.below r11
          go_wp2_with fail
          go_at_call 21
          refine (bal_eq (n : Int) rate keeps ds aS cS _ a4 L2 c4 B2 0 H0 HA2 HE2 dS SM i4 l2).mono ?_
          rintro e y12 ⟨⟨a6, c6, rfl, i6⟩, e12⟩
          have r12 : Below y11.heap.size y11 y12 := by (repeat (first | exact Below.refl _ _ | refine Below.alloc ?_ (by first | omega | (simp; done) | (simp; omega)) _ | refine Below.drew ?_ | refine Below.setCell ?_ (by first | omega | (simp; done) | (simp; omega)) _ | refine Below.trans ?_ (Below.mono (by assumption) (by first | omega | (simp; done) | (simp; omega)))))
          have s12 : Below Y.heap.size Y y12 := s11.trans (r12.mono s11.size)
          replace dX := dX.below r12
          replace iX := iX.below r12
          replace q0 := below_cell r12 q0
          replace q1 := below_cell r12 q1
          replace q2 := below_cell r12 q2
          replace q3 := below_cell r12 q3
          replace lB := Nat.lt_of_lt_of_le lB r12.size
          replace i2 := i2.below r12
          replace i5 := i5.below r12
          replace dS := dS.below r12
          replace i4 := i4.below r12
          clear dS i4 i2
          obtain ⟨bO, oO, rfl, lO, x1, x2⟩ := iX s hsO
          obtain ⟨e5, o5, rfl, lb5, x3⟩ := i5 s (by rw [Hl1.out]; exact hsn)
          obtain ⟨e6, o6, rfl, lb6, x4⟩ := i6 s (by rw [Hl2.out]; exact hsn)
          rw [Hv1.out] at x3
          rw [Hv2.out] at x4
          rw [Hbo1.out] at x1
          rw [Hbo2.out] at x2
          have hsO2 : (s : Int) < (O.length : Int) := by omega
          have hs5 : (s : Int) < (B1.length : Int) := by rw [Hl1.out]; omega
          have hs6 : (s : Int) < (B2.length : Int) := by rw [Hl2.out]; omega
          have g1 : ((B1.length : Int) == (n : Int)) = true := by rw [Hl1.out]; simp
          have g2 : ((B2.length : Int) == (n : Int)) = true := by rw [Hl2.out]; simp
          obtain ⟨z1, hz1⟩ : ∃ z, endB rate keeps ds (endX false) (s : Int) = z := ⟨_, rfl⟩
          obtain ⟨z2, hz2⟩ : ∃ z, endB rate keeps ds (endX true) (s : Int) = z := ⟨_, rfl⟩
          rw [hz1] at x1 x3
          rw [hz2] at x2 x4
          have g3 : (z1 == z1) = true := by simp
          have g4 : (z2 == z2) = true := by simp
          clear hz1 hz2
          go_wp2_with fail
          (refine wp_region_ext 48 (by kernel_rfl) (by kernel_rfl) ?_; simp only [List.take_succ_cons, List.take_zero, List.drop_succ_cons, List.drop_zero]; (repeat (go_big_quiet_step (((go_at_call 17; refine Calls_ext (awake_any _)))))); refine wpQuiet_nil ?_; rintro _ ⟨ex, rfl⟩; have hex := ex.below; have hexz := ex.size; (try simp at hexz); (try (have hy0 : w.heap.size < ex.to.heap.size := by omega)); (try (have hy1 : w.heap.size + 1 < ex.to.heap.size := by omega)); (try (have hy2 : w.heap.size + 2 < ex.to.heap.size := by omega)))
          go_wp2
          go_ret
          exact ⟨rfl, (tY.trans (s12.mono tY.size)).trans (ex.below.mono (tY.trans (s12.mono tY.size)).size)⟩
theorem truth_walk (st rate keeps : Int) (ds : List Dis) (ad : Option Addr) (cd : Nat) (aw : Option Addr) (ws : List Int) (cw : Nat) (wh : Int) (w : World) (hd : DisAt w ad ds) (big : AccBig ds) (hw : U16At w aw ws) (nw : aw = none → cw = 0) (lw : ws.length ≤ cw) (mw : cw ≤ maxLen) (hu : ∀ n ∈ ws, 0 ≤ n ∧ n ≤ 65535) (hwh : 0 ≤ wh ∧ wh ≤ 255) :
    Calls Try.prog 12 #[.agg #[.int .i64 st, .int .i64 rate, .int .i64 keeps, .slice ad ds.length cd], .slice aw ws.length cw, .int .u8 wh] w fun e w' => e = .returned (.bool true) ∧ Below w.heap.size w w' := by
  by_cases hT : thinB ds = true
  · by_cases h0 : accErr ⟨st, rate, keeps, ds⟩ = 0
    · exact truth_a3 st rate keeps ds ad cd aw ws cw wh w hd big hw nw lw mw hu hwh hT h0
    · exact truth_a2 st rate keeps ds ad cd aw ws cw wh w hd big hw nw lw mw hu hwh hT h0
  · exact truth_a1 st rate keeps ds ad cd aw ws cw wh w hd big hw nw lw mw hu hwh (by simpa using hT)
end Go.Proofs.Ytomjlmhnjgohdaa
