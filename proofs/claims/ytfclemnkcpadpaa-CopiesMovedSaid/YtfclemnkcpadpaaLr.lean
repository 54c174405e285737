/- CopiesMoved: the walk -/
import Derived.Test.YtfclemnkcpadpaaSd
import Derived.Test.YtfclemnkcpadpaaPh
namespace Go.Proofs.Ytfclemnkcpadpaa
set_option linter.unusedVariables false
set_option linter.unusedSimpArgs false
set_option linter.unnecessarySimpa false
open Go.RowKit Go.Flow Go.Shelf

theorem sh_take {xs : List Int} {n : Int} {k : Nat} (h : k < xs.length) : ((xs.take (k + 1)).map (· + n)).map (Value.int .i64) = ((xs.take k).map (· + n)).map (Value.int .i64) ++ [.int .i64 (xs[k] + n)] := by
  rw [List.take_succ_eq_append_getElem h, List.map_append, List.map_append]; rfl
theorem sh_asl {xs : List (Int × Int)} {n : Int} {k : Nat} (h : k < xs.length) : flat2 ((xs.take (k + 1)).map (shA n)) = flat2 ((xs.take k).map (shA n)) ++ [.int .i64 (xs[k].1 + n), .int .i64 (xs[k].2 + n)] := by
  rw [List.take_succ_eq_append_getElem h, List.map_append]
  simp [flat2, shA]
theorem sh_small {n : Int} {p : Post} (h : PostSmall p) : PostSmall (shP n p) := by
  refine ⟨by simpa [shP] using h.1, by simpa [shP] using h.2, fun r hr => ?_, fun r hr l hl => ?_⟩
  · obtain ⟨q, hq, rfl⟩ := List.mem_map.1 hr
    simpa [shR] using h.l q hq
  · obtain ⟨q, hq, rfl⟩ := List.mem_map.1 hr
    obtain ⟨m, hm, rfl⟩ := List.mem_map.1 hl
    simpa [shL] using h.a q hq m hm

theorem hoursOut_bd (p : Post) (i r : Int) : ∀ x ∈ hoursOut p i r, 0 ≤ x ∧ x ≤ 100 := by
  intro x hx
  unfold hoursOut at hx
  split at hx
  · obtain ⟨m, hm, rfl⟩ := List.mem_map.1 hx
    have := (List.mem_filter.1 hm).1
    have := List.mem_range.1 this
    omega
  · cases hx
theorem hoursOut_len (p : Post) (i r : Int) : (hoursOut p i r).length ≤ 1000 := by
  unfold hoursOut
  split
  · have := hrList_len (hrF p i.toNat r.toNat); omega
  · simp
theorem finN_bd {p : Post} (h0 : postErr p = 0) {F : Nat → Int} (hF : ∀ i, i < p.sends.length → 0 ≤ F i) : ∀ k, k ≤ p.sends.length → 0 ≤ finN p F k ∧ finN p F k ≤ 60
  | 0, _ => ⟨Int.le_refl _, by show (0 : Int) ≤ 60; omega⟩
  | k + 1, hk => by
    have := finN_bd h0 hF k (by omega)
    have := dead_bd' h0 (k := k) (by omega)
    have := hF k (by omega)
    rw [finN_succ]; omega
theorem span_bd {p : Post} (h0 : postErr p = 0) {k : Nat} (hk : k < p.sends.length) : 0 ≤ (spanAt p k).1 ∧ (spanAt p k).1 ≤ 60 ∧ 0 ≤ (spanAt p k).2 ∧ (spanAt p k).2 ≤ 60 := by
  have h1 := finN_bd h0 (F := earliestF p) (fun i hi => (ear_nn h0 hi).1) (k + 1) (by omega)
  have h2 := finN_bd h0 (F := latestF p) (fun i hi => (ear_nn h0 hi).2) (k + 1) (by omega)
  exact ⟨h1.1, h1.2, h2.1, h2.2⟩

set_option maxRecDepth 100000 in
set_option maxHeartbeats 8000000 in
theorem moved_a1 (a : Option Addr) (c : Nat) (ar : Option Addr) (cr : Nat) (p : Post) (y1 y2 y3 : Int) (w : World) (hs : IntsAt w a p.sends) (hr : RoutesAt w ar p.routes) (na : a = none → c = 0) (big : PostBig p) (hT : readyB p = false) :
    Calls Try.prog 10 #[.agg #[.slice a p.sends.length c, .slice ar p.routes.length cr, .int .i64 p.pat], .int .u8 y1, .int .u8 y2, .int .u8 y3] w fun e w' => e = .returned (.bool true) ∧ Below w.heap.size w w' := by

  have HB := Lib.hid big
  have HT := Lib.hid hT
  clear hT big
  go_enter Try.func10, Try.ntmps10
  go_wp2_with fail
  go_at_call 44
  refine (ready_eq a c ar cr p _ false HT (hs.below (by (repeat (first | exact Below.refl _ _ | refine Below.alloc ?_ (by first | omega | (simp; done) | (simp; omega)) _ | refine Below.drew ?_ | refine Below.setCell ?_ (by first | omega | (simp; done) | (simp; omega)) _ | refine Below.trans ?_ (Below.mono (by assumption) (by first | omega | (simp; done) | (simp; omega))))))) (hr.below (by (repeat (first | exact Below.refl _ _ | refine Below.alloc ?_ (by first | omega | (simp; done) | (simp; omega)) _ | refine Below.drew ?_ | refine Below.setCell ?_ (by first | omega | (simp; done) | (simp; omega)) _ | refine Below.trans ?_ (Below.mono (by assumption) (by first | omega | (simp; done) | (simp; omega))))))) HB.out).mono ?_
  rintro e w1 ⟨rfl, b1⟩
  have t1 : Below w.heap.size w w1 := by (repeat (first | exact Below.refl _ _ | refine Below.alloc ?_ (by first | omega | (simp; done) | (simp; omega)) _ | refine Below.drew ?_ | refine Below.setCell ?_ (by first | omega | (simp; done) | (simp; omega)) _ | refine Below.trans ?_ (Below.mono (by assumption) (by first | omega | (simp; done) | (simp; omega)))))
  replace hs := hs.below t1
  replace hr := hr.below t1
  have q0 := box_cells b1 0 rfl
  have q1 := box_cells b1 1 rfl
  have q2 := box_cells b1 2 rfl
  have lB := cell_ltK q0
  go_wp2_with fail
  go_at_call 19
  refine (awake_any _).mono ?_
  rintro e w2 ⟨rfl, b2⟩
  have j2 : Below w1.heap.size w1 w2 := by (repeat (first | exact Below.refl _ _ | refine Below.alloc ?_ (by first | omega | (simp; done) | (simp; omega)) _ | refine Below.drew ?_ | refine Below.setCell ?_ (by first | omega | (simp; done) | (simp; omega)) _ | refine Below.trans ?_ (Below.mono (by assumption) (by first | omega | (simp; done) | (simp; omega)))))
  have t2 : Below w.heap.size w w2 := t1.trans (j2.mono t1.size)
  replace hs := hs.below j2
  replace hr := hr.below j2
  replace q0 := below_cell j2 q0
  replace q1 := below_cell j2 q1
  replace q2 := below_cell j2 q2
  replace lB := Nat.lt_of_lt_of_le lB j2.size
  go_wp2_with fail
  go_ret
  exact ⟨rfl, t2⟩

set_option maxRecDepth 100000 in
set_option maxHeartbeats 8000000 in
theorem moved_a2 (a : Option Addr) (c : Nat) (ar : Option Addr) (cr : Nat) (p : Post) (y1 y2 y3 : Int) (w : World) (hs : IntsAt w a p.sends) (hr : RoutesAt w ar p.routes) (na : a = none → c = 0) (big : PostBig p) (hy1 : (Lit.int .u8 y1).wf = true) (hy2 : (Lit.int .u8 y2).wf = true) (hy3 : (Lit.int .u8 y3).wf = true) (hT : readyB p = true) :
    Calls Try.prog 10 #[.agg #[.slice a p.sends.length c, .slice ar p.routes.length cr, .int .i64 p.pat], .int .u8 y1, .int .u8 y2, .int .u8 y3] w fun e w' => e = .returned (.bool true) ∧ Below w.heap.size w w' := by

  have HB := Lib.hid big
  have HT := Lib.hid hT
  have SM := Lib.hid (ready_small hT).1
  have HE := Lib.hid (ready_small hT).2
  have lS : p.sends.length ≤ 1000 := SM.out.1
  have lR : p.routes.length ≤ 1000 := SM.out.2
  obtain ⟨m1, rfl, hm1⟩ := u8_bd hy1
  obtain ⟨m2, rfl, hm2⟩ := u8_bd hy2
  obtain ⟨m3, rfl, hm3⟩ := u8_bd hy3
  obtain ⟨n, hn⟩ : ∃ n, m1 % 12 = n := ⟨_, rfl⟩
  have hn11 : n ≤ 11 := by omega
  have hrem : Int.tmod (m1 : Int) 12 = (n : Int) := by rw [← hn]; rfl
  have pS : 0 < p.sends.length := List.length_pos_iff.2 (postErr_ok HE.out).2.2.2.1
  have pR : 0 < p.routes.length := List.length_pos_iff.2 (postErr_ok HE.out).2.2.2.2.1
  have hhs := Lib.hid (post_hours HE.out)
  have HLG := Lib.hid (post_legs HE.out)
  have SX := Lib.hid (sh_small (n := (n : Int)) SM.out)
  have lL := Lib.hid SM.out.l
  have lA := Lib.hid SM.out.a
  clear hT big hn hy1 hy2 hy3
  go_enter Try.func10, Try.ntmps10
  go_wp2_with fail
  go_at_call 44
  refine (ready_eq a c ar cr p _ true HT (hs.below (by (repeat (first | exact Below.refl _ _ | refine Below.alloc ?_ (by first | omega | (simp; done) | (simp; omega)) _ | refine Below.drew ?_ | refine Below.setCell ?_ (by first | omega | (simp; done) | (simp; omega)) _ | refine Below.trans ?_ (Below.mono (by assumption) (by first | omega | (simp; done) | (simp; omega))))))) (hr.below (by (repeat (first | exact Below.refl _ _ | refine Below.alloc ?_ (by first | omega | (simp; done) | (simp; omega)) _ | refine Below.drew ?_ | refine Below.setCell ?_ (by first | omega | (simp; done) | (simp; omega)) _ | refine Below.trans ?_ (Below.mono (by assumption) (by first | omega | (simp; done) | (simp; omega))))))) HB.out).mono ?_
  rintro e w1 ⟨rfl, b1⟩
  have t1 : Below w.heap.size w w1 := by (repeat (first | exact Below.refl _ _ | refine Below.alloc ?_ (by first | omega | (simp; done) | (simp; omega)) _ | refine Below.drew ?_ | refine Below.setCell ?_ (by first | omega | (simp; done) | (simp; omega)) _ | refine Below.trans ?_ (Below.mono (by assumption) (by first | omega | (simp; done) | (simp; omega)))))
  replace hs := hs.below t1
  replace hr := hr.below t1
  have q0 := box_cells b1 0 rfl
  have q1 := box_cells b1 1 rfl
  have q2 := box_cells b1 2 rfl
  have lB := cell_ltK q0
  go_wp2_with fail
  obtain ⟨X0, hX0⟩ : ∃ z : World, z = w1.alloc (.cells #[.slice none 0 0, .slice none 0 0, .int .i64 p.pat] 25) := ⟨_, rfl⟩
  have b0 : Below w1.heap.size w1 X0 := by rw [hX0]; exact (Below.refl _ _).alloc (Nat.le_refl _) _
  have CX0 : Cells X0 w1.heap.size #[.slice none 0 0, .slice none 0 0, .int .i64 p.pat] 25 := by rw [hX0]; exact Cells.new _ _ _
  rw [← hX0]
  clear hX0
  obtain ⟨Bx, hBx⟩ : ∃ z : Nat, z = w1.heap.size := ⟨_, rfl⟩
  have hBx1 : w1.heap.size ≤ Bx := by omega
  rw [← hBx] at CX0 ⊢
  clear hBx
  go_loopw [11] (fun u wr => ∃ (k : Nat) (aq : Option Addr) (cq : Nat), k ≤ p.sends.length ∧ u = .int .i64 k ∧ OwnL 3 1 w1.heap.size wr aq cq k (((p.sends.take k).map (· + (n : Int))).map (Value.int .i64)) ∧ Cells wr Bx #[.slice aq k cq, .slice none 0 0, .int .i64 p.pat] 25 ∧ Below w1.heap.size w1 wr) (fun u _ => p.sends.length - (intOf u).toNat)
  case atStart => exact ⟨0, none, 0, Nat.zero_le _, rfl, OwnL.nil _ _ _ _, CX0, b0⟩
  case round =>
    obtain ⟨k, a4, c4, hk, rfl, hown, cX, hb⟩ := hrel
    clear CX0 b0
    have zb := hb.size
    have d0 := below_cell hb q0
    have ld0 := cell_ltK d0
    have x0 := cX.cell 0
    have lX := cX.lt
    simp at x0
    by_cases hkl : k < p.sends.length
    · have hkI : (k : Int) < (p.sends.length : Int) := by omega
      obtain ⟨bS, offS, rfl, hbS, s0⟩ := (hs.below hb) k hkl
      have s0' : wr.cell? ⟨bS, offS + k, none⟩ = some (.int .i64 p.sends[k]) := s0.trans (by simp [hkl])
      have sb := hhs.out.s _ (List.getElem_mem hkl)
      have Htk := Lib.hid (sh_take (n := (n : Int)) hkl)
      obtain ⟨s, hse⟩ : ∃ s, p.sends[k] = s := ⟨_, rfl⟩
      rw [hse] at s0' sb Htk
      have hwn : IntKind.i64.wrap (s + (n : Int)) = s + (n : Int) := IntWalk.i64_in _ (by omega)
      clear s0 hse
      go_wp2
      (refine wp_region_seq 10 [] [10, 11, 12] 265 [true, true, true, true, true, true, true, true, true, false] [LitV wr.heap.size 1 #[.int .i64 (s + (n : Int))] 3] (by kernel_rfl) (by kernel_rfl) rfl (mono_cons (fun v w w' h hb => h.kept hb) mono_nil) ?_; simp only [pickOps, List.filterMap_cons, List.filterMap_nil, List.getElem?_toArray, List.getElem?_cons_succ, List.getElem?_cons_zero]; (repeat (refine wpFl_step _ rfl (fun w => (by go_simp; rfl)) ?_)); refine wpFl_nil ?_; simp only [maskOps, dummy, Act.put, List.setIfInBounds_toArray, List.set_cons_zero, List.set_cons_succ, List.take_succ_cons, List.take_zero, List.drop_succ_cons, List.drop_zero]; (repeat (refine wpQB_step (fun K hK => ?_); go_simp; first | (refine hK _ ?_; clear hK K) | (apply Exists.intro; refine ⟨fun ex => ?_, hK _ ?_⟩; (fail); clear hK K))); refine wpQB_nil ?_; simp only [relObl2, under, relEnd, and_true, List.nil_append, List.cons_append])
      refine ⟨?_, ?_⟩
      · intro e
        go_simp
        exact ⟨(Below.refl _ _).alloc (Nat.le_refl _) _, e.to.heap.size, rfl, e.size, Cells.new _ _ _⟩
      intro e
      rintro v1 ⟨gg, rfl, hg, CG⟩
      simp only [Act.put, List.setIfInBounds_toArray, List.set_cons_zero, List.set_cons_succ]
      have he5 := e.below
      obtain ⟨w5, hw5⟩ : ∃ x : World, x = e.to := ⟨_, rfl⟩
      rw [← hw5] at he5 CG ⊢
      clear hw5 e
      have z5 := he5.size
      have own5 := hown.kept he5
      have CX5 := cX.below he5
      refine wpList_app_g elInt rfl _ _ rfl w1.heap.size a4 k c4 _ rfl own5 (some ⟨gg, 0, none⟩) 1 1 [.int .i64 (s + (n : Int))] rfl (fun h => by cases h) rfl CG.src (fun u hu => by simp at hu; subst hu; rfl) (by unfold maxLen; omega) (by omega) (by omega) ?_
      intro a8 c8 w8 own8 hb8 hg8
      have X8 := CX5.grown hg8 (CX5.not_row (by decide) own5)
      have y0 := X8.cell 0
      have f0 := X8.frozen 0
      have l8 := X8.lt
      simp at y0
      have own9 : OwnL 3 1 w1.heap.size w8 a8 c8 (k + 1) (((p.sends.take (k + 1)).map (· + (n : Int))).map (Value.int .i64)) := by rw [Htk.out]; exact own8
      go_wp2
      go_roundw
      case rel => exact ⟨k + 1, a8, c8, by omega, by go_num, own9.setAt X8 (by decide) 0 _, X8.set 0 _, (hb.trans (he5.mono zb)).trans (hb8.setCell (p := ⟨Bx, 0, none⟩) hBx1 _)⟩
      case measure => simp [intOf]; omega
    · obtain rfl : k = p.sends.length := by omega
      rw [List.take_length] at hown
      go_wp2
      go_loopw [12] (fun u wr => ∃ (k : Nat) (aq : Option Addr) (cq : Nat), k ≤ p.routes.length ∧ u = .int .i64 k ∧ RRoutesOwn w1.heap.size wr (aq, cq) (p.routes.map (shR (n : Int))) k ∧ Cells wr Bx #[.slice a4 p.sends.length c4, .slice aq k cq, .int .i64 p.pat] 25 ∧ OwnL 3 1 w1.heap.size wr a4 c4 p.sends.length ((p.sends.map (· + (n : Int))).map (Value.int .i64)) ∧ Below w1.heap.size w1 wr) (fun u _ => p.routes.length - (intOf u).toNat)
      case atStart => exact ⟨0, none, 0, Nat.zero_le _, rfl, NestOwn.nil _ _ _, cX, hown, hb⟩
      case round =>
        clear cX hown hb zb d0 ld0 x0 lX
        obtain ⟨k, aq, cq, hk, rfl, hR, cX, hO, hb⟩ := hrel
        have zb := hb.size
        have d1 := below_cell hb q1
        have ld1 := cell_ltK d1
        by_cases hkl : k < p.routes.length
        · have hkI : (k : Int) < (p.routes.length : Int) := by omega
          obtain ⟨bR, offR, al, ca, rfl, hbR, e0, e1, eL⟩ := (hr.below hb) k hkl
          have lo := HLG.out p.routes[k] (List.getElem_mem hkl)
          have hll := lL.out _ (List.getElem_mem hkl)
          have HLA := Lib.hid (lA.out _ (List.getElem_mem hkl))
          have hx : Hid ((p.routes.map (shR (n : Int)))[k]? = some (shR (n : Int) p.routes[k])) := Lib.hid (by simp [hkl])
          obtain ⟨r, hre⟩ : ∃ x, p.routes[k] = x := ⟨_, rfl⟩
          rw [hre] at e0 e1 eL lo hll HLA hx
          clear hre
          have Hlok := Lib.hid lo.2.1
          obtain ⟨ly, hly⟩ : ∃ x, r.lossy = x := ⟨_, rfl⟩
          have Hrv : Hid (∀ pp : Option Addr × Nat, routeV (shR (n : Int) r) pp = [.slice pp.1 r.legs.length pp.2, .bool ly]) := Lib.hid (fun pp => by unfold routeV shR; simp [hly])
          rw [hly] at e1
          clear lo hly
          go_wp2
          obtain ⟨Wo, hWo⟩ : ∃ z : World, z = wr := ⟨_, rfl⟩
          subst hWo
          obtain ⟨Wx, hWx⟩ : ∃ z : World, z = Wo.alloc (.cells #[.slice none 0 0, .bool ly] 54) := ⟨_, rfl⟩
          have bX : Below Wo.heap.size Wo Wx := by rw [hWx]; exact (Below.refl _ _).alloc (Nat.le_refl _) _
          have CY : Cells Wx Wo.heap.size #[.slice none 0 0, .bool ly] 54 := by rw [hWx]; exact Cells.new _ _ _
          rw [← hWx]
          clear hWx
          go_loopw [14] (fun o wq => ∃ (j : Nat) (am : Option Addr) (cm : Nat), j ≤ r.legs.length ∧ o = .int .i64 j ∧ RLegsOwn Wo.heap.size wq (am, cm) (r.legs.map (shL (n : Int))) j ∧ Cells wq Wo.heap.size #[.slice am j cm, .bool ly] 54 ∧ Below Wo.heap.size Wo wq) (fun o _ => r.legs.length - (intOf o).toNat)
          case atStart => exact ⟨0, none, 0, Nat.zero_le _, rfl, NestOwn.nil _ _ _, CY, bX⟩
          case round =>
            obtain ⟨j, am, cm, hj, rfl, hJ, cY, hb2⟩ := hrel
            clear CY bX
            have z2 := hb2.size
            have dd1 := below_cell hb2 d1
            have ldd1 := cell_ltK dd1
            have g0 := below_cell hb2 e0
            have lg0 := cell_ltK g0
            by_cases hjl : j < r.legs.length
            · have hjI : (j : Int) < (r.legs.length : Int) := by omega
              obtain ⟨bL, offL, ar6, c6, rfl, hbL, l0, l1, l2, eA⟩ := (eL.below hb2) j hjl
              have hlk := List.all_eq_true.1 Hlok.out _ (List.getElem_mem hjl)
              have hla := HLA.out _ (List.getElem_mem hjl)
              have hy : Hid ((r.legs.map (shL (n : Int)))[j]? = some (shL (n : Int) r.legs[j])) := Lib.hid (by simp [hjl])
              obtain ⟨lg, hlg⟩ : ∃ x, r.legs[j] = x := ⟨_, rfl⟩
              rw [hlg] at l0 l1 l2 eA hlk hla hy
              clear hlg
              have HK := Lib.hid (legOk_iff.1 hlk).2.2.2
              obtain ⟨lo, hlo⟩ : ∃ x, lg.lo = x := ⟨_, rfl⟩
              obtain ⟨hi, hhi⟩ : ∃ x, lg.hi = x := ⟨_, rfl⟩
              rw [hlo] at l0
              rw [hhi] at l1
              have Hlv : Hid (∀ pp : Option Addr × Nat, legV (shL (n : Int) lg) pp = [.int .i64 lo, .int .i64 hi, .slice pp.1 lg.asl.length pp.2]) := Lib.hid (fun pp => by unfold legV shL; simp [hlo, hhi])
              clear hlo hhi hlk
              go_wp2
              obtain ⟨Wp, hWp⟩ : ∃ z : World, z = wr := ⟨_, rfl⟩
              subst hWp
              obtain ⟨Wz, hWz⟩ : ∃ z : World, z = Wp.alloc (.cells #[.int .i64 lo, .int .i64 hi, .slice none 0 0] 86) := ⟨_, rfl⟩
              have bZ : Below Wp.heap.size Wp Wz := by rw [hWz]; exact (Below.refl _ _).alloc (Nat.le_refl _) _
              have CZ : Cells Wz Wp.heap.size #[.int .i64 lo, .int .i64 hi, .slice none 0 0] 86 := by rw [hWz]; exact Cells.new _ _ _
              rw [← hWz]
              clear hWz
              go_loopw [16] (fun o wq => ∃ (i : Nat) (an : Option Addr) (cn : Nat), i ≤ lg.asl.length ∧ o = .int .i64 i ∧ OwnL 64 2 Wp.heap.size wq an cn i (flat2 ((lg.asl.take i).map (shA (n : Int)))) ∧ Cells wq Wp.heap.size #[.int .i64 lo, .int .i64 hi, .slice an i cn] 86 ∧ Below Wp.heap.size Wp wq) (fun o _ => lg.asl.length - (intOf o).toNat)
              case atStart => exact ⟨0, none, 0, Nat.zero_le _, rfl, OwnL.nil _ _ _ _, CZ, bZ⟩
              case round =>
                obtain ⟨i, an, cn, hi', rfl, hA, cZ, hb3⟩ := hrel
                clear CZ bZ
                have z3 := hb3.size
                have ddd1 := below_cell hb3 dd1
                have lddd1 := cell_ltK ddd1
                have gg0 := below_cell hb3 g0
                have lgg0 := cell_ltK gg0
                have k2 := below_cell hb3 l2
                have lk2 := cell_ltK k2
                have x2 := cZ.cell 2
                have lZ := cZ.lt
                simp at x2
                by_cases hil : i < lg.asl.length
                · have hiI : (i : Int) < (lg.asl.length : Int) := by omega
                  obtain ⟨bA, offA, rfl, hbA, r0, r1⟩ := (eA.below hb3) i hil
                  have hub := List.all_eq_true.1 HK.out _ (List.getElem_mem hil)
                  have Hta := Lib.hid (sh_asl (n := (n : Int)) hil)
                  obtain ⟨⟨u0, u1⟩, hue⟩ : ∃ x, lg.asl[i] = x := ⟨_, rfl⟩
                  rw [hue] at r0 r1 hub Hta
                  simp only at r0 r1 Hta
                  have hu : 0 ≤ u0 ∧ u0 ≤ u1 ∧ u1 ≤ 30 := by
                    simp only [uptoB, Bool.and_eq_true, decide_eq_true_eq] at hub
                    omega
                  clear hue hub
                  go_wp2_with (at_builtin; refine wpList_app_g el_rranges rfl _ _ rfl Wp.heap.size an i cn _ rfl ((hA.alloc _).alloc _) (some ⟨wr.heap.size + 1, 0, none⟩) 1 1 [.int .i64 (u0 + (n : Int)), .int .i64 (u1 + (n : Int))] rfl (fun h => by cases h) rfl (Cells.src (Cells.new' _ _ _ _ (by simp))) (fun u hu => by simp at hu; rcases hu with rfl | rfl <;> rfl) (by unfold maxLen; omega) (by omega) (by simp; omega) ?_; intro a8 c8 w8 own8 hb8 hg8; have X7 := (cZ.alloc (.cells #[.int .i64 u0, .int .i64 u1] 64)).alloc (.cells #[.int .i64 (u0 + (n : Int)), .int .i64 (u1 + (n : Int))] 64); have X8 := X7.grown hg8 (X7.not_row (by decide) ((hA.alloc _).alloc _)); have y2 := X8.cell 2; have f2 := X8.frozen 2; have l8 := X8.lt; simp at y2)
                  have own9 : OwnL 64 2 Wp.heap.size w8 a8 c8 (i + 1) (flat2 ((lg.asl.take (i + 1)).map (shA (n : Int)))) := by rw [Hta.out]; exact own8
                  go_roundw
                  case rel => exact ⟨i + 1, a8, c8, by omega, by go_num, own9.setAt X8 (by decide) 2 _, X8.set 2 _, (hb3.trans ((((Below.refl _ _).alloc (Nat.le_refl _) _).alloc (by simp) _).mono z3)).trans (hb8.setCell (p := ⟨Wp.heap.size, 2, none⟩) (Nat.le_refl _) _)⟩
                  case measure => simp [intOf]; omega
                · obtain rfl : i = lg.asl.length := by omega
                  rw [List.take_length] at hA
                  have hJ3 := hJ.kept hb3
                  have cY3 := cY.below hb3
                  have hA' : OwnL 64 2 Wo.heap.size wr an cn lg.asl.length (flat2 (lg.asl.map (shA (n : Int)))) := hA.base_le z2
                  have v0 := cZ.cell 0
                  have v1 := cZ.cell 1
                  have y0 := cY3.cell 0
                  have lY := cY3.lt
                  simp at v0 v1 y0
                  obtain ⟨ps, hps, hown, hsub⟩ := hJ3
                  go_wp2_with (at_builtin; refine wpList_app_g el_rlegs rfl _ _ rfl Wo.heap.size am j cm _ rfl (hown.alloc _) (some ⟨wr.heap.size, 0, none⟩) 1 1 [.int .i64 lo, .int .i64 hi, .slice an lg.asl.length cn] rfl (fun h => by cases h) rfl (Cells.src (Cells.new _ _ _)) (fun u hu => by simp at hu; rcases hu with rfl | rfl | rfl <;> rfl) (by unfold maxLen; omega) (by omega) (by simp; omega) ?_; intro a8 c8 w8 own8 hb8 hg8; have X7 := cY3.alloc (.cells #[.int .i64 lo, .int .i64 hi, .slice an lg.asl.length cn] 86); have X8 := X7.grown hg8 (X7.not_row (by decide) (hown.alloc _)); have y2 := X8.cell 0; have f2 := X8.frozen 0; have l8 := X8.lt; simp at y2)
                  have hgA : ∀ {pp : Option Addr × Nat} {y : Leg}, RAslOwn Wo.heap.size wr pp y → RAslOwn Wo.heap.size w8 pp y := fun {pp y} h => OwnL.grown (OwnL.alloc (show OwnL 64 2 Wo.heap.size wr pp.1 pp.2 y.asl.length (flat2 y.asl) from h) _) hg8 (OwnL.apart (by decide) h hown)
                  have hAsl : RAslOwn Wo.heap.size wr (an, cn) (shL (n : Int) lg) := by
                    show OwnL 64 2 Wo.heap.size wr an cn (shL (n : Int) lg).asl.length (flat2 (shL (n : Int) lg).asl)
                    rw [show (shL (n : Int) lg).asl.length = lg.asl.length by simp [shL]]
                    exact hA'
                  have own9 : OwnL 86 3 Wo.heap.size w8 a8 c8 (j + 1) ((((r.legs.map (shL (n : Int))).zip ps).flatMap fun x => legV x.1 x.2) ++ legV (shL (n : Int) lg) (an, cn)) := by rw [Hlv.out]; exact own8
                  have J8 : RLegsOwn Wo.heap.size w8 (a8, c8) (r.legs.map (shL (n : Int))) (j + 1) := NestOwn.snoc hps hy.out (an, cn) own9 (fun q y p h1 h2 => hgA (hsub q y p h1 h2)) (hgA hAsl)
                  go_roundw
                  case rel => exact ⟨j + 1, a8, c8, by omega, by go_num, J8.setAt X8 (by decide) (by decide) 0 _, X8.set 0 _, (hb2.trans ((hb3.trans (((Below.refl _ _).alloc (Nat.le_refl _) _).mono z3)).mono z2)).trans (hb8.setCell (p := ⟨Wo.heap.size, 0, none⟩) (Nat.le_refl _) _)⟩
                  case measure => simp [intOf]; omega
            · obtain rfl : j = r.legs.length := by omega
              have hR2 := hR.kept hb2
              have hO2 := hO.kept hb2
              have cX2 := cX.below hb2
              have o1 := cX2.cell 1
              have lo1 := cX2.lt
              have yy0 := cY.cell 0
              have yy1 := cY.cell 1
              have lYY := cY.lt
              simp at o1 yy0 yy1
              obtain ⟨ps, hps, hown, hsub⟩ := hR2
              have hJ' : RLegsOwn w1.heap.size wr (am, cm) (r.legs.map (shL (n : Int))) (r.legs.map (shL (n : Int))).length := by
                rw [List.length_map]; exact hJ.base_le zb
              go_wp2_with (at_builtin; refine wpList_app_g el_rroutes rfl _ _ rfl w1.heap.size aq k cq _ rfl (hown.alloc _) (some ⟨wr.heap.size, 0, none⟩) 1 1 [.slice am r.legs.length cm, .bool ly] rfl (fun h => by cases h) rfl (Cells.src (Cells.new _ _ _)) (fun u hu => by simp at hu; rcases hu with rfl | rfl <;> rfl) (by unfold maxLen; omega) (by omega) (by simp; omega) ?_; intro a8 c8 w8 own8 hb8 hg8; have X7 := cX2.alloc (.cells #[.slice am r.legs.length cm, .bool ly] 54); have X8 := X7.grown hg8 (X7.not_row (by decide) (hown.alloc _)); have y2 := X8.cell 1; have f2 := X8.frozen 1; have l8 := X8.lt; simp at y2)
              have hgA : ∀ {pp : Option Addr × Nat} {y : Leg}, RAslOwn w1.heap.size wr pp y → RAslOwn w1.heap.size w8 pp y := fun {pp y} h => OwnL.grown (OwnL.alloc (show OwnL 64 2 w1.heap.size wr pp.1 pp.2 y.asl.length (flat2 y.asl) from h) _) hg8 (OwnL.apart (by decide) h hown)
              have hgL : ∀ {pp : Option Addr × Nat} {y : List Leg}, RLegsOwn w1.heap.size wr pp y y.length → RLegsOwn w1.heap.size w8 pp y y.length := fun {pp y} h => by
                obtain ⟨qs, q1, q2, q3⟩ := h
                exact ⟨qs, q1, OwnL.grown (OwnL.alloc q2 _) hg8 (OwnL.apart (by decide) q2 hown), fun q x p hx hp => hgA (q3 q x p hx hp)⟩
              have hO8 : OwnL 3 1 w1.heap.size w8 a4 c4 p.sends.length ((p.sends.map (· + (n : Int))).map (Value.int .i64)) := OwnL.grown (OwnL.alloc hO2 _) hg8 (OwnL.apart (by decide) hO2 hown)
              have own9 : OwnL 54 2 w1.heap.size w8 a8 c8 (k + 1) ((((p.routes.map (shR (n : Int))).zip ps).flatMap fun x => routeV x.1 x.2) ++ routeV (shR (n : Int) r) (am, cm)) := by rw [Hrv.out]; exact own8
              have R8 : RRoutesOwn w1.heap.size w8 (a8, c8) (p.routes.map (shR (n : Int))) (k + 1) := NestOwn.snoc hps hx.out (am, cm) own9 (fun q y p h1 h2 => hgL (hsub q y p h1 h2)) (hgL hJ')
              go_roundw
              case rel => exact ⟨k + 1, a8, c8, by omega, by go_num, R8.setAt X8 (by decide) (by decide) (by decide) 1 _, X8.set 1 _, hO8.setAt X8 (by decide) 1 _, (hb.trans ((hb2.trans (((Below.refl _ _).alloc (Nat.le_refl _) _).mono z2)).mono zb)).trans (hb8.setCell (p := ⟨Bx, 1, none⟩) hBx1 _)⟩
              case measure => simp [intOf]; omega
        · obtain rfl : k = p.routes.length := by omega
          have lenX : (p.routes.map (shR (n : Int))).length = p.routes.length := List.length_map _
          have oX : RoutesAt wr aq (shP (n : Int) p).routes := RRoutesOwn.at (show RRoutesOwn w1.heap.size wr (aq, cq) (p.routes.map (shR (n : Int))) (p.routes.map (shR (n : Int))).length from by rw [lenX]; exact hR)
          have iX : IntsAt wr a4 (shP (n : Int) p).sends := (OwnL.ints hO).1
          have na4 : a4 = none → c4 = 0 := fun h => by subst h; exact hO.isnil.2
          have HNx : Hid ((shP (n : Int) p).sends.length = p.sends.length) := Lib.hid (by simp [shP])
          have HRx : Hid ((shP (n : Int) p).routes.length = p.routes.length) := Lib.hid (by simp [shP])
          have HPx : Hid ((shP (n : Int) p).pat = p.pat) := Lib.hid rfl
          have u0 := cX.cell 0
          have u1 := cX.cell 1
          have u2 := cX.cell 2
          have lX := cX.lt
          simp at u0 u1 u2
          clear hR hO cX d1 ld1 zb lenX
          by_cases hX : postErr (shP (n : Int) p) = 0
          · have HX := Lib.hid hX
            have hdi : ¬ ((p.sends.length : Int) = 0) := by omega
            have hdr : ¬ ((p.routes.length : Int) = 0) := by omega
            obtain ⟨i, hi⟩ : ∃ i, m2 % p.sends.length = i := ⟨_, rfl⟩
            obtain ⟨r, hr'⟩ : ∃ r, m3 % p.routes.length = r := ⟨_, rfl⟩
            have hiN : i < p.sends.length := by rw [← hi]; exact Nat.mod_lt _ pS
            have hrR : r < p.routes.length := by rw [← hr']; exact Nat.mod_lt _ pR
            have hti : Int.tmod (m2 : Int) (p.sends.length : Int) = (i : Int) := by rw [← hi]; rfl
            have htr : Int.tmod (m3 : Int) (p.routes.length : Int) = (r : Int) := by rw [← hr']; rfl
            have hw2 : IntKind.i64.wrap (m2 : Int) = (m2 : Int) := IntWalk.i64_in _ (by omega)
            have hw3 : IntKind.i64.wrap (m3 : Int) = (m3 : Int) := IntWalk.i64_in _ (by omega)
            obtain ⟨h1, h2, h3⟩ := sh_hours hn11 HE.out hX hiN hrR
            obtain ⟨O, hO⟩ : ∃ O, hoursOut p i r = O := ⟨_, rfl⟩
            have hOb : ∀ x ∈ O, 0 ≤ x ∧ x ≤ 100 := by rw [← hO]; exact hoursOut_bd p i r
            rw [hO] at h3
            obtain ⟨nO, hnO⟩ : ∃ n, O.length = n := ⟨_, rfl⟩
            have HH1 := Lib.hid h1
            have HH2 := Lib.hid h2
            have HO := Lib.hid hO
            have HOX := Lib.hid h3
            have HOb := Lib.hid hOb
            have HnO := Lib.hid hnO
            have HnX : Hid ((O.map (· + (n : Int))).length = nO) := Lib.hid (by rw [List.length_map, hnO])
            have HS : Hid (spansOut p = spansF p p.sends.length) := Lib.hid (by unfold spansOut; rw [if_pos HE.out])
            have HSX : Hid (spansOut (shP (n : Int) p) = (spansF p p.sends.length).map (shA (n : Int))) := Lib.hid (by rw [sh_spans hn11 HE.out hX, HS.out])
            have HnS : Hid ((spansF p p.sends.length).length = p.sends.length) := Lib.hid (spansF_len p _)
            have HnSX : Hid (((spansF p p.sends.length).map (shA (n : Int))).length = p.sends.length) := Lib.hid (by rw [List.length_map, spansF_len])
            have HSb : Hid (∀ k, k < p.sends.length → 0 ≤ (spanAt p k).1 ∧ (spanAt p k).1 ≤ 60 ∧ 0 ≤ (spanAt p k).2 ∧ (spanAt p k).2 ≤ 60) := Lib.hid (fun k hk => span_bd HE.out hk)
            have lnO : nO ≤ 1000 := by rw [← hnO, ← hO]; exact hoursOut_len p i r
            clear hX hi hr' h1 h2 h3 hO hnO hOb
            have b2 := hb
            obtain ⟨w2, hwq⟩ : ∃ x : World, x = wr := ⟨_, rfl⟩
            subst hwq
            have j2 : Below w1.heap.size w1 w2 := by (repeat (first | exact Below.refl _ _ | refine Below.alloc ?_ (by first | omega | (simp; done) | (simp; omega)) _ | refine Below.drew ?_ | refine Below.setCell ?_ (by first | omega | (simp; done) | (simp; omega)) _ | refine Below.trans ?_ (Below.mono (by assumption) (by first | omega | (simp; done) | (simp; omega)))))
            have t2 : Below w.heap.size w w2 := t1.trans (j2.mono t1.size)
            replace hs := hs.below j2
            replace hr := hr.below j2
            replace q0 := below_cell j2 q0
            replace q1 := below_cell j2 q1
            replace q2 := below_cell j2 q2
            replace lB := Nat.lt_of_lt_of_le lB j2.size
            go_wp2_with fail
            go_at_call 24
            refine (faultN_eq HNx HRx HPx 0 HX iX oX SX).mono ?_
            rintro e w3 ⟨rfl, b3⟩
            have j3 : Below w2.heap.size w2 w3 := by (repeat (first | exact Below.refl _ _ | refine Below.alloc ?_ (by first | omega | (simp; done) | (simp; omega)) _ | refine Below.drew ?_ | refine Below.setCell ?_ (by first | omega | (simp; done) | (simp; omega)) _ | refine Below.trans ?_ (Below.mono (by assumption) (by first | omega | (simp; done) | (simp; omega)))))
            have t3 : Below w.heap.size w w3 := t2.trans (j3.mono t2.size)
            replace hs := hs.below j3
            replace hr := hr.below j3
            replace q0 := below_cell j3 q0
            replace q1 := below_cell j3 q1
            replace q2 := below_cell j3 q2
            replace lB := Nat.lt_of_lt_of_le lB j3.size
            replace iX := iX.below j3
            replace oX := oX.below j3
            replace u0 := below_cell j3 u0
            replace u1 := below_cell j3 u1
            replace u2 := below_cell j3 u2
            replace lX := Nat.lt_of_lt_of_le lX j3.size
            go_wp2_with fail
            obtain ⟨bS, offS, hase, hbS, _⟩ := hs 0 pS
            obtain ⟨bR, offR, al0, ca0, hare, hbR, _⟩ := hr 0 pR
            subst hase hare
            (refine wp_region_ext 14 (by kernel_rfl) (by kernel_rfl) ?_; simp only [List.take_succ_cons, List.take_zero, List.drop_succ_cons, List.drop_zero]; (repeat (go_big_quiet_step ((fail)))); refine wpQuiet_nil ?_; rintro _ ⟨ex, rfl⟩; have hex := ex.below; have hexz := ex.size; (try simp at hexz); (try (have hy0 : w.heap.size < ex.to.heap.size := by omega)); (try (have hy1 : w.heap.size + 1 < ex.to.heap.size := by omega)); (try (have hy2 : w.heap.size + 2 < ex.to.heap.size := by omega)))
            have b4 := ex.below
            obtain ⟨w4, hwq⟩ : ∃ x : World, x = ex.to := ⟨_, rfl⟩
            rw [← hwq] at b4 ⊢
            clear hwq
            have j4 : Below w3.heap.size w3 w4 := by (repeat (first | exact Below.refl _ _ | refine Below.alloc ?_ (by first | omega | (simp; done) | (simp; omega)) _ | refine Below.drew ?_ | refine Below.setCell ?_ (by first | omega | (simp; done) | (simp; omega)) _ | refine Below.trans ?_ (Below.mono (by assumption) (by first | omega | (simp; done) | (simp; omega)))))
            have t4 : Below w.heap.size w w4 := t3.trans (j4.mono t3.size)
            replace hs := hs.below j4
            replace hr := hr.below j4
            replace q0 := below_cell j4 q0
            replace q1 := below_cell j4 q1
            replace q2 := below_cell j4 q2
            replace lB := Nat.lt_of_lt_of_le lB j4.size
            replace iX := iX.below j4
            replace oX := oX.below j4
            replace u0 := below_cell j4 u0
            replace u1 := below_cell j4 u1
            replace u2 := below_cell j4 u2
            replace lX := Nat.lt_of_lt_of_le lX j4.size
            go_wp2_with fail
            go_at_call 21
            refine (post_eq (some ⟨bS, offS, none⟩) c (some ⟨bR, offR, none⟩) cr p _ hs hr SM (fun h => by cases h)).mono ?_
            rintro e w5 ⟨⟨a5, c5, r5, d5, rfl, s5, o5⟩, b5⟩
            have j5 : Below w4.heap.size w4 w5 := by (repeat (first | exact Below.refl _ _ | refine Below.alloc ?_ (by first | omega | (simp; done) | (simp; omega)) _ | refine Below.drew ?_ | refine Below.setCell ?_ (by first | omega | (simp; done) | (simp; omega)) _ | refine Below.trans ?_ (Below.mono (by assumption) (by first | omega | (simp; done) | (simp; omega)))))
            have t5 : Below w.heap.size w w5 := t4.trans (j5.mono t4.size)
            replace hs := hs.below j5
            replace hr := hr.below j5
            replace q0 := below_cell j5 q0
            replace q1 := below_cell j5 q1
            replace q2 := below_cell j5 q2
            replace lB := Nat.lt_of_lt_of_le lB j5.size
            replace iX := iX.below j5
            replace oX := oX.below j5
            replace u0 := below_cell j5 u0
            replace u1 := below_cell j5 u1
            replace u2 := below_cell j5 u2
            replace lX := Nat.lt_of_lt_of_le lX j5.size
            go_wp2_with fail
            go_at_call 28
            refine (hours_eq a5 c5 r5 d5 p _ i r 0 O nO HH1 HO HnO s5 o5 SM).mono ?_
            rintro e w6 ⟨⟨e5, f5, rfl, i5⟩, b6⟩
            have j6 : Below w5.heap.size w5 w6 := by (repeat (first | exact Below.refl _ _ | refine Below.alloc ?_ (by first | omega | (simp; done) | (simp; omega)) _ | refine Below.drew ?_ | refine Below.setCell ?_ (by first | omega | (simp; done) | (simp; omega)) _ | refine Below.trans ?_ (Below.mono (by assumption) (by first | omega | (simp; done) | (simp; omega)))))
            have t6 : Below w.heap.size w w6 := t5.trans (j6.mono t5.size)
            replace hs := hs.below j6
            replace hr := hr.below j6
            replace q0 := below_cell j6 q0
            replace q1 := below_cell j6 q1
            replace q2 := below_cell j6 q2
            replace lB := Nat.lt_of_lt_of_le lB j6.size
            replace iX := iX.below j6
            replace oX := oX.below j6
            replace u0 := below_cell j6 u0
            replace u1 := below_cell j6 u1
            replace u2 := below_cell j6 u2
            replace lX := Nat.lt_of_lt_of_le lX j6.size
            replace s5 := s5.below j6
            replace o5 := o5.below j6
            clear s5 o5
            go_wp2_with fail
            go_at_call 21
            refine (postN_eq HNx HRx HPx iX oX SX na4).mono ?_
            rintro e w7 ⟨⟨a6, c6, r6, d6, rfl, s6, o6⟩, b7⟩
            have j7 : Below w6.heap.size w6 w7 := by (repeat (first | exact Below.refl _ _ | refine Below.alloc ?_ (by first | omega | (simp; done) | (simp; omega)) _ | refine Below.drew ?_ | refine Below.setCell ?_ (by first | omega | (simp; done) | (simp; omega)) _ | refine Below.trans ?_ (Below.mono (by assumption) (by first | omega | (simp; done) | (simp; omega)))))
            have t7 : Below w.heap.size w w7 := t6.trans (j7.mono t6.size)
            replace hs := hs.below j7
            replace hr := hr.below j7
            replace q0 := below_cell j7 q0
            replace q1 := below_cell j7 q1
            replace q2 := below_cell j7 q2
            replace lB := Nat.lt_of_lt_of_le lB j7.size
            replace iX := iX.below j7
            replace oX := oX.below j7
            replace u0 := below_cell j7 u0
            replace u1 := below_cell j7 u1
            replace u2 := below_cell j7 u2
            replace lX := Nat.lt_of_lt_of_le lX j7.size
            replace i5 := i5.below j7
            go_wp2_with fail
            go_at_call 28
            refine (hoursN_eq (a := a6) (c := c6) (ar := r6) (cr := d6) HNx HRx HPx i r 0 (O.map (· + (n : Int))) nO HH2 HOX HnX s6 o6 SX).mono ?_
            rintro e w8 ⟨⟨e6, f6, rfl, i6⟩, b8⟩
            have j8 : Below w7.heap.size w7 w8 := by (repeat (first | exact Below.refl _ _ | refine Below.alloc ?_ (by first | omega | (simp; done) | (simp; omega)) _ | refine Below.drew ?_ | refine Below.setCell ?_ (by first | omega | (simp; done) | (simp; omega)) _ | refine Below.trans ?_ (Below.mono (by assumption) (by first | omega | (simp; done) | (simp; omega)))))
            have t8 : Below w.heap.size w w8 := t7.trans (j8.mono t7.size)
            replace hs := hs.below j8
            replace hr := hr.below j8
            replace q0 := below_cell j8 q0
            replace q1 := below_cell j8 q1
            replace q2 := below_cell j8 q2
            replace lB := Nat.lt_of_lt_of_le lB j8.size
            replace iX := iX.below j8
            replace oX := oX.below j8
            replace u0 := below_cell j8 u0
            replace u1 := below_cell j8 u1
            replace u2 := below_cell j8 u2
            replace lX := Nat.lt_of_lt_of_le lX j8.size
            replace i5 := i5.below j8
            replace s6 := s6.below j8
            replace o6 := o6.below j8
            clear s6 o6
            go_wp2_with fail
            go_at_call 21
            refine (post_eq (some ⟨bS, offS, none⟩) c (some ⟨bR, offR, none⟩) cr p _ hs hr SM (fun h => by cases h)).mono ?_
            rintro e w9 ⟨⟨a7, c7, r7, d7, rfl, s7, o7⟩, b9⟩
            have j9 : Below w8.heap.size w8 w9 := by (repeat (first | exact Below.refl _ _ | refine Below.alloc ?_ (by first | omega | (simp; done) | (simp; omega)) _ | refine Below.drew ?_ | refine Below.setCell ?_ (by first | omega | (simp; done) | (simp; omega)) _ | refine Below.trans ?_ (Below.mono (by assumption) (by first | omega | (simp; done) | (simp; omega)))))
            have t9 : Below w.heap.size w w9 := t8.trans (j9.mono t8.size)
            replace hs := hs.below j9
            replace hr := hr.below j9
            replace q0 := below_cell j9 q0
            replace q1 := below_cell j9 q1
            replace q2 := below_cell j9 q2
            replace lB := Nat.lt_of_lt_of_le lB j9.size
            replace iX := iX.below j9
            replace oX := oX.below j9
            replace u0 := below_cell j9 u0
            replace u1 := below_cell j9 u1
            replace u2 := below_cell j9 u2
            replace lX := Nat.lt_of_lt_of_le lX j9.size
            replace i5 := i5.below j9
            replace i6 := i6.below j9
            go_wp2_with fail
            go_at_call 32
            refine (spans_eq a7 c7 r7 d7 p _ 0 (spansF p p.sends.length) p.sends.length HE HS HnS s7 o7 SM).mono ?_
            rintro e w10 ⟨⟨e7, f7, rfl, i7⟩, b10⟩
            have j10 : Below w9.heap.size w9 w10 := by (repeat (first | exact Below.refl _ _ | refine Below.alloc ?_ (by first | omega | (simp; done) | (simp; omega)) _ | refine Below.drew ?_ | refine Below.setCell ?_ (by first | omega | (simp; done) | (simp; omega)) _ | refine Below.trans ?_ (Below.mono (by assumption) (by first | omega | (simp; done) | (simp; omega)))))
            have t10 : Below w.heap.size w w10 := t9.trans (j10.mono t9.size)
            replace hs := hs.below j10
            replace hr := hr.below j10
            replace q0 := below_cell j10 q0
            replace q1 := below_cell j10 q1
            replace q2 := below_cell j10 q2
            replace lB := Nat.lt_of_lt_of_le lB j10.size
            replace iX := iX.below j10
            replace oX := oX.below j10
            replace u0 := below_cell j10 u0
            replace u1 := below_cell j10 u1
            replace u2 := below_cell j10 u2
            replace lX := Nat.lt_of_lt_of_le lX j10.size
            replace i5 := i5.below j10
            replace i6 := i6.below j10
            replace s7 := s7.below j10
            replace o7 := o7.below j10
            clear s7 o7
            go_wp2_with fail
            go_at_call 21
            refine (postN_eq HNx HRx HPx iX oX SX na4).mono ?_
            rintro e w11 ⟨⟨a8, c8, r8, d8, rfl, s8, o8⟩, b11⟩
            have j11 : Below w10.heap.size w10 w11 := by (repeat (first | exact Below.refl _ _ | refine Below.alloc ?_ (by first | omega | (simp; done) | (simp; omega)) _ | refine Below.drew ?_ | refine Below.setCell ?_ (by first | omega | (simp; done) | (simp; omega)) _ | refine Below.trans ?_ (Below.mono (by assumption) (by first | omega | (simp; done) | (simp; omega)))))
            have t11 : Below w.heap.size w w11 := t10.trans (j11.mono t10.size)
            replace hs := hs.below j11
            replace hr := hr.below j11
            replace q0 := below_cell j11 q0
            replace q1 := below_cell j11 q1
            replace q2 := below_cell j11 q2
            replace lB := Nat.lt_of_lt_of_le lB j11.size
            replace iX := iX.below j11
            replace oX := oX.below j11
            replace u0 := below_cell j11 u0
            replace u1 := below_cell j11 u1
            replace u2 := below_cell j11 u2
            replace lX := Nat.lt_of_lt_of_le lX j11.size
            replace i5 := i5.below j11
            replace i6 := i6.below j11
            replace i7 := i7.below j11
            go_wp2_with fail
            go_at_call 32
            refine (spansN_eq (a := a8) (c := c8) (ar := r8) (cr := d8) HNx HRx HPx 0 ((spansF p p.sends.length).map (shA (n : Int))) p.sends.length HX HSX HnSX s8 o8 SX).mono ?_
            rintro e w12 ⟨⟨e8, f8, rfl, i8⟩, b12⟩
            have j12 : Below w11.heap.size w11 w12 := by (repeat (first | exact Below.refl _ _ | refine Below.alloc ?_ (by first | omega | (simp; done) | (simp; omega)) _ | refine Below.drew ?_ | refine Below.setCell ?_ (by first | omega | (simp; done) | (simp; omega)) _ | refine Below.trans ?_ (Below.mono (by assumption) (by first | omega | (simp; done) | (simp; omega)))))
            have t12 : Below w.heap.size w w12 := t11.trans (j12.mono t11.size)
            replace hs := hs.below j12
            replace hr := hr.below j12
            replace q0 := below_cell j12 q0
            replace q1 := below_cell j12 q1
            replace q2 := below_cell j12 q2
            replace lB := Nat.lt_of_lt_of_le lB j12.size
            replace iX := iX.below j12
            replace oX := oX.below j12
            replace u0 := below_cell j12 u0
            replace u1 := below_cell j12 u1
            replace u2 := below_cell j12 u2
            replace lX := Nat.lt_of_lt_of_le lX j12.size
            replace i5 := i5.below j12
            replace i6 := i6.below j12
            replace i7 := i7.below j12
            replace s8 := s8.below j12
            replace o8 := o8.below j12
            clear s8 o8
            go_wp2_with fail
            go_loopw [28] (fun u wr => ∃ k : Nat, k ≤ nO ∧ u = .int .i64 k ∧ Below w12.heap.size w12 wr) (fun u _ => nO - (intOf u).toNat)
            case atStart => exact ⟨0, Nat.zero_le _, rfl, Below.refl _ _⟩
            case round =>
              obtain ⟨k, hk, rfl, hb5⟩ := hrel
              have z5 := hb5.size
              by_cases hkl : k < nO
              · have hkI : (k : Int) < (nO : Int) := by omega
                have hkO : k < O.length := by rw [HnO.out]; exact hkl
                have hkX : k < (O.map (· + (n : Int))).length := by rw [HnX.out]; exact hkl
                obtain ⟨g1, off1, rfl, hg1, s1⟩ := (i5.below hb5) k hkO
                obtain ⟨g2, off2, rfl, hg2, s2⟩ := (i6.below hb5) k hkX
                replace s1 : wr.cell? ⟨g1, off1 + k, none⟩ = some (.int .i64 O[k]) := s1.trans (by simp [hkO])
                replace s2 : wr.cell? ⟨g2, off2 + k, none⟩ = some (.int .i64 (O[k] + (n : Int))) := s2.trans (by simp [hkO])
                have hvb := HOb.out O[k] (List.getElem_mem hkO)
                obtain ⟨v, hv⟩ : ∃ v, O[k] = v := ⟨_, rfl⟩
                rw [hv] at s1 s2 hvb
                have hwv : IntKind.i64.wrap (v + (n : Int)) = v + (n : Int) := IntWalk.i64_in _ (by omega)
                clear hv hkO hkX
                go_wp2
                (refine wp_region_ext 11 (by kernel_rfl) (by kernel_rfl) ?_; simp only [List.take_succ_cons, List.take_zero, List.drop_succ_cons, List.drop_zero]; (repeat (go_big_quiet_step ((fail)))); refine wpQuiet_nil ?_; rintro _ ⟨ex, rfl⟩; have hex := ex.below; have hexz := ex.size; (try simp at hexz); (try (have hy0 : w.heap.size < ex.to.heap.size := by omega)); (try (have hy1 : w.heap.size + 1 < ex.to.heap.size := by omega)); (try (have hy2 : w.heap.size + 2 < ex.to.heap.size := by omega)))
                go_wp2
                go_roundw
                case rel => exact ⟨k + 1, by omega, by go_num, hb5.trans (ex.below.mono z5)⟩
                case measure => simp [intOf]; omega
              · have hkI : ¬ ((k : Int) < (nO : Int)) := by omega
                go_wp2
                go_loopw [29] (fun u wr => ∃ k : Nat, k ≤ p.sends.length ∧ u = .int .i64 k ∧ Below w12.heap.size w12 wr) (fun u _ => p.sends.length - (intOf u).toNat)
                case atStart => exact ⟨0, Nat.zero_le _, rfl, hb5⟩
                case round =>
                  clear hkI hk hb5 z5
                  obtain ⟨q, hq, rfl, hb6⟩ := hrel
                  have z6 := hb6.size
                  by_cases hql : q < p.sends.length
                  · have hqI : (q : Int) < (p.sends.length : Int) := by omega
                    have hqS : q < (spansF p p.sends.length).length := by rw [HnS.out]; exact hql
                    have hqX : q < ((spansF p p.sends.length).map (shA (n : Int))).length := by rw [HnSX.out]; exact hql
                    obtain ⟨g1, off1, rfl, hg1, z0, z1⟩ := (i7.below hb6) q hqS
                    obtain ⟨g2, off2, rfl, hg2, y0, y1⟩ := (i8.below hb6) q hqX
                    rw [List.getElem_map] at y0 y1
                    rw [show (spansF p p.sends.length)[q] = spanAt p q by simp [spansF]] at z0 z1 y0 y1
                    have hsb := HSb.out q hql
                    obtain ⟨⟨lo, hi⟩, hlh⟩ : ∃ x, spanAt p q = x := ⟨_, rfl⟩
                    rw [hlh] at z0 z1 y0 y1 hsb
                    simp only [shA] at z0 z1 y0 y1 hsb
                    have hwl : IntKind.i64.wrap (lo + (n : Int)) = lo + (n : Int) := IntWalk.i64_in _ (by omega)
                    have hwh : IntKind.i64.wrap (hi + (n : Int)) = hi + (n : Int) := IntWalk.i64_in _ (by omega)
                    clear hlh hqS hqX
                    go_wp2
                    (refine wp_region_ext 20 (by kernel_rfl) (by kernel_rfl) ?_; simp only [List.take_succ_cons, List.take_zero, List.drop_succ_cons, List.drop_zero]; (repeat (go_big_quiet_step (((go_at_call 47; refine Calls_ext (between_any (lo + (n : Int)) (hi + (n : Int)) _)))))); refine wpQuiet_nil ?_; rintro _ ⟨ex, rfl⟩; have hex := ex.below; have hexz := ex.size; (try simp at hexz); (try (have hy0 : w.heap.size < ex.to.heap.size := by omega)); (try (have hy1 : w.heap.size + 1 < ex.to.heap.size := by omega)); (try (have hy2 : w.heap.size + 2 < ex.to.heap.size := by omega)))
                    go_wp2
                    go_roundw
                    case rel => exact ⟨q + 1, by omega, by go_num, hb6.trans (ex.below.mono z6)⟩
                    case measure => simp [intOf]; omega
                  · have hqI : ¬ ((q : Int) < (p.sends.length : Int)) := by omega
                    go_wp2_with fail
                    go_at_call 19
                    refine (awake_any _).mono ?_
                    rintro e x3 ⟨rfl, b3⟩
                    go_wp2_with fail
                    go_ret
                    exact ⟨rfl, t12.trans ((hb6.trans (b3.mono z6)).mono t12.size)⟩
          · obtain ⟨E, hXE⟩ : ∃ E, postErr (shP (n : Int) p) = E := ⟨_, rfl⟩
            rw [hXE] at hX
            have HXE := Lib.hid hXE
            have hne : (E != 0) = true := by simpa using hX
            clear hXE hX
            have b2 := hb
            obtain ⟨w2, hwq⟩ : ∃ x : World, x = wr := ⟨_, rfl⟩
            subst hwq
            have j2 : Below w1.heap.size w1 w2 := by (repeat (first | exact Below.refl _ _ | refine Below.alloc ?_ (by first | omega | (simp; done) | (simp; omega)) _ | refine Below.drew ?_ | refine Below.setCell ?_ (by first | omega | (simp; done) | (simp; omega)) _ | refine Below.trans ?_ (Below.mono (by assumption) (by first | omega | (simp; done) | (simp; omega)))))
            have t2 : Below w.heap.size w w2 := t1.trans (j2.mono t1.size)
            replace hs := hs.below j2
            replace hr := hr.below j2
            replace q0 := below_cell j2 q0
            replace q1 := below_cell j2 q1
            replace q2 := below_cell j2 q2
            replace lB := Nat.lt_of_lt_of_le lB j2.size
            go_wp2_with fail
            go_at_call 24
            refine (faultN_eq HNx HRx HPx E HXE iX oX SX).mono ?_
            rintro e w3 ⟨rfl, b3⟩
            have j3 : Below w2.heap.size w2 w3 := by (repeat (first | exact Below.refl _ _ | refine Below.alloc ?_ (by first | omega | (simp; done) | (simp; omega)) _ | refine Below.drew ?_ | refine Below.setCell ?_ (by first | omega | (simp; done) | (simp; omega)) _ | refine Below.trans ?_ (Below.mono (by assumption) (by first | omega | (simp; done) | (simp; omega)))))
            have t3 : Below w.heap.size w w3 := t2.trans (j3.mono t2.size)
            replace hs := hs.below j3
            replace hr := hr.below j3
            replace q0 := below_cell j3 q0
            replace q1 := below_cell j3 q1
            replace q2 := below_cell j3 q2
            replace lB := Nat.lt_of_lt_of_le lB j3.size
            replace iX := iX.below j3
            replace oX := oX.below j3
            replace u0 := below_cell j3 u0
            replace u1 := below_cell j3 u1
            replace u2 := below_cell j3 u2
            replace lX := Nat.lt_of_lt_of_le lX j3.size
            go_wp2_with fail
            go_at_call 19
            refine (awake_any _).mono ?_
            rintro e w4 ⟨rfl, b4⟩
            have j4 : Below w3.heap.size w3 w4 := by (repeat (first | exact Below.refl _ _ | refine Below.alloc ?_ (by first | omega | (simp; done) | (simp; omega)) _ | refine Below.drew ?_ | refine Below.setCell ?_ (by first | omega | (simp; done) | (simp; omega)) _ | refine Below.trans ?_ (Below.mono (by assumption) (by first | omega | (simp; done) | (simp; omega)))))
            have t4 : Below w.heap.size w w4 := t3.trans (j4.mono t3.size)
            replace hs := hs.below j4
            replace hr := hr.below j4
            replace q0 := below_cell j4 q0
            replace q1 := below_cell j4 q1
            replace q2 := below_cell j4 q2
            replace lB := Nat.lt_of_lt_of_le lB j4.size
            replace iX := iX.below j4
            replace oX := oX.below j4
            replace u0 := below_cell j4 u0
            replace u1 := below_cell j4 u1
            replace u2 := below_cell j4 u2
            replace lX := Nat.lt_of_lt_of_le lX j4.size
            go_wp2_with fail
            go_ret
            exact ⟨rfl, t4⟩

theorem moved_walk (a : Option Addr) (c : Nat) (ar : Option Addr) (cr : Nat) (p : Post) (y1 y2 y3 : Int) (w : World) (hs : IntsAt w a p.sends) (hr : RoutesAt w ar p.routes) (na : a = none → c = 0) (big : PostBig p) (hy1 : (Lit.int .u8 y1).wf = true) (hy2 : (Lit.int .u8 y2).wf = true) (hy3 : (Lit.int .u8 y3).wf = true) :
    Calls Try.prog 10 #[.agg #[.slice a p.sends.length c, .slice ar p.routes.length cr, .int .i64 p.pat], .int .u8 y1, .int .u8 y2, .int .u8 y3] w fun e w' => e = .returned (.bool true) ∧ Below w.heap.size w w' := by
  cases hT : readyB p
  · exact moved_a1 a c ar cr p y1 y2 y3 w hs hr na big hT
  · exact moved_a2 a c ar cr p y1 y2 y3 w hs hr na big hy1 hy2 hy3 hT
end Go.Proofs.Ytfclemnkcpadpaa
