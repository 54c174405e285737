/- copies: the reference's Fault; the law's fault -/
import Derived.Test.YtfclemnkcpadpaaRe
import Derived.Deep.DeepCutAuto
namespace Go.Proofs.Ytfclemnkcpadpaa
set_option linter.unusedVariables false
set_option linter.unusedSimpArgs false
set_option linter.unnecessarySimpa false
open Go.RowKit Go.Flow

theorem len_pos {n : Nat} {z : Bool} (hz : ((n : Int) == 0) = z) : decide (0 < n) = !z := by
  subst hz
  cases n with
  | zero => rfl
  | succ n => rw [decide_eq_true (by omega), show (((n + 1 : Nat) : Int) == 0) = false by simp; omega]; rfl
theorem bad_and {g x : Bool} (h : x = false) : badI (g && x) = 1 := by rw [h, Bool.and_false]; rfl
theorem ok_and {g x : Bool} (h : x = true) : badI (g && x) = badI g := by rw [h, Bool.and_true]
theorem int_eq {a b : Int} (h : a = b) : Value.int .i64 a = Value.int .i64 b := by rw [h]
set_option maxRecDepth 100000 in
set_option maxHeartbeats 8000000 in
theorem refFault_any (a : Option Addr) (c : Nat) (ar : Option Addr) (cr : Nat) (p : Post) (w : World) (hs : IntsAt w a p.sends) (hr : RoutesAt w ar p.routes) (sm : PostSmall p) :
    Calls Try.prog 66 #[.agg #[.slice a p.sends.length c, .slice ar p.routes.length cr, .int .i64 p.pat]] w fun e w' => e = .returned (.int .i64 (postErr p)) ∧ Below w.heap.size w w' := by
  have l1 := sm.s
  have l2 := sm.r
  obtain ⟨E, hE⟩ : ∃ E, postErr p = E := ⟨_, rfl⟩
  rw [hE]
  have HE := Lib.hid hE
  clear hE
  obtain ⟨W1, hW1⟩ : ∃ z : World, z = w.alloc (.cells #[.slice a p.sends.length c, .slice ar p.routes.length cr, .int .i64 p.pat] 25) := ⟨_, rfl⟩
  have C0 : Cells W1 w.heap.size #[.slice a p.sends.length c, .slice ar p.routes.length cr, .int .i64 p.pat] 25 := by rw [hW1]; exact Cells.new _ _ _
  have t0 : Below w.heap.size w W1 := by rw [hW1]; exact (Below.refl _ _).alloc (Nat.le_refl _) _
  have HS := Lib.hid (hs.below t0)
  have HR := Lib.hid (hr.below t0)
  have HSM := Lib.hid sm
  have HW1 := Lib.hid hW1
  have k0 := C0.cell 0
  have k1 := C0.cell 1
  have k2 := C0.cell 2
  simp at k0 k1 k2
  have lC := C0.lt
  have k0' := k0
  have k1' := k1
  rw [hW1] at k0' k1'
  clear hs hr sm hW1
  by_cases h4 : 4 < p.sends.length
  · have h4I : (4 : Int) < (p.sends.length : Int) := by omega
    obtain rfl : E = 3 := by rw [← HE.out]; unfold postErr; rw [if_pos (.inl h4)]
    clear HE
    go_enter Try.func66, Try.ntmps66
    go_wp2
    go_ret
    rw [← HW1.out]
    exact ⟨rfl, t0⟩
  have h4I : ¬ (4 : Int) < (p.sends.length : Int) := by omega
  by_cases h3 : 3 < p.routes.length
  · have h3I : (3 : Int) < (p.routes.length : Int) := by omega
    obtain rfl : E = 3 := by rw [← HE.out]; unfold postErr; rw [if_pos (.inr (.inl h3))]
    clear HE
    go_enter Try.func66, Try.ntmps66
    go_wp2
    go_ret
    rw [← HW1.out]
    exact ⟨rfl, t0⟩
  have h3I : ¬ (3 : Int) < (p.routes.length : Int) := by omega
  have HF : Hid (∀ k (h : k < p.routes.length), routeFew p.routes[k] = false → E = 3) := Lib.hid (fun k h hp => by rw [← HE.out]; exact postErr_few (all_false_at h hp))
  have Hsn : Hid (decide (p.sends ≠ []) = !((p.sends.length : Int) == 0)) := Lib.hid (by rw [Bool.eq_iff_iff]; simp [List.length_eq_zero_iff])
  have Hrn : Hid (decide (p.routes ≠ []) = !((p.routes.length : Int) == 0)) := Lib.hid (by rw [Bool.eq_iff_iff]; simp [List.length_eq_zero_iff])
  obtain ⟨g0, hg0⟩ : ∃ g0, (decide (p.sends ≠ []) && decide (p.routes ≠ []) && inR p.pat (0, 30)) = g0 := ⟨_, rfl⟩
  have HEnd : Hid (p.routes.all routeFew = true → E = badI (goodS g0 p.sends p.sends.length && p.routes.all routeOk)) := Lib.hid (fun h => by rw [← HE.out, ← hg0]; exact fault_end (by omega) (by omega) h)
  have hin := fun W => refIn_any p.pat 0 30 W
  obtain ⟨ip, hip⟩ : ∃ ip, inR p.pat (0, 30) = ip := ⟨_, rfl⟩
  rw [hip] at hin hg0
  have HG0 := Lib.hid hg0
  clear hg0 hip HE
  go_enter Try.func66, Try.ntmps66
  go_upto_region 4 with fail
  rw [← HW1.out]
  clear k0' k1' HW1
  go_cut [34] (fun v wx => v = .bool (!g0) ∧ wx = W1)
  case first =>
    have e0 := HG0.out
    rw [Hsn.out, Hrn.out] at e0
    cases f1 : ((p.sends.length : Int) == 0)
    · cases f2 : ((p.routes.length : Int) == 0)
      · rw [f1, f2] at e0
        have E0 := Lib.hid e0
        clear e0
        go_wp2_with (go_at_call 29; (with_reducible refine (hin _).mono ?_); rintro e w1 ⟨rfl, rfl⟩)
        go_meet
        case rel => exact ⟨by rw [← E0.out]; simp, rfl⟩
      · rw [f1, f2] at e0
        have E0 := Lib.hid e0
        clear e0
        go_wp2_with fail
        go_meet
        case rel => exact ⟨by rw [← E0.out]; simp, rfl⟩
    · rw [f1] at e0
      have E0 := Lib.hid e0
      clear e0
      go_wp2_with fail
      go_meet
      case rel => exact ⟨by rw [← E0.out]; simp, rfl⟩
  case rest =>
    obtain ⟨rfl, rfl⟩ := hcut
    go_upto_if 34 with fail
    go_cut [3] (fun v wx => v = .int .i64 (badI g0) ∧ wx = wc)
    case first =>
      cases g0
      · go_wp2_with fail
        go_meet
        case rel => exact ⟨rfl, rfl⟩
      · go_wp2_with fail
        go_meet
        case rel => exact ⟨rfl, rfl⟩
    case rest =>
      obtain ⟨rfl, rfl⟩ := hcut
      go_wp2
      clear k0 k1 k2 lC hin HG0
      go_loopw [3, 4] (fun v o wr => ∃ k : Nat, k ≤ p.sends.length ∧ o = .int .i64 k ∧ v = .int .i64 (badI (goodS g0 p.sends k)) ∧ Below wc.heap.size wc wr) (fun _ o _ => p.sends.length - (intOf o).toNat)
      case atStart => exact ⟨0, Nat.zero_le _, rfl, by simp [goodS, risesT], Below.refl _ _⟩
      case round =>
        obtain ⟨k, hk, rfl, rfl, hb⟩ := hrel
        have Cr := C0.below hb
        have k0 := Cr.cell 0
        have k1 := Cr.cell 1
        have lC := Cr.lt
        simp at k0 k1
        by_cases hkl : k < p.sends.length
        · obtain ⟨b, off, rfl, hbl, c0⟩ := (HS.out.below hb) k hkl
          have c0' : wr.cell? ⟨b, off + k, none⟩ = some (.int .i64 p.sends[k]) := c0.trans (by simp [hkl])
          have Hs := Lib.hid (goodS_succ g0 p.sends k hkl)
          have Hg : Hid (p.sends.getD k 0 = p.sends[k]) := Lib.hid (by simp [hkl])
          have hin2 := fun W => refIn_any p.sends[k] 0 30 W
          have hkI : (k : Int) < (p.sends.length : Int) := by omega
          have hcm : 0 < k → wr.cell? ⟨b, off + (k - 1), none⟩ = some (.int .i64 (p.sends.getD (k - 1) 0)) := fun h0 => by
            obtain ⟨b', off', e, _, c1⟩ := (HS.out.below hb) (k - 1) (by omega)
            obtain ⟨rfl, rfl⟩ : b = b' ∧ off = off' := by simpa using e
            exact c1
          obtain ⟨s, hse⟩ : ∃ s, p.sends[k] = s := ⟨_, rfl⟩
          obtain ⟨r, hre⟩ : ∃ r, p.sends.getD (k - 1) 0 = r := ⟨_, rfl⟩
          rw [hse] at c0' Hs Hg hin2
          rw [hre] at hcm Hs
          rw [Hg.out] at Hs
          obtain ⟨G, hG⟩ : ∃ G, goodS g0 p.sends k = G := ⟨_, rfl⟩
          rw [hG] at Hs ⊢
          obtain ⟨q, hq⟩ : ∃ q, inR s (0, 30) = q := ⟨_, rfl⟩
          rw [hq] at hin2 Hs
          clear c0 hse hre hG hq Hg k1
          cases q
          · go_wp2
            (refine wp_region_ext 25 (by kernel_rfl) (by kernel_rfl) ?_; simp only [List.take_succ_cons, List.take_zero, List.drop_succ_cons, List.drop_zero]; (repeat (go_big_quiet_step (((go_at_call 29; refine Calls_ext_same (hin2 _)))))); refine wpQuiet_nil ?_; rintro _ ⟨ex, rfl⟩; have hex := ex.below; have hexz := ex.size; (try simp at hexz); (try (have hy0 : w.heap.size < ex.to.heap.size := by omega)); (try (have hy1 : w.heap.size + 1 < ex.to.heap.size := by omega)); (try (have hy2 : w.heap.size + 2 < ex.to.heap.size := by omega)))
            go_wp2
            go_roundw
            case rel => exact ⟨k + 1, by omega, by go_num, by rw [Hs.out]; exact int_eq (bad_and rfl).symm, hb.trans (hex.mono hb.size)⟩
            case measure => simp [intOf]; omega
          · by_cases hk0 : k = 0
            · subst hk0
              rw [Nat.add_zero] at c0'
              clear hcm
              go_wp2
              (refine wp_region_ext 25 (by kernel_rfl) (by kernel_rfl) ?_; simp only [List.take_succ_cons, List.take_zero, List.drop_succ_cons, List.drop_zero]; (repeat (go_big_quiet_step (((go_at_call 29; refine Calls_ext_same (hin2 _)))))); refine wpQuiet_nil ?_; rintro _ ⟨ex, rfl⟩; have hex := ex.below; have hexz := ex.size; (try simp at hexz); (try (have hy0 : w.heap.size < ex.to.heap.size := by omega)); (try (have hy1 : w.heap.size + 1 < ex.to.heap.size := by omega)); (try (have hy2 : w.heap.size + 2 < ex.to.heap.size := by omega)))
              go_wp2
              go_roundw
              case rel => exact ⟨0 + 1, by omega, by go_num, by rw [Hs.out]; exact int_eq (ok_and rfl).symm, hb.trans (hex.mono hb.size)⟩
              case measure => simp [intOf]; omega
            · have hcm2 := hcm (by omega)
              have hk1 : 0 < k := by omega
              have hwk : IntKind.i64.wrap ((k : Int) - 1) = ((k - 1 : Nat) : Int) := by rw [IntWalk.i64_in _ (by omega)]; omega
              obtain ⟨k9, hk9⟩ : ∃ z, k - 1 = z := ⟨_, rfl⟩
              rw [hk9] at hcm2 hwk
              have hk9I : (k9 : Int) < (p.sends.length : Int) := by omega
              have hk9J : (0 : Int) ≤ (k9 : Int) := by omega
              have Hk0 := Lib.hid hk0
              clear hcm hk9 hk0
              by_cases hsr : s ≤ r
              · go_wp2
                (refine wp_region_ext 25 (by kernel_rfl) (by kernel_rfl) ?_; simp only [List.take_succ_cons, List.take_zero, List.drop_succ_cons, List.drop_zero]; (repeat (go_big_quiet_step (((go_at_call 29; refine Calls_ext_same (hin2 _)))))); refine wpQuiet_nil ?_; rintro _ ⟨ex, rfl⟩; have hex := ex.below; have hexz := ex.size; (try simp at hexz); (try (have hy0 : w.heap.size < ex.to.heap.size := by omega)); (try (have hy1 : w.heap.size + 1 < ex.to.heap.size := by omega)); (try (have hy2 : w.heap.size + 2 < ex.to.heap.size := by omega)))
                go_wp2
                go_roundw
                case rel => exact ⟨k + 1, by omega, by go_num, by rw [Hs.out]; exact int_eq (bad_and (by rw [decide_eq_false Hk0.out, decide_eq_false (by omega)]; rfl)).symm, hb.trans (hex.mono hb.size)⟩
                case measure => simp [intOf]; omega
              · go_wp2
                (refine wp_region_ext 25 (by kernel_rfl) (by kernel_rfl) ?_; simp only [List.take_succ_cons, List.take_zero, List.drop_succ_cons, List.drop_zero]; (repeat (go_big_quiet_step (((go_at_call 29; refine Calls_ext_same (hin2 _)))))); refine wpQuiet_nil ?_; rintro _ ⟨ex, rfl⟩; have hex := ex.below; have hexz := ex.size; (try simp at hexz); (try (have hy0 : w.heap.size < ex.to.heap.size := by omega)); (try (have hy1 : w.heap.size + 1 < ex.to.heap.size := by omega)); (try (have hy2 : w.heap.size + 2 < ex.to.heap.size := by omega)))
                go_wp2
                go_roundw
                case rel => exact ⟨k + 1, by omega, by go_num, by rw [Hs.out]; exact int_eq (ok_and (by rw [decide_eq_true (show r < s by omega), Bool.or_true]; rfl)).symm, hb.trans (hex.mono hb.size)⟩
                case measure => simp [intOf]; omega
        · obtain rfl : k = p.sends.length := by omega
          obtain ⟨g2, hg2⟩ : ∃ g, goodS g0 p.sends p.sends.length = g := ⟨_, rfl⟩
          rw [hg2] at HEnd ⊢
          clear hg2
          go_wp2
          clear k0 k1 lC Cr
          have hb1 := hb
          clear hb
          go_loopw [3, 5] (fun v o wr => ∃ k : Nat, k ≤ p.routes.length ∧ o = .int .i64 k ∧ v = .int .i64 (badI (g2 && (p.routes.take k).all routeOk)) ∧ (p.routes.take k).all routeFew = true ∧ Below wc.heap.size wc wr) (fun _ o _ => p.routes.length - (intOf o).toNat)
          case atStart => exact ⟨0, Nat.zero_le _, rfl, by simp, rfl, hb1⟩
          case round =>
            obtain ⟨k, hk, rfl, rfl, hfew, hb⟩ := hrel
            have Cr := C0.below hb
            have k1 := Cr.cell 1
            have lC := Cr.lt
            simp at k1
            have Hfew := Lib.hid hfew
            clear hfew hb1
            by_cases hkl : k < p.routes.length
            · obtain ⟨b4, off4, al, ca, rfl, hbl4, e0, _, eL⟩ := (HR.out.below hb) k hkl
              have hll := HSM.out.l _ (List.getElem_mem hkl)
              have HLA := Lib.hid (HSM.out.a _ (List.getElem_mem hkl))
              have HFk := Lib.hid (HF.out k hkl)
              have Hst := Lib.hid (goodR_succ g2 routeOk p.routes k hkl)
              have Hft : Hid (routeFew p.routes[k] = true → (p.routes.take (k + 1)).all routeFew = true) := Lib.hid (fun h => all_take_succ hkl Hfew.out h)
              obtain ⟨r, hre⟩ : ∃ r, p.routes[k] = r := ⟨_, rfl⟩
              rw [hre] at e0 eL hll HLA HFk Hst Hft
              obtain ⟨G, hG⟩ : ∃ G, (g2 && (p.routes.take k).all routeOk) = G := ⟨_, rfl⟩
              rw [hG] at Hst ⊢
              clear hre hG
              have hkI : (k : Int) < (p.routes.length : Int) := by omega
              by_cases h33 : 3 < r.legs.length
              · have h33I : (3 : Int) < (r.legs.length : Int) := by omega
                obtain rfl : E = 3 := HFk.out (by unfold routeFew; rw [decide_eq_false (by omega)]; rfl)
                clear HFk HF HEnd
                go_wp2
                go_ret
                exact ⟨rfl, t0.trans (hb.mono t0.size)⟩
              have h33I : ¬ (3 : Int) < (r.legs.length : Int) := by omega
              obtain ⟨z, hz⟩ : ∃ z, ((r.legs.length : Int) == 0) = z := ⟨_, rfl⟩
              have HZ : Hid (decide (0 < r.legs.length) = !z) := Lib.hid (len_pos hz)
              go_upto_if 85 with fail
              go_cut [3] (fun v wx => v = .int .i64 (badI (G && !z)) ∧ wx = wr)
              case first =>
                cases z
                · go_wp2_with fail
                  go_meet
                  case rel => exact ⟨by simp, rfl⟩
                · go_wp2_with fail
                  go_meet
                  case rel => exact ⟨by simp [badI], rfl⟩
              case rest =>
                obtain ⟨rfl, hwc⟩ := hcut
                subst hwc
                clear hz
                obtain ⟨G3, hG3⟩ : ∃ G3, (G && !z) = G3 := ⟨_, rfl⟩
                have Hst3 : Hid (badI (G && routeOk r) = badI (G3 && r.legs.all legOk)) := Lib.hid (by unfold routeOk; rw [HZ.out, ← hG3, Bool.and_assoc])
                rw [hG3]
                clear hG3
                go_wp2
                have hb2 := hb
                clear hb Cr lC k1 HZ
                go_loopw [3, 7] (fun v o wr => ∃ j : Nat, j ≤ r.legs.length ∧ o = .int .i64 j ∧ v = .int .i64 (badI (G3 && (r.legs.take j).all legOk)) ∧ (r.legs.take j).all (fun l => decide (l.asl.length ≤ 2)) = true ∧ Below wc.heap.size wc wr) (fun _ o _ => r.legs.length - (intOf o).toNat)
                case atStart => exact ⟨0, Nat.zero_le _, rfl, by simp, rfl, Below.refl _ _⟩
                case round =>
                  obtain ⟨j, hj, rfl, rfl, hq, hb⟩ := hrel
                  have Hq := Lib.hid hq
                  clear hq
                  by_cases hjl : j < r.legs.length
                  · obtain ⟨b6, off6, ar6, c6, rfl, hbl6, m0, m1, m2, hR6⟩ := (eL.below hb) j hjl
                    have hjI : (j : Int) < (r.legs.length : Int) := by omega
                    have hla := HLA.out _ (List.getElem_mem hjl)
                    have HFj : Hid (¬ r.legs[j].asl.length ≤ 2 → E = 3) := Lib.hid (fun h => HFk.out (by unfold routeFew; rw [all_false_at hjl (by simpa using h), Bool.and_false]))
                    have HTj : Hid (r.legs[j].asl.length ≤ 2 → (r.legs.take (j + 1)).all (fun l => decide (l.asl.length ≤ 2)) = true) := Lib.hid (fun h => all_take_succ hjl Hq.out (by simpa using h))
                    have Hsj := Lib.hid (goodR_succ G3 legOk r.legs j hjl)
                    obtain ⟨l, hl⟩ : ∃ l, r.legs[j] = l := ⟨_, rfl⟩
                    rw [hl] at m0 m1 m2 hR6 hla HFj HTj Hsj
                    obtain ⟨H, hH⟩ : ∃ H, (G3 && (r.legs.take j).all legOk) = H := ⟨_, rfl⟩
                    rw [hH] at Hsj ⊢
                    clear hl hH
                    by_cases h22 : 2 < l.asl.length
                    · have h22I : (2 : Int) < (l.asl.length : Int) := by omega
                      obtain rfl : E = 3 := HFj.out (by omega)
                      clear HFj HFk HF HEnd HTj
                      go_wp2
                      go_ret
                      exact ⟨rfl, t0.trans ((hb2.trans (hb.mono hb2.size)).mono t0.size)⟩
                    have h22I : ¬ (2 : Int) < (l.asl.length : Int) := by omega
                    have hsp := fun W => refSpan_any l.lo l.hi 6 W
                    obtain ⟨y, hy⟩ : ∃ y, uptoB (l.lo, l.hi) 6 = y := ⟨_, rfl⟩
                    rw [hy] at hsp
                    have Hlk : Hid (legOk l = (y && l.asl.all (fun r => uptoB r 30))) := Lib.hid (by unfold legOk; rw [hy])
                    clear hy
                    go_wp2_with fail
                    go_at_call 99
                    with_reducible refine (hsp _).mono ?_
                    rintro e w2 ⟨rfl, hs2⟩
                    have hbs := hb.trans (hs2.mono hb.size)
                    go_upto_if 105 with fail
                    go_cut [3] (fun v wx => v = .int .i64 (badI (H && y)) ∧ wx = w2)
                    case first =>
                      cases y
                      · go_wp2_with fail
                        go_meet
                        case rel => exact ⟨by simp [badI], rfl⟩
                      · go_wp2_with fail
                        go_meet
                        case rel => exact ⟨by simp, rfl⟩
                    case rest =>
                      obtain ⟨rfl, hwc2⟩ := hcut
                      rw [← hwc2] at hbs hs2
                      clear hwc2 hsp
                      obtain ⟨H3, hH3⟩ : ∃ H3, (H && y) = H3 := ⟨_, rfl⟩
                      have Hst4 : Hid ((H && legOk l) = (H3 && l.asl.all (fun r => uptoB r 30))) := Lib.hid (by rw [Hlk.out, ← hH3, Bool.and_assoc])
                      rw [hH3]
                      clear hH3
                      go_wp2
                      go_loopw [3, 8] (fun v o wq => ∃ q : Nat, q ≤ l.asl.length ∧ o = .int .i64 q ∧ v = .int .i64 (badI (H3 && (l.asl.take q).all (fun r => uptoB r 30))) ∧ Below wr.heap.size wr wq) (fun _ o _ => l.asl.length - (intOf o).toNat)
                      case atStart => exact ⟨0, Nat.zero_le _, rfl, by simp, hs2⟩
                      case round =>
                        obtain ⟨q, hq, rfl, rfl, hbq⟩ := hrel
                        have n2 := below_cell hbq m2
                        have ln2 := cell_ltK n2
                        by_cases hql : q < l.asl.length
                        · obtain ⟨b8, off8, rfl, hbl8, x0, x1⟩ := (hR6.below hbq) q hql
                          have hqI : (q : Int) < (l.asl.length : Int) := by omega
                          have Hsq := Lib.hid (goodR_succ H3 (fun r => uptoB r 30) l.asl q hql)
                          obtain ⟨⟨x, y9⟩, hxy⟩ : ∃ x, l.asl[q] = x := ⟨_, rfl⟩
                          rw [hxy] at x0 x1 Hsq
                          simp only at x0 x1
                          obtain ⟨K4, hK4⟩ : ∃ K, (H3 && (l.asl.take q).all (fun r => uptoB r 30)) = K := ⟨_, rfl⟩
                          rw [hK4] at Hsq ⊢
                          have hsp := fun W => refSpan_any x y9 30 W
                          obtain ⟨t, ht⟩ : ∃ t, uptoB (x, y9) 30 = t := ⟨_, rfl⟩
                          rw [ht] at hsp Hsq
                          clear hxy hK4 ht
                          cases t
                          all_goals
                            go_wp2_with fail
                            go_at_call 99
                            with_reducible refine (hsp _).mono ?_
                            rintro e w3 ⟨rfl, hs3⟩
                            go_wp2
                            go_roundw
                            case rel => exact ⟨q + 1, by omega, by go_num, by rw [Hsq.out]; exact int_eq (by first | exact (bad_and rfl).symm | exact (ok_and rfl).symm), hbq.trans (hs3.mono hbq.size)⟩
                            case measure => simp [intOf]; omega
                        · obtain rfl : q = l.asl.length := by omega
                          rw [List.take_length, ← Hst4.out, ← Hsj.out]
                          go_wp2
                          go_roundw
                          case rel => exact ⟨j + 1, by omega, by go_num, rfl, HTj.out (by omega), hb.trans (hbq.mono hb.size)⟩
                          case measure => simp [intOf]; omega
                  · obtain rfl : j = r.legs.length := by omega
                    have hf : routeFew r = true := by unfold routeFew; rw [decide_eq_true (by omega)]; exact all_of_take (Nat.le_refl _) Hq.out
                    have Hf := Lib.hid hf
                    clear hf
                    rw [List.take_length, ← Hst3.out, ← Hst.out]
                    go_wp2
                    go_roundw
                    case rel => exact ⟨k + 1, by omega, by go_num, rfl, Hft.out Hf.out, hb2.trans (hb.mono hb2.size)⟩
                    case measure => simp [intOf]; omega
            · obtain rfl : k = p.routes.length := by omega
              have hf : p.routes.all routeFew = true := all_of_take (Nat.le_refl _) Hfew.out
              have he := HEnd.out hf
              rw [List.take_length]
              have He := Lib.hid he
              clear hf he HEnd HF
              go_wp2
              go_ret
              exact ⟨ret_n He.out.symm, t0.trans (hb.mono t0.size)⟩
end Go.Proofs.Ytfclemnkcpadpaa
