/- copies: fault; the reference's TruthFault -/
import Derived.Test.YtfclemnkcpadpaaRf
namespace Go.Proofs.Ytfclemnkcpadpaa
set_option linter.unusedVariables false
set_option linter.unusedSimpArgs false
set_option linter.unnecessarySimpa false
open Go.RowKit Go.Flow

set_option maxHeartbeats 400000 in
theorem fault_any (a : Option Addr) (c : Nat) (ar : Option Addr) (cr : Nat) (p : Post) (w : World) (hs : IntsAt w a p.sends) (hr : RoutesAt w ar p.routes) (sm : PostSmall p) :
    Calls Try.prog 24 #[.agg #[.slice a p.sends.length c, .slice ar p.routes.length cr, .int .i64 p.pat]] w fun e w' => e = .returned (.int .i64 (postErr p)) ∧ Below w.heap.size w w' := by
  have t0 : ∀ o, Below w.heap.size w (w.alloc o) := fun o => (Below.refl _ _).alloc (Nat.le_refl _) _
  have h := fun o => refFault_any a c ar cr p (w.alloc o) (hs.below (t0 o)) (hr.below (t0 o)) sm
  go_enter Try.func24, Try.ntmps24
  go_wp2_with (go_at_call 66; (with_reducible refine (h _).mono ?_); rintro e w1 ⟨rfl, hb1⟩)
  go_ret
  exact ⟨rfl, (t0 _).trans (hb1.mono (t0 _).size)⟩

def bad11 (g : Bool) : Int := if g then 0 else 11
theorem outE_end {rs : List Route} {g : Bool} : outE rs g [] = bad11 g := rfl
set_option maxRecDepth 100000 in
set_option maxHeartbeats 8000000 in
theorem truthFault_any (a : Option Addr) (c : Nat) (ar : Option Addr) (cr : Nat) (p : Post) (at_ : Option Addr) (ct : Nat) (t : List (List (List Int))) (w : World) (hr : RoutesAt w ar p.routes) (ht : TruthAt w at_ t) (ls : p.sends.length ≤ 1000) (lr : p.routes.length ≤ 1000) (ll : ∀ r ∈ p.routes, r.legs.length ≤ 1000) (lt : t.length ≤ 1000) (lt1 : ∀ l ∈ t, l.length ≤ 1000) (lt2 : ∀ l ∈ t, ∀ x ∈ l, x.length ≤ 1000) :
    Calls Try.prog 25 #[.agg #[.slice a p.sends.length c, .slice ar p.routes.length cr, .int .i64 p.pat], .slice at_ t.length ct] w fun e w' => e = .returned (.int .i64 (shapeErr p t)) ∧ Below w.heap.size w w' := by
  obtain ⟨W1, hW1⟩ : ∃ z : World, z = w.alloc (.cells #[.slice a p.sends.length c, .slice ar p.routes.length cr, .int .i64 p.pat] 25) := ⟨_, rfl⟩
  have C0 : Cells W1 w.heap.size #[.slice a p.sends.length c, .slice ar p.routes.length cr, .int .i64 p.pat] 25 := by rw [hW1]; exact Cells.new _ _ _
  have t0 : Below w.heap.size w W1 := by rw [hW1]; exact (Below.refl _ _).alloc (Nat.le_refl _) _
  have k0 := C0.cell 0
  simp at k0
  rw [hW1] at k0
  obtain ⟨E, hE⟩ : ∃ E, shapeErr p t = E := ⟨_, rfl⟩
  rw [hE]
  by_cases hl : t.length ≠ p.sends.length
  · have hl1 : ((t.length : Int) != (p.sends.length : Int)) = true := cne hl
    obtain rfl : E = 2 := by rw [← hE]; unfold shapeErr; rw [if_pos hl]
    clear hl hE
    go_enter Try.func25, Try.ntmps25
    go_wp2
    go_ret
    rw [← hW1]
    exact ⟨rfl, t0⟩
  have hl1 : ((t.length : Int) != (p.sends.length : Int)) = false := ceq hl
  have Hl : Hid (E = outE p.routes true (t.drop 0)) := Lib.hid (by rw [← hE]; unfold shapeErr; rw [if_neg hl]; rfl)
  clear hl hE
  go_enter Try.func25, Try.ntmps25
  go_wp2
  rw [← hW1]
  clear hW1 k0
  have hr1 := hr.below t0
  have ht1 := ht.below t0
  clear hr ht
  go_loopw [5, 6] (fun q i wr => ∃ (k : Nat) (right : Bool), k ≤ t.length ∧ i = .int .i64 k ∧ q = .int .i64 (bad11 right) ∧ outE p.routes true (t.drop 0) = outE p.routes right (t.drop k) ∧ Below W1.heap.size W1 wr) (fun _ i _ => t.length - (intOf i).toNat)
  case atStart => exact ⟨0, true, Nat.zero_le _, rfl, rfl, rfl, Below.refl _ _⟩
  case round =>
    obtain ⟨k, right, hk, rfl, rfl, ho, hb⟩ := hrel
    have Ho := Lib.hid (Hl.out.trans ho)
    clear ho
    have Cr := C0.below hb
    have k1 := Cr.cell 1
    simp at k1
    have lC := Cr.lt
    by_cases hkl : k < t.length
    · obtain ⟨b, off, a2, c2, rfl, hbl, c0, hL, _⟩ := (ht1.below hb) k hkl
      have Hs := Lib.hid (outE_step (rs := p.routes) (right := right) hkl)
      have lk := lt1 t[k] (List.getElem_mem hkl)
      have lk2 := lt2 t[k] (List.getElem_mem hkl)
      have hkI : (k : Int) < (t.length : Int) := by omega
      obtain ⟨l, hle⟩ : ∃ l, t[k] = l := ⟨_, rfl⟩
      rw [hle] at c0 hL Hs lk lk2
      clear hle
      by_cases hll : l.length ≠ p.routes.length
      · have h1 : ((l.length : Int) != (p.routes.length : Int)) = true := cne hll
        obtain rfl : E = 2 := by rw [Ho.out, Hs.out, if_pos hll]
        clear hll Hs Ho Hl
        go_wp2
        (refine wp_region_ext 9 (by kernel_rfl) (by kernel_rfl) ?_; simp only [List.take_succ_cons, List.take_zero, List.drop_succ_cons, List.drop_zero]; (repeat (go_big_quiet_step ((fail)))); refine wpQuiet_nil ?_; rintro _ ⟨ex, rfl⟩; have hex := ex.below; have hexz := ex.size; (try simp at hexz); (try (have hy0 : w.heap.size < ex.to.heap.size := by omega)); (try (have hy1 : w.heap.size + 1 < ex.to.heap.size := by omega)); (try (have hy2 : w.heap.size + 2 < ex.to.heap.size := by omega)))
        go_wp2
        go_ret
        exact ⟨rfl, t0.trans ((hb.trans (hex.mono hb.size)).mono t0.size)⟩
      have h1 : ((l.length : Int) != (p.routes.length : Int)) = false := ceq hll
      have Hll := Lib.hid (show E = midE right (l.drop 0) (p.routes.drop 0) (fun r => outE p.routes r (t.drop (k + 1))) by rw [Ho.out, Hs.out, if_neg hll]; rfl)
      have hll2 : l.length ≤ p.routes.length ∧ p.routes.length ≤ l.length := by omega
      clear hll Hs
      go_wp2
      (refine wp_region_ext 9 (by kernel_rfl) (by kernel_rfl) ?_; simp only [List.take_succ_cons, List.take_zero, List.drop_succ_cons, List.drop_zero]; (repeat (go_big_quiet_step ((fail)))); refine wpQuiet_nil ?_; rintro _ ⟨ex, rfl⟩; have hex := ex.below; have hexz := ex.size; (try simp at hexz); (try (have hy0 : w.heap.size < ex.to.heap.size := by omega)); (try (have hy1 : w.heap.size + 1 < ex.to.heap.size := by omega)); (try (have hy2 : w.heap.size + 2 < ex.to.heap.size := by omega)))
      obtain ⟨W2, hW2⟩ : ∃ z : World, z = ex.to := ⟨_, rfl⟩
      rw [← hW2] at hex ⊢
      clear hW2
      go_wp2
      have c0' := below_cell hex c0
      have hL' := hL.below hex
      have hbl' := Nat.lt_of_lt_of_le hbl hex.size
      have Cr' := Cr.below hex
      have k1' := Cr'.cell 1
      have lC' := Cr'.lt
      simp at k1'
      go_loopw [5, 7] (fun q i wq => ∃ (j : Nat) (rg : Bool), j ≤ l.length ∧ i = .int .i64 j ∧ q = .int .i64 (bad11 rg) ∧ midE right (l.drop 0) (p.routes.drop 0) (fun r => outE p.routes r (t.drop (k + 1))) = midE rg (l.drop j) (p.routes.drop j) (fun r => outE p.routes r (t.drop (k + 1))) ∧ Below W2.heap.size W2 wq) (fun _ i _ => l.length - (intOf i).toNat)
      case atStart => exact ⟨0, right, Nat.zero_le _, rfl, rfl, rfl, Below.refl _ _⟩
      case round =>
        have hbW := hb.trans (hex.mono hb.size)
        clear k1 lC Cr hb hbl c0 hL hexz
        obtain ⟨j, rg, hj, rfl, rfl, hm, hb2⟩ := hrel
        have Hm := Lib.hid (Hll.out.trans hm)
        clear hm
        have d0k := below_cell hb2 c0'
        have ld0 := cell_ltK d0k
        have k1 := below_cell hb2 k1'
        have lC := cell_ltK k1
        by_cases hjl : j < l.length
        · obtain ⟨b3, off3, a3, c3, rfl, hbl3, d0, dI, dn⟩ := (hL'.below hb2) j hjl
          obtain ⟨b4, off4, al, ca, rfl, hbl4, e0, e1, eL⟩ := ((hr1.below hbW).below hb2) j (by omega)
          have hjr : j < p.routes.length := by omega
          have Hs := Lib.hid (midE_step (right := rg) (l := l) (rs := p.routes) (f := fun r => outE p.routes r (t.drop (k + 1))) hjl hjr)
          have lts := lk2 l[j] (List.getElem_mem hjl)
          have llj := ll p.routes[j] (List.getElem_mem hjr)
          have hjI : (j : Int) < (l.length : Int) := by omega
          have hjJ : (j : Int) < (p.routes.length : Int) := by omega
          obtain ⟨ts, hts⟩ : ∃ x, l[j] = x := ⟨_, rfl⟩
          obtain ⟨r, hrr⟩ : ∃ x, p.routes[j] = x := ⟨_, rfl⟩
          rw [hts] at d0 dI Hs lts
          rw [hrr] at e0 e1 eL Hs llj
          clear hts hrr
          obtain ⟨lo, hlo⟩ : ∃ x, r.lossy = x := ⟨_, rfl⟩
          rw [hlo] at e1
          obtain ⟨z, hz⟩ : ∃ z, ((ts.length : Int) == 0) = z := ⟨_, rfl⟩
          have HB : Hid (rowBad r ts = (!(lo && z) && decide (ts.length ≠ r.legs.length))) := Lib.hid (by
            unfold rowBad
            rw [hlo, show decide (ts.length = 0) = z by rw [← hz, Bool.eq_iff_iff]; simp])
          have HZ : Hid (z = true → ts.length = 0) := Lib.hid (fun h => by rw [h] at hz; simpa using hz)
          clear hlo
          go_upto_region 12 with fail
          go_cut [54] (fun v wx => v = .bool (lo && z) ∧ wx = wr)
          case first =>
            cases z
            · go_wp2_with fail
              go_meet
              case rel => exact ⟨by simp, rfl⟩
            · go_wp2_with fail
              go_meet
              case rel => exact ⟨by simp, rfl⟩
          case rest =>
            obtain ⟨rfl, hwc⟩ := hcut
            subst hwc
            clear hz
            cases hA : (lo && z)
            · by_cases hB : ts.length ≠ r.legs.length
              · have h1 : ((ts.length : Int) != (r.legs.length : Int)) = true := cne hB
                obtain rfl : E = 2 := by rw [Hm.out, Hs.out, if_pos (by rw [HB.out, hA]; simpa using hB)]
                clear HB Hm Hs hA hB HZ Hll Ho Hl
                go_wp2
                (refine wp_region_ext 16 (by kernel_rfl) (by kernel_rfl) ?_; simp only [List.take_succ_cons, List.take_zero, List.drop_succ_cons, List.drop_zero]; (repeat (go_big_quiet_step ((fail)))); refine wpQuiet_nil ?_; rintro _ ⟨ex, rfl⟩; have hex := ex.below; have hexz := ex.size; (try simp at hexz); (try (have hy0 : w.heap.size < ex.to.heap.size := by omega)); (try (have hy1 : w.heap.size + 1 < ex.to.heap.size := by omega)); (try (have hy2 : w.heap.size + 2 < ex.to.heap.size := by omega)))
                go_wp2
                go_ret
                exact ⟨rfl, t0.trans ((hbW.trans ((hb2.trans (hex.mono hb2.size)).mono hbW.size)).mono t0.size)⟩
              · have h1 : ((ts.length : Int) != (r.legs.length : Int)) = false := ceq hB
                have hlen : ts.length ≤ r.legs.length ∧ r.legs.length ≤ ts.length := by omega
                have Hs2 := Lib.hid (show E = midE (rg && inB (ts.drop 0) (r.legs.drop 0)) (l.drop (j + 1)) (p.routes.drop (j + 1)) (fun r => outE p.routes r (t.drop (k + 1))) by rw [Hm.out, Hs.out, if_neg (by rw [HB.out]; simp at hB; simp [hB])]; rfl)
                clear HB Hm Hs hA hB HZ
                go_wp2
                (refine wp_region_ext 16 (by kernel_rfl) (by kernel_rfl) ?_; simp only [List.take_succ_cons, List.take_zero, List.drop_succ_cons, List.drop_zero]; (repeat (go_big_quiet_step ((fail)))); refine wpQuiet_nil ?_; rintro _ ⟨ex, rfl⟩; have hex := ex.below; have hexz := ex.size; (try simp at hexz); (try (have hy0 : w.heap.size < ex.to.heap.size := by omega)); (try (have hy1 : w.heap.size + 1 < ex.to.heap.size := by omega)); (try (have hy2 : w.heap.size + 2 < ex.to.heap.size := by omega)))
                obtain ⟨W3, hW3⟩ : ∃ z : World, z = ex.to := ⟨_, rfl⟩
                rw [← hW3] at hex ⊢
                clear hW3
                go_wp2
                have hbV := hb2.trans (hex.mono hb2.size)
                have f0 := below_cell hex d0k
                have g0 := below_cell hex d0
                have m0 := below_cell hex e0
                have K1 := below_cell hex k1
                have dI' := dI.below hex
                have eL' := eL.below hex
                go_loopw [5, 8] (fun q i wq => ∃ (m : Nat) (rq : Bool), m ≤ ts.length ∧ i = .int .i64 m ∧ q = .int .i64 (bad11 rq) ∧ (rg && inB (ts.drop 0) (r.legs.drop 0)) = (rq && inB (ts.drop m) (r.legs.drop m)) ∧ Below W3.heap.size W3 wq) (fun _ i _ => ts.length - (intOf i).toNat)
                case atStart => exact ⟨0, rg, Nat.zero_le _, rfl, rfl, rfl, Below.refl _ _⟩
                case round =>
                  clear hexz d0 e0 k1 dI eL d0k
                  obtain ⟨m, rq, hm, rfl, rfl, hi, hb3⟩ := hrel
                  have Hi := Lib.hid hi
                  clear hi
                  have f0 := below_cell hb3 f0
                  have g0 := below_cell hb3 g0
                  have m0 := below_cell hb3 m0
                  have K1 := below_cell hb3 K1
                  have q1 := cell_ltK f0
                  have q2 := cell_ltK g0
                  have q3 := cell_ltK m0
                  have q4 := cell_ltK K1
                  by_cases hml : m < ts.length
                  · obtain ⟨b5, off5, rfl, hbl5, x0⟩ := (dI'.below hb3) m hml
                    have hmr : m < r.legs.length := by omega
                    obtain ⟨b6, off6, ar6, c6, rfl, hbl6, y0, y1, _, _⟩ := (eL'.below hb3) m hmr
                    have Hst := Lib.hid (inB_step (ts := ts) (ls := r.legs) hml hmr)
                    have x0' : wr.cell? ⟨b5, off5 + m, none⟩ = some (.int .i64 ts[m]) := x0.trans (by simp [hml])
                    clear x0
                    obtain ⟨x, hx⟩ : ∃ x, ts[m] = x := ⟨_, rfl⟩
                    obtain ⟨lg, hlg⟩ : ∃ x, r.legs[m] = x := ⟨_, rfl⟩
                    rw [hx] at x0' Hst
                    rw [hlg] at y0 y1 Hst
                    obtain ⟨s1, hs1⟩ : ∃ x, lg.lo = x := ⟨_, rfl⟩
                    obtain ⟨s2, hs2⟩ : ∃ x, lg.hi = x := ⟨_, rfl⟩
                    rw [hs1] at y0 Hst
                    rw [hs2] at y1 Hst
                    have hin := fun W => refIn_any x s1 s2 W
                    obtain ⟨y, hy⟩ : ∃ y, inR x (s1, s2) = y := ⟨_, rfl⟩
                    rw [hy] at hin Hst
                    clear hx hlg hs1 hs2 hy
                    have hmI : (m : Int) < (ts.length : Int) := by omega
                    have hmJ : (m : Int) < (r.legs.length : Int) := by omega
                    go_wp2
                    obtain ⟨W4, hW4⟩ : ∃ z : World, z = wr.alloc (.cells #[.int .i64 s1, .int .i64 s2] 64) := ⟨_, rfl⟩
                    have b4' : Below wr.heap.size wr W4 := by rw [hW4]; exact (Below.refl _ _).alloc (Nat.le_refl _) _
                    have C4 : Cells W4 wr.heap.size #[.int .i64 s1, .int .i64 s2] 64 := by rw [hW4]; exact Cells.new _ _ _
                    rw [← hW4]
                    clear hW4
                    have r0 := C4.cell 0
                    have r1 := C4.cell 1
                    have lr4 := C4.lt
                    simp at r0 r1
                    have f0 := below_cell b4' f0
                    have g0 := below_cell b4' g0
                    have x0 := below_cell b4' x0'
                    have q1 := cell_ltK f0
                    have q2 := cell_ltK g0
                    have q5 := cell_ltK x0
                    cases y
                    · (refine wp_region_ext 16 (by kernel_rfl) (by kernel_rfl) ?_; simp only [List.take_succ_cons, List.take_zero, List.drop_succ_cons, List.drop_zero]; (repeat (go_big_quiet_step (((go_at_call 29; refine Calls_ext_same (hin _)))))); refine wpQuiet_nil ?_; rintro _ ⟨ex, rfl⟩; have hex := ex.below; have hexz := ex.size; (try simp at hexz); (try (have hy0 : w.heap.size < ex.to.heap.size := by omega)); (try (have hy1 : w.heap.size + 1 < ex.to.heap.size := by omega)); (try (have hy2 : w.heap.size + 2 < ex.to.heap.size := by omega)))
                      go_wp2
                      go_roundw
                      case rel => exact ⟨m + 1, false, by omega, by go_num, rfl, by rw [Hi.out, Hst.out]; simp, hb3.trans ((b4'.trans (hex.mono b4'.size)).mono hb3.size)⟩
                      case measure => simp [intOf]; omega
                    · (refine wp_region_ext 16 (by kernel_rfl) (by kernel_rfl) ?_; simp only [List.take_succ_cons, List.take_zero, List.drop_succ_cons, List.drop_zero]; (repeat (go_big_quiet_step (((go_at_call 29; refine Calls_ext_same (hin _)))))); refine wpQuiet_nil ?_; rintro _ ⟨ex, rfl⟩; have hex := ex.below; have hexz := ex.size; (try simp at hexz); (try (have hy0 : w.heap.size < ex.to.heap.size := by omega)); (try (have hy1 : w.heap.size + 1 < ex.to.heap.size := by omega)); (try (have hy2 : w.heap.size + 2 < ex.to.heap.size := by omega)))
                      go_wp2
                      go_roundw
                      case rel => exact ⟨m + 1, rq, by omega, by go_num, rfl, by rw [Hi.out, Hst.out]; simp, hb3.trans ((b4'.trans (hex.mono b4'.size)).mono hb3.size)⟩
                      case measure => simp [intOf]; omega
                  · obtain rfl : m = ts.length := by omega
                    have hi2 := Hi.out
                    rw [List.drop_eq_nil_of_le (Nat.le_refl _), inB_nil, Bool.and_true] at hi2
                    have Hi2 := Lib.hid hi2
                    clear hi2
                    go_wp2
                    go_roundw
                    case rel => exact ⟨j + 1, rq, by omega, by go_num, rfl, by rw [← Hll.out, Hs2.out, Hi2.out], hbV.trans (hb3.mono hbV.size)⟩
                    case measure => simp [intOf]; omega
            · have h0 : ts.length = 0 := HZ.out (by cases z <;> simp_all)
              have hbad : rowBad r ts = false := by rw [HB.out, hA]; rfl
              have hin : inB ts r.legs = true := by rw [List.eq_nil_of_length_eq_zero h0]; exact inB_nil _
              have Hs2 := Lib.hid (show E = midE rg (l.drop (j + 1)) (p.routes.drop (j + 1)) (fun r => outE p.routes r (t.drop (k + 1))) by rw [Hm.out, Hs.out, hbad, hin, Bool.and_true]; rfl)
              clear hbad hin h0 hA HB HZ
              go_wp2
              go_roundw
              case rel => exact ⟨j + 1, rg, by omega, by go_num, rfl, by rw [← Hll.out, Hs2.out], hb2⟩
              case measure => simp [intOf]; omega
        · obtain rfl : j = l.length := by omega
          have hm2 := Hm.out
          rw [List.drop_eq_nil_of_le (Nat.le_refl _)] at hm2
          have Hm2 := Lib.hid (show E = outE p.routes rg (t.drop (k + 1)) from hm2)
          clear hm2
          go_wp2
          go_roundw
          case rel => exact ⟨k + 1, rg, by omega, by go_num, rfl, by rw [← Hl.out, Hm2.out], hbW.trans (hb2.mono hbW.size)⟩
          case measure => simp [intOf]; omega
    · obtain rfl : k = t.length := by omega
      have he := Ho.out
      rw [List.drop_eq_nil_of_le (Nat.le_refl _), outE_end] at he
      have He := Lib.hid he
      clear he
      go_wp2
      go_ret
      exact ⟨ret_n He.out.symm, t0.trans (hb.mono t0.size)⟩
end Go.Proofs.Ytfclemnkcpadpaa
