/- Picked: a truth chosen by words -/
import Derived.Test.YtfclemnkcpadpaaSh
import Derived.Test.YtfclemnkcpadpaaPh
namespace Go.Proofs.Ytfclemnkcpadpaa
set_option linter.unusedVariables false
set_option linter.unusedSimpArgs false
set_option linter.unnecessarySimpa false
open Go.RowKit Go.Flow

def pk1 (ws : List Int) (b : Nat) (ls : List Leg) (m : Nat) : Int := pickedF (ls.getD m ⟨0, 0, []⟩).lo (ls.getD m ⟨0, 0, []⟩).hi (wordN ws (b + m + 1) / 3)
def pkR (ws : List Int) (i : Nat) (rs : List Route) (j : Nat) : List Int :=
  if (rs.getD j ⟨[], false⟩).lossy = true ∧ wordN ws (4 * i + j) % 3 = 0 then [] else (List.range (rs.getD j ⟨[], false⟩).legs.length).map (pk1 ws (4 * i + j) (rs.getD j ⟨[], false⟩).legs)
def pkRow (p : Post) (ws : List Int) (i : Nat) : List (List Int) := (List.range p.routes.length).map (pkR ws i p.routes)
def pkT (p : Post) (ws : List Int) : List (List (List Int)) := (List.range p.sends.length).map (pkRow p ws)
theorem pkR_at (ws : List Int) (i : Nat) {rs : List Route} {j : Nat} (h : j < rs.length) : pkR ws i rs j = if rs[j].lossy = true ∧ wordN ws (4 * i + j) % 3 = 0 then [] else (List.range rs[j].legs.length).map (pk1 ws (4 * i + j) rs[j].legs) := by
  unfold pkR
  rw [show rs.getD j ⟨[], false⟩ = rs[j] by simp [h]]
theorem word_b (a : Option Addr) (ws : List Int) (c k : Nat) (w : World) (hw : U16At w a ws) (hu : U16s ws) (hl : ws.length ≤ 9223372036854775807) (hk : k ≤ 1000) :
    Calls Try.prog 84 #[.slice a ws.length c, .int .i64 (k : Int)] w fun e w' => e = .returned (.int .i64 (wordN ws k : Int)) ∧ Below w.heap.size w w' :=
  (word_any a ws c k w hw hu hl hk).mono fun _ _ ⟨h, e⟩ => ⟨h, by rw [← e]; exact Below.refl _ _⟩
theorem TruthOwn.base_le {B B' : Nat} {w : World} {p : Option Addr × Nat} {t : List (List (List Int))} {n : Nat} (h : TruthOwn B w p t n) (hb : B' ≤ B) : TruthOwn B' w p t n := (NestOwn.base_le h hb).sub fun _ _ h => ListsOwn.base_le h hb
def RetTruth (B : Nat) (t : List (List (List Int))) (n : Nat) (e : Ending) (w' : World) : Prop := ∃ a c, e = .returned (.slice a n c) ∧ TruthOwn B w' (a, c) t n

set_option maxRecDepth 100000 in
set_option maxHeartbeats 8000000 in
theorem truthPicked_any (a : Option Addr) (c : Nat) (ar : Option Addr) (cr : Nat) (p : Post) (aw : Option Addr) (ws : List Int) (cw : Nat) (w : World) (hs : IntsAt w a p.sends) (hr : RoutesAt w ar p.routes) (hw : U16At w aw ws) (hu : U16s ws) (lw : ws.length ≤ 9223372036854775807) (H0 : Hid (postErr p = 0)) :
    Calls Try.prog 46 #[.agg #[.slice a p.sends.length c, .slice ar p.routes.length cr, .int .i64 p.pat], .slice aw ws.length cw] w fun e w' => RetTruth w.heap.size (pkT p ws) p.sends.length e w' ∧ Below w.heap.size w w' := by
  have lS := (postErr_ok H0.out).1
  have lR := (postErr_ok H0.out).2.1
  have HLG := Lib.hid (post_legs H0.out)
  obtain ⟨W1, hW1⟩ : ∃ z : World, z = w.alloc (.cells #[.slice a p.sends.length c, .slice ar p.routes.length cr, .int .i64 p.pat] 25) := ⟨_, rfl⟩
  have C1 : Cells W1 w.heap.size #[.slice a p.sends.length c, .slice ar p.routes.length cr, .int .i64 p.pat] 25 := by rw [hW1]; exact Cells.new _ _ _
  have t1 : Below w.heap.size w W1 := by rw [hW1]; exact (Below.refl _ _).alloc (Nat.le_refl _) _
  have z1 := t1.size
  go_enter Try.func46, Try.ntmps46
  go_wp2
  rw [← hW1]
  clear hW1
  go_loopw [5, 6] (fun v u wr => ∃ (k : Nat) (a' : Option Addr) (c' : Nat), k ≤ p.sends.length ∧ u = .int .i64 k ∧ v = .slice a' k c' ∧ TruthOwn W1.heap.size wr (a', c') (pkT p ws) k ∧ Below W1.heap.size W1 wr) (fun _ u _ => p.sends.length - (intOf u).toNat)
  case atStart => exact ⟨0, none, 0, Nat.zero_le _, rfl, rfl, NestOwn.nil _ _ _, Below.refl _ _⟩
  case round =>
    obtain ⟨k, a', c', hk, rfl, rfl, hT, hb⟩ := hrel
    have zb := hb.size
    have q0 := (C1.below hb).cell 0
    have q1 := (C1.below hb).cell 1
    have lq := (C1.below hb).lt
    simp at q0 q1
    by_cases hkl : k < p.sends.length
    · have hkI : (k : Int) < (p.sends.length : Int) := by omega
      have hx : Hid ((pkT p ws)[k]? = some (pkRow p ws k)) := Lib.hid (by unfold pkT; simp [hkl])
      have lrow : (pkRow p ws k).length = p.routes.length := by unfold pkRow; simp
      have Hlrow := Lib.hid lrow
      clear lrow
      go_wp2
      obtain ⟨Wo, hWo⟩ : ∃ z : World, z = wr := ⟨_, rfl⟩
      subst hWo
      go_loopw [7, 8] (fun v u wq => ∃ (j : Nat) (a6 : Option Addr) (c6 : Nat), j ≤ p.routes.length ∧ u = .int .i64 j ∧ v = .slice a6 j c6 ∧ ListsOwn Wo.heap.size wq (a6, c6) (pkRow p ws k) j ∧ Below Wo.heap.size Wo wq) (fun _ u _ => p.routes.length - (intOf u).toNat)
      case atStart => exact ⟨0, none, 0, Nat.zero_le _, rfl, rfl, NestOwn.nil _ _ _, Below.refl _ _⟩
      case round =>
        obtain ⟨j, a6, c6, hj, rfl, rfl, hJ, hb2⟩ := hrel
        have zq := hb2.size
        have d1 := below_cell hb2 q1
        have ld1 := cell_ltK d1
        have tq := t1.trans ((hb.trans (hb2.mono zb)).mono z1)
        by_cases hjl : j < p.routes.length
        · have hjI : (j : Int) < (p.routes.length : Int) := by omega
          obtain ⟨bR, offR, al, ca, rfl, hbR, e0, e1, eL⟩ := (hr.below tq) j hjl
          have lo3 := HLG.out p.routes[j] (List.getElem_mem hjl)
          have Hj : Hid ((pkRow p ws k)[j]? = some (if p.routes[j].lossy = true ∧ wordN ws (4 * k + j) % 3 = 0 then [] else (List.range p.routes[j].legs.length).map (pk1 ws (4 * k + j) p.routes[j].legs))) := Lib.hid (by unfold pkRow; simp only [List.getElem?_map]; rw [List.getElem?_range hjl]; simp only [Option.map_some]; rw [pkR_at ws k hjl])
          obtain ⟨r, hre⟩ : ∃ x, p.routes[j] = x := ⟨_, rfl⟩
          rw [hre] at e0 e1 eL lo3 Hj
          clear hre
          obtain ⟨l3, lok, _⟩ := lo3
          have Hlok := Lib.hid lok
          clear lok
          have hc1 : ((4 * k + j : Nat) : Int) = 4 * (k : Int) + (j : Int) := by omega
          have hwd := word_any aw ws cw (4 * k + j) wr (hw.below tq) hu lw (by omega)
          rw [hc1] at hwd
          have hq := wordN_le hu (4 * k + j)
          obtain ⟨q, hqe⟩ : ∃ q, wordN ws (4 * k + j) = q := ⟨_, rfl⟩
          rw [hqe] at hwd hq Hj
          obtain ⟨m3, hm3⟩ : ∃ m, q % 3 = m := ⟨_, rfl⟩
          have htm : Int.tmod (q : Int) 3 = (m3 : Int) := by rw [← hm3]; rfl
          rw [hm3] at Hj
          clear hc1 hqe hm3
          go_wp2_with fail
          go_at_call 84
          refine hwd.mono ?_
          rintro e _ ⟨rfl, rfl⟩
          clear hwd
          cases hly : r.lossy
          · rw [hly] at e1
            have Hly := Lib.hid hly
            clear hly
            go_wp2
            obtain ⟨Wq, hWq⟩ : ∃ z : World, z = wr := ⟨_, rfl⟩
            subst hWq
            go_loopw [10, 11] (fun v u wq => ∃ (m : Nat) (a8 : Option Addr) (c8 : Nat), m ≤ r.legs.length ∧ u = .int .i64 m ∧ v = .slice a8 m c8 ∧ OwnL 3 1 Wq.heap.size wq a8 c8 m (((List.range m).map (pk1 ws (4 * k + j) r.legs)).map (Value.int .i64)) ∧ Below Wq.heap.size Wq wq) (fun _ u _ => r.legs.length - (intOf u).toNat)
            case atStart => exact ⟨0, none, 0, Nat.zero_le _, rfl, rfl, OwnL.nil _ _ _ _, Below.refl _ _⟩
            case round =>
              obtain ⟨m, a8, c8, hm, rfl, rfl, hO, hb3⟩ := hrel
              have z3 := hb3.size
              have dd1 := below_cell hb3 d1
              have ldd1 := cell_ltK dd1
              have g0 := below_cell hb3 e0
              have lg0 := cell_ltK g0
              by_cases hml : m < r.legs.length
              · have hmI : (m : Int) < (r.legs.length : Int) := by omega
                obtain ⟨bL, offL, ar6, c6', rfl, hbL, l0, l1, l2, _⟩ := (eL.below hb3) m hml
                have hlk := legOk_iff.1 (List.all_eq_true.1 Hlok.out _ (List.getElem_mem hml))
                have Hpk : Hid (pk1 ws (4 * k + j) r.legs m = pickedF r.legs[m].lo r.legs[m].hi (wordN ws (4 * k + j + m + 1) / 3)) := Lib.hid (by unfold pk1; simp [hml])
                obtain ⟨lg, hlg⟩ : ∃ x, r.legs[m] = x := ⟨_, rfl⟩
                rw [hlg] at l0 l1 hlk Hpk
                obtain ⟨lo, hlo⟩ : ∃ x, lg.lo = x := ⟨_, rfl⟩
                obtain ⟨hi, hhi⟩ : ∃ x, lg.hi = x := ⟨_, rfl⟩
                rw [hlo, hhi] at Hpk hlk
                rw [hlo] at l0
                rw [hhi] at l1
                clear hlg hlo hhi l2
                have hc2 : ((4 * k + j + m + 1 : Nat) : Int) = 4 * (k : Int) + (j : Int) + (m : Int) + 1 := by omega
                have hwd2 := fun X (b : Below wr.heap.size wr X) => word_b aw ws cw (4 * k + j + m + 1) X (((hw.below tq).below hb3).below b) hu lw (by omega)
                rw [hc2] at hwd2
                have hq2 := wordN_le hu (4 * k + j + m + 1)
                obtain ⟨q2, hq2e⟩ : ∃ q, wordN ws (4 * k + j + m + 1) = q := ⟨_, rfl⟩
                rw [hq2e] at hwd2 hq2 Hpk
                obtain ⟨u2, hu2⟩ : ∃ u, q2 / 3 = u := ⟨_, rfl⟩
                have htd : Int.tdiv (q2 : Int) 3 = (u2 : Int) := by rw [← hu2]; rfl
                rw [hu2] at Hpk
                have hub : u2 ≤ 65535 := by omega
                have hpk := fun X => picked_any lo hi u2 X (by omega) (by omega) (by omega) hub
                obtain ⟨P, hP⟩ : ∃ P, pickedF lo hi u2 = P := ⟨_, rfl⟩
                rw [hP] at hpk Hpk
                have hbL2 := cell_ltK l0
                have hv1 : IntKind.i64.wrap (4 * (k : Int)) = 4 * (k : Int) := IntWalk.i64_in _ (by omega)
                have hv2 : IntKind.i64.wrap (4 * (k : Int) + (j : Int)) = 4 * (k : Int) + (j : Int) := IntWalk.i64_in _ (by omega)
                have hv3 : IntKind.i64.wrap (4 * (k : Int) + (j : Int) + (m : Int)) = 4 * (k : Int) + (j : Int) + (m : Int) := IntWalk.i64_in _ (by omega)
                have hv4 : IntKind.i64.wrap (4 * (k : Int) + (j : Int) + (m : Int) + 1) = 4 * (k : Int) + (j : Int) + (m : Int) + 1 := IntWalk.i64_in _ (by omega)
                have hv5 : IntKind.i64.wrap (u2 : Int) = (u2 : Int) := IntWalk.i64_in _ (by omega)
                clear hc2 hq2e hu2 hP hlk
                go_wp2
                (refine wp_region_seq 23 [] [23, 24] 90 [true, true, true, true, true, true, true, true, true, true, true, true, true, true, true, true, true, true, true, true, true, true, false] [LitV wr.heap.size 1 #[.int .i64 P] 3] (by kernel_rfl) (by kernel_rfl) rfl (mono_cons (fun v w w' h hb => h.kept hb) mono_nil) ?_; simp only [pickOps, List.filterMap_cons, List.filterMap_nil, List.getElem?_toArray, List.getElem?_cons_succ, List.getElem?_cons_zero]; (repeat (refine wpFl_step _ rfl (fun w => (by go_simp; rfl)) ?_)); refine wpFl_nil ?_; simp only [maskOps, dummy, Act.put, List.setIfInBounds_toArray, List.set_cons_zero, List.set_cons_succ, List.take_succ_cons, List.take_zero, List.drop_succ_cons, List.drop_zero]; (repeat (refine wpQB_step (fun K hK => ?_); go_simp; first | (refine hK _ ?_; clear hK K) | (apply Exists.intro; refine ⟨fun ex => ?_, hK _ ?_⟩; (first | (go_at_call 84; with_reducible exact hwd2 _ ex.below) | (go_at_call 85; with_reducible exact hpk _)); clear hK K))); refine wpQB_nil ?_; simp only [relObl2, under, relEnd, and_true, List.nil_append, List.cons_append])
                refine ⟨?_, ?_⟩
                · intro e
                  go_simp
                  exact ⟨(Below.refl _ _).alloc (Nat.le_refl _) _, e.to.heap.size, rfl, e.size, Cells.new _ _ _⟩
                intro e
                rintro v1 ⟨gg, rfl, hg, CG⟩
                simp only [Act.put, List.setIfInBounds_toArray, List.set_cons_zero, List.set_cons_succ]
                have he5 := e.below
                obtain ⟨w5, hw5⟩ : ∃ x : World, x = e.to := ⟨_, rfl⟩
                rw [← hw5] at he5 CG ⊢
                clear hw5 e hwd2 hpk
                have z5 := he5.size
                have own5 := hO.kept he5
                refine wpList_app elInt rfl _ _ rfl Wq.heap.size a8 m c8 _ rfl own5 (some ⟨gg, 0, none⟩) 1 1 [.int .i64 P] rfl (fun h => by cases h) rfl CG.src (fun u hu => by simp at hu; subst hu; rfl) (by unfold maxLen; omega) (by omega) (by omega) ?_
                intro a9 c9 w9 own9 hb9
                have own9' : OwnL 3 1 Wq.heap.size w9 a9 c9 (m + 1) (((List.range (m + 1)).map (pk1 ws (4 * k + j) r.legs)).map (Value.int .i64)) := by
                  rw [List.range_succ, List.map_append, List.map_append]
                  simp only [List.map_cons, List.map_nil, Hpk.out]
                  exact own9
                go_wp2
                go_roundw
                case rel => exact ⟨m + 1, a9, c9, by omega, by go_num, rfl, own9', (hb3.trans (he5.mono z3)).trans hb9⟩
                case measure => simp [intOf]; omega
              · obtain rfl : m = r.legs.length := by omega
                have hxe : Hid ((pkRow p ws k)[j]? = some ((List.range r.legs.length).map (pk1 ws (4 * k + j) r.legs))) := Lib.hid (by rw [Hj.out, if_neg (by rw [Hly.out]; simp)])
                have lxe : ((List.range r.legs.length).map (pk1 ws (4 * k + j) r.legs)).length = r.legs.length := by simp
                obtain ⟨X, hX⟩ : ∃ X, (List.range r.legs.length).map (pk1 ws (4 * k + j) r.legs) = X := ⟨_, rfl⟩
                rw [hX] at hO hxe lxe
                clear hX
                have hJ3 := hJ.kept hb3
                obtain ⟨ps, hps, hown, hsub⟩ := hJ3
                have ho' : IntsOwn Wo.heap.size wr (a8, c8) X := by
                  have := OwnL.base_le hO zq
                  unfold IntsOwn
                  rw [lxe]; exact this
                go_wp2_with (at_builtin; refine wpList_app_g el_lists rfl _ _ rfl Wo.heap.size a6 j c6 _ rfl (hown.alloc _) (some ⟨wr.heap.size, 0, none⟩) 1 1 [.slice a8 r.legs.length c8] rfl (fun h => by cases h) rfl (Cells.src (Cells.new _ _ _)) (fun u hu => by simp at hu; subst hu; rfl) (by unfold maxLen; omega) (by omega) (by simp; omega) ?_; intro a7 c7 w7 hown7 hb7 hg7)
                have hgA : ∀ {p : Option Addr × Nat} {y : List Int}, IntsOwn Wo.heap.size wr p y → IntsOwn Wo.heap.size w7 p y := fun {p y} h => OwnL.grown (OwnL.alloc (show OwnL 3 1 Wo.heap.size wr p.1 p.2 y.length (y.map (Value.int .i64)) from h) _) hg7 (OwnL.apart (by decide) h hown)
                go_roundw
                case rel => exact ⟨j + 1, a7, c7, by omega, by go_num, rfl, NestOwn.snoc hps hxe.out (a8, c8) (by unfold sv; simp only [lxe]; exact hown7) (fun q y p h1 h2 => hgA (hsub q y p h1 h2)) (hgA ho'), hb2.trans ((hb3.mono zq).trans ((((Below.refl _ _).alloc (Nat.le_refl _) _).mono (by omega)).trans hb7))⟩
                case measure => simp [intOf]; omega
          · rw [hly] at e1
            have Hly := Lib.hid hly
            clear hly
            by_cases h3 : m3 = 0
            · subst h3
              have hxe : Hid ((pkRow p ws k)[j]? = some []) := Lib.hid (by rw [Hj.out, if_pos ⟨Hly.out, rfl⟩])
              have hJ3 := hJ
              obtain ⟨ps, hps, hown, hsub⟩ := hJ3
              have ho' : IntsOwn Wo.heap.size wr (none, 0) [] := OwnL.nil _ _ _ _
              go_wp2_with (at_builtin; refine wpList_app_g el_lists rfl _ _ rfl Wo.heap.size a6 j c6 _ rfl (hown.alloc _) (some ⟨wr.heap.size, 0, none⟩) 1 1 [.slice none 0 0] rfl (fun h => by cases h) rfl (Cells.src (Cells.new _ _ _)) (fun u hu => by simp at hu; subst hu; rfl) (by unfold maxLen; omega) (by omega) (by simp; omega) ?_; intro a7 c7 w7 hown7 hb7 hg7)
              have hgA : ∀ {p : Option Addr × Nat} {y : List Int}, IntsOwn Wo.heap.size wr p y → IntsOwn Wo.heap.size w7 p y := fun {p y} h => OwnL.grown (OwnL.alloc (show OwnL 3 1 Wo.heap.size wr p.1 p.2 y.length (y.map (Value.int .i64)) from h) _) hg7 (OwnL.apart (by decide) h hown)
              go_roundw
              case rel => exact ⟨j + 1, a7, c7, by omega, by go_num, rfl, NestOwn.snoc hps hxe.out (none, 0) hown7 (fun q y p h1 h2 => hgA (hsub q y p h1 h2)) (hgA ho'), hb2.trans ((((Below.refl _ _).alloc (Nat.le_refl _) _).mono zq).trans hb7)⟩
              case measure => simp [intOf]; omega
            · have h3b : ((m3 : Int) == 0) = false := by rw [beq_eq_false_iff_ne]; omega
              have H3 := Lib.hid h3
              clear h3
              go_wp2
              obtain ⟨Wq, hWq⟩ : ∃ z : World, z = wr := ⟨_, rfl⟩
              subst hWq
              go_loopw [10, 11] (fun v u wq => ∃ (m : Nat) (a8 : Option Addr) (c8 : Nat), m ≤ r.legs.length ∧ u = .int .i64 m ∧ v = .slice a8 m c8 ∧ OwnL 3 1 Wq.heap.size wq a8 c8 m (((List.range m).map (pk1 ws (4 * k + j) r.legs)).map (Value.int .i64)) ∧ Below Wq.heap.size Wq wq) (fun _ u _ => r.legs.length - (intOf u).toNat)
              case atStart => exact ⟨0, none, 0, Nat.zero_le _, rfl, rfl, OwnL.nil _ _ _ _, Below.refl _ _⟩
              case round =>
                obtain ⟨m, a8, c8, hm, rfl, rfl, hO, hb3⟩ := hrel
                have z3 := hb3.size
                have dd1 := below_cell hb3 d1
                have ldd1 := cell_ltK dd1
                have g0 := below_cell hb3 e0
                have lg0 := cell_ltK g0
                by_cases hml : m < r.legs.length
                · have hmI : (m : Int) < (r.legs.length : Int) := by omega
                  obtain ⟨bL, offL, ar6, c6', rfl, hbL, l0, l1, l2, _⟩ := (eL.below hb3) m hml
                  have hlk := legOk_iff.1 (List.all_eq_true.1 Hlok.out _ (List.getElem_mem hml))
                  have Hpk : Hid (pk1 ws (4 * k + j) r.legs m = pickedF r.legs[m].lo r.legs[m].hi (wordN ws (4 * k + j + m + 1) / 3)) := Lib.hid (by unfold pk1; simp [hml])
                  obtain ⟨lg, hlg⟩ : ∃ x, r.legs[m] = x := ⟨_, rfl⟩
                  rw [hlg] at l0 l1 hlk Hpk
                  obtain ⟨lo, hlo⟩ : ∃ x, lg.lo = x := ⟨_, rfl⟩
                  obtain ⟨hi, hhi⟩ : ∃ x, lg.hi = x := ⟨_, rfl⟩
                  rw [hlo, hhi] at Hpk hlk
                  rw [hlo] at l0
                  rw [hhi] at l1
                  clear hlg hlo hhi l2
                  have hc2 : ((4 * k + j + m + 1 : Nat) : Int) = 4 * (k : Int) + (j : Int) + (m : Int) + 1 := by omega
                  have hwd2 := fun X (b : Below wr.heap.size wr X) => word_b aw ws cw (4 * k + j + m + 1) X (((hw.below tq).below hb3).below b) hu lw (by omega)
                  rw [hc2] at hwd2
                  have hq2 := wordN_le hu (4 * k + j + m + 1)
                  obtain ⟨q2, hq2e⟩ : ∃ q, wordN ws (4 * k + j + m + 1) = q := ⟨_, rfl⟩
                  rw [hq2e] at hwd2 hq2 Hpk
                  obtain ⟨u2, hu2⟩ : ∃ u, q2 / 3 = u := ⟨_, rfl⟩
                  have htd : Int.tdiv (q2 : Int) 3 = (u2 : Int) := by rw [← hu2]; rfl
                  rw [hu2] at Hpk
                  have hub : u2 ≤ 65535 := by omega
                  have hpk := fun X => picked_any lo hi u2 X (by omega) (by omega) (by omega) hub
                  obtain ⟨P, hP⟩ : ∃ P, pickedF lo hi u2 = P := ⟨_, rfl⟩
                  rw [hP] at hpk Hpk
                  have hbL2 := cell_ltK l0
                  have hv1 : IntKind.i64.wrap (4 * (k : Int)) = 4 * (k : Int) := IntWalk.i64_in _ (by omega)
                  have hv2 : IntKind.i64.wrap (4 * (k : Int) + (j : Int)) = 4 * (k : Int) + (j : Int) := IntWalk.i64_in _ (by omega)
                  have hv3 : IntKind.i64.wrap (4 * (k : Int) + (j : Int) + (m : Int)) = 4 * (k : Int) + (j : Int) + (m : Int) := IntWalk.i64_in _ (by omega)
                  have hv4 : IntKind.i64.wrap (4 * (k : Int) + (j : Int) + (m : Int) + 1) = 4 * (k : Int) + (j : Int) + (m : Int) + 1 := IntWalk.i64_in _ (by omega)
                  have hv5 : IntKind.i64.wrap (u2 : Int) = (u2 : Int) := IntWalk.i64_in _ (by omega)
                  clear hc2 hq2e hu2 hP hlk
                  go_wp2
                  (refine wp_region_seq 23 [] [23, 24] 90 [true, true, true, true, true, true, true, true, true, true, true, true, true, true, true, true, true, true, true, true, true, true, false] [LitV wr.heap.size 1 #[.int .i64 P] 3] (by kernel_rfl) (by kernel_rfl) rfl (mono_cons (fun v w w' h hb => h.kept hb) mono_nil) ?_; simp only [pickOps, List.filterMap_cons, List.filterMap_nil, List.getElem?_toArray, List.getElem?_cons_succ, List.getElem?_cons_zero]; (repeat (refine wpFl_step _ rfl (fun w => (by go_simp; rfl)) ?_)); refine wpFl_nil ?_; simp only [maskOps, dummy, Act.put, List.setIfInBounds_toArray, List.set_cons_zero, List.set_cons_succ, List.take_succ_cons, List.take_zero, List.drop_succ_cons, List.drop_zero]; (repeat (refine wpQB_step (fun K hK => ?_); go_simp; first | (refine hK _ ?_; clear hK K) | (apply Exists.intro; refine ⟨fun ex => ?_, hK _ ?_⟩; (first | (go_at_call 84; with_reducible exact hwd2 _ ex.below) | (go_at_call 85; with_reducible exact hpk _)); clear hK K))); refine wpQB_nil ?_; simp only [relObl2, under, relEnd, and_true, List.nil_append, List.cons_append])
                  refine ⟨?_, ?_⟩
                  · intro e
                    go_simp
                    exact ⟨(Below.refl _ _).alloc (Nat.le_refl _) _, e.to.heap.size, rfl, e.size, Cells.new _ _ _⟩
                  intro e
                  rintro v1 ⟨gg, rfl, hg, CG⟩
                  simp only [Act.put, List.setIfInBounds_toArray, List.set_cons_zero, List.set_cons_succ]
                  have he5 := e.below
                  obtain ⟨w5, hw5⟩ : ∃ x : World, x = e.to := ⟨_, rfl⟩
                  rw [← hw5] at he5 CG ⊢
                  clear hw5 e hwd2 hpk
                  have z5 := he5.size
                  have own5 := hO.kept he5
                  refine wpList_app elInt rfl _ _ rfl Wq.heap.size a8 m c8 _ rfl own5 (some ⟨gg, 0, none⟩) 1 1 [.int .i64 P] rfl (fun h => by cases h) rfl CG.src (fun u hu => by simp at hu; subst hu; rfl) (by unfold maxLen; omega) (by omega) (by omega) ?_
                  intro a9 c9 w9 own9 hb9
                  have own9' : OwnL 3 1 Wq.heap.size w9 a9 c9 (m + 1) (((List.range (m + 1)).map (pk1 ws (4 * k + j) r.legs)).map (Value.int .i64)) := by
                    rw [List.range_succ, List.map_append, List.map_append]
                    simp only [List.map_cons, List.map_nil, Hpk.out]
                    exact own9
                  go_wp2
                  go_roundw
                  case rel => exact ⟨m + 1, a9, c9, by omega, by go_num, rfl, own9', (hb3.trans (he5.mono z3)).trans hb9⟩
                  case measure => simp [intOf]; omega
                · obtain rfl : m = r.legs.length := by omega
                  have hxe : Hid ((pkRow p ws k)[j]? = some ((List.range r.legs.length).map (pk1 ws (4 * k + j) r.legs))) := Lib.hid (by rw [Hj.out, if_neg (fun h => H3.out h.2)])
                  have lxe : ((List.range r.legs.length).map (pk1 ws (4 * k + j) r.legs)).length = r.legs.length := by simp
                  obtain ⟨X, hX⟩ : ∃ X, (List.range r.legs.length).map (pk1 ws (4 * k + j) r.legs) = X := ⟨_, rfl⟩
                  rw [hX] at hO hxe lxe
                  clear hX
                  have hJ3 := hJ.kept hb3
                  obtain ⟨ps, hps, hown, hsub⟩ := hJ3
                  have ho' : IntsOwn Wo.heap.size wr (a8, c8) X := by
                    have := OwnL.base_le hO zq
                    unfold IntsOwn
                    rw [lxe]; exact this
                  go_wp2_with (at_builtin; refine wpList_app_g el_lists rfl _ _ rfl Wo.heap.size a6 j c6 _ rfl (hown.alloc _) (some ⟨wr.heap.size, 0, none⟩) 1 1 [.slice a8 r.legs.length c8] rfl (fun h => by cases h) rfl (Cells.src (Cells.new _ _ _)) (fun u hu => by simp at hu; subst hu; rfl) (by unfold maxLen; omega) (by omega) (by simp; omega) ?_; intro a7 c7 w7 hown7 hb7 hg7)
                  have hgA : ∀ {p : Option Addr × Nat} {y : List Int}, IntsOwn Wo.heap.size wr p y → IntsOwn Wo.heap.size w7 p y := fun {p y} h => OwnL.grown (OwnL.alloc (show OwnL 3 1 Wo.heap.size wr p.1 p.2 y.length (y.map (Value.int .i64)) from h) _) hg7 (OwnL.apart (by decide) h hown)
                  go_roundw
                  case rel => exact ⟨j + 1, a7, c7, by omega, by go_num, rfl, NestOwn.snoc hps hxe.out (a8, c8) (by unfold sv; simp only [lxe]; exact hown7) (fun q y p h1 h2 => hgA (hsub q y p h1 h2)) (hgA ho'), hb2.trans ((hb3.mono zq).trans ((((Below.refl _ _).alloc (Nat.le_refl _) _).mono (by omega)).trans hb7))⟩
                  case measure => simp [intOf]; omega
        · obtain rfl : j = p.routes.length := by omega
          have hT2 := hT.kept hb2
          obtain ⟨ps, hps, hown, hsub⟩ := hT2
          have hJ' : ListsOwn W1.heap.size wr (a6, c6) (pkRow p ws k) (pkRow p ws k).length := by rw [Hlrow.out]; exact hJ.base_le (by omega)
          have wA : ∀ o, Below wr.heap.size wr (wr.alloc o) := fun o => (Below.refl _ _).alloc (Nat.le_refl _) _
          go_wp2_with (at_builtin; refine wpList_app_g el_truths rfl _ _ rfl W1.heap.size a' k c' _ rfl (hown.alloc _) (some ⟨wr.heap.size, 0, none⟩) 1 1 [.slice a6 p.routes.length c6] rfl (fun h => by cases h) rfl (Cells.src (Cells.new _ _ _)) (fun u hu => by simp at hu; subst hu; rfl) (by unfold maxLen; omega) (by omega) (by simp; omega) ?_; intro a7 c7 w7 hown7 hb7 hg7)
          have hgI : ∀ o {p : Option Addr × Nat} {y : List Int}, (wr.alloc o).grownBy w7 (Value.slice a' k c').ownBlock → IntsOwn W1.heap.size wr p y → IntsOwn W1.heap.size w7 p y := fun o {p y} hg7 h => OwnL.grown (OwnL.alloc h o) hg7 (OwnL.apart (by decide) h hown)
          have hgL : ∀ {p : Option Addr × Nat} {y : List (List Int)}, ListsOwn W1.heap.size wr p y y.length → ListsOwn W1.heap.size w7 p y y.length := fun {p y} h => by
            obtain ⟨qs, q1, q2, q3⟩ := h
            exact ⟨qs, q1, OwnL.grown (OwnL.alloc q2 _) hg7 (OwnL.apart (by decide) q2 hown), fun q x p hx hp => hgI _ hg7 (q3 q x p hx hp)⟩
          go_roundw
          case rel => exact ⟨k + 1, a7, c7, by omega, by go_num, rfl, NestOwn.snoc hps hx.out (a6, c6) (by unfold sv; simp only [Hlrow.out]; exact hown7) (fun q y p h1 h2 => hgL (hsub q y p h1 h2)) (hgL hJ'), hb.trans ((hb2.mono zb).trans (((wA _).mono (by omega)).trans hb7))⟩
          case measure => simp [intOf]; omega
    · obtain rfl : k = p.sends.length := by omega
      go_wp2
      go_ret
      exact ⟨⟨a', c', rfl, TruthOwn.base_le hT z1⟩, t1.trans (hb.mono z1)⟩
end Go.Proofs.Ytfclemnkcpadpaa
