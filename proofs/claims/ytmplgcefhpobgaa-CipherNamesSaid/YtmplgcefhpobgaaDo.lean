/- cipher: the reference's IsRight -/
import Derived.Test.YtmplgcefhpobgaaDn
import Derived.Test.YtmplgcefhpobgaaMd
namespace Go.Proofs.Ytmplgcefhpobgaa
set_option linter.unusedVariables false
set_option linter.unusedSimpArgs false
set_option linter.unnecessarySimpa false
open Go.RowKit Go.Flow

def Spot.cells (s : Spot) : Array Value := #[.int .i64 s.u0, .int .i64 s.u1, .int .i64 s.u2, .int .i64 s.u3, .int .i64 s.u4]
theorem Spot.cells_get (s : Spot) {k : Nat} (h : k < 5) : s.cells[k]? = some (.int .i64 (s.use k)) := by
  match k, h with
  | 0, _ | 1, _ | 2, _ | 3, _ | 4, _ => rfl
theorem Spot.cells_set (s : Spot) {k : Nat} (h : k < 5) : s.cells.setIfInBounds k (.int .i64 (s.use k + 1)) = (s.bump k).cells := by
  match k, h with
  | 0, _ | 1, _ | 2, _ | 3, _ | 4, _ => rfl
theorem Spot.use_b {s : Spot} {nd : Nat} (h : s.Ok nd) (k : Nat) : 0 ≤ s.use k ∧ s.use k ≤ nd := by
  obtain ⟨d, la, u0, u1, u2, u3, u4⟩ := s
  obtain ⟨d0, d1, l0, l1, n0, n1, n2, n3, n4⟩ := h
  simp only at *
  match k with
  | 0 | 1 | 2 | 3 => simp only [Spot.use]; omega
  | k + 4 => simp only [Spot.use]; omega
/-- Whether a list is a right rest of a plan, from a spot on. -/
def rightB (F : Nat → Int) (m : Int) (nk : Nat) : Spot → List Int → Bool
  | _, [] => true
  | s, x :: l => (decide (0 ≤ x) && decide (x ≤ (nk : Int) - 1)) && mayB (F x.toNat) m s x.toNat && rightB F m nk (s.bump x.toNat) l
theorem rightB_drop (F : Nat → Int) (m : Int) (nk : Nat) (s : Spot) (l : List Int) (k : Nat) (h : k < l.length) : rightB F m nk s (l.drop k) = ((decide (0 ≤ l[k]) && decide (l[k] ≤ (nk : Int) - 1)) && mayB (F l[k].toNat) m s l[k].toNat && rightB F m nk (s.bump l[k].toNat) (l.drop (k + 1))) := by
  rw [List.drop_eq_getElem_cons h]; rfl
theorem spot0_ok (nd : Nat) : spot0.Ok nd := by constructor <;> simp [spot0]

set_option maxRecDepth 100000 in
set_option maxHeartbeats 8000000 in
theorem isRight_any (s wo : Int) (ak : Option Addr) (ks : List (Int × Int × Int)) (ck : Nat) (ad : Option Addr) (ds : List Int) (cd : Nat) (al : Option Addr) (lost : List (Int × Int)) (cl : Nat) (m : Int) (ax : Option Addr) (l : List Int) (cx : Nat) (r : Bool) (Hr0 : Hid ((decide (l.length = ds.length) && rightB (fun j => hadN lost j) m ks.length spot0 l) = r)) (w : World) (hk : Recs3At w ak ks) (hd : IntsAt w ad ds) (lk : ks.length ≤ 1000) (ld : ds.length ≤ 1000) (hl : Recs2At w al lost) (ll : lost.length ≤ 1000) (hx : IntsAt w ax l) (lx : l.length ≤ 1000) (lk5 : ks.length ≤ 5) (k0 : 0 < ks.length) (hlo : ∀ x ∈ lost, 0 ≤ x.2) :
    Calls Try.prog 36 #[.agg #[.int .i64 s, .int .i64 wo, .slice ak ks.length ck, .slice ad ds.length cd], .slice al lost.length cl, .int .i64 m, .slice ax l.length cx] w fun e w' => e = .returned (.bool r) ∧ Below w.heap.size w w' := by
  have Hlo := Lib.hid hlo
  clear hlo
  have qB := BookAt.new w s wo ak ks.length ck ad ds.length cd 25
  by_cases hlen : l.length = ds.length
  · have hL : ((l.length : Int) != (ds.length : Int)) = false := by simp; omega
    have Hr : Hid (rightB (fun j => hadN lost j) m ks.length spot0 l = r) := Lib.hid (by rw [← Hr0.out]; simp [hlen])
    clear Hr0 hlen
    go_enter Try.func36, Try.ntmps36
    go_wp2
    obtain ⟨W0, hW0⟩ : ∃ x : World, x = (w.alloc (.cells #[.int .i64 s, .int .i64 wo, .slice ak ks.length ck, .slice ad ds.length cd] 25)).alloc (.cells #[.int .i64 0, .int .i64 0, .int .i64 0, .int .i64 0, .int .i64 0] 118) := ⟨_, rfl⟩
    have t0 : Below w.heap.size w W0 := by rw [hW0]; (repeat (first | exact Below.refl _ _ | refine Below.alloc ?_ (by first | omega | (simp; done) | (simp; omega)) _ | refine Below.drew ?_ | refine Below.setCell ?_ (by first | omega | (simp; done) | (simp; omega)) _ | refine Below.trans ?_ (Below.mono (by assumption) (by first | omega | (simp; done) | (simp; omega)))))
    have z0 : W0.heap.size = w.heap.size + 1 + 1 := by rw [hW0]; simp
    obtain ⟨q0, q1, q2, q3⟩ : BookAt W0 w.heap.size s wo ak ks.length ck ad ds.length cd := by rw [hW0]; exact qB.below ((Below.refl _ _).alloc (Nat.le_refl _) _)
    have cU : Cells W0 (w.heap.size + 1) spot0.cells 118 := by
      rw [hW0]
      have := Cells.new (w.alloc (.cells #[.int .i64 s, .int .i64 wo, .slice ak ks.length ck, .slice ad ds.length cd] 25)) #[.int .i64 0, .int .i64 0, .int .i64 0, .int .i64 0, .int .i64 0] 118
      rwa [show (w.alloc (.cells #[.int .i64 s, .int .i64 wo, .slice ak ks.length ck, .slice ad ds.length cd] 25)).heap.size = w.heap.size + 1 by simp] at this
    rw [← hW0]
    clear hW0 qB q0 q1 q3
    obtain ⟨g, hg⟩ : ∃ g, w.heap.size + 1 = g := ⟨_, rfl⟩
    obtain ⟨b0, hb0⟩ : ∃ g, w.heap.size = g := ⟨_, rfl⟩
    have hgb : b0 < g := by omega
    have hb0' : w.heap.size ≤ b0 := by omega
    have hbw : b0 ≤ w.heap.size := by omega
    have hgz : g ≤ W0.heap.size := by omega
    rw [hg] at cU ⊢
    rw [hb0] at q2 ⊢
    clear hg hb0 z0
    go_loopw [10] (fun i wr => ∃ (k : Nat) (sp : Spot), k ≤ l.length ∧ i = .int .i64 k ∧ sp.Ok l.length ∧ sp.day = k ∧ Cells wr g sp.cells 118 ∧ Hid (rightB (fun j => hadN lost j) m ks.length sp (l.drop k) = r) ∧ Below g W0 wr) (fun i _ => l.length - (intOf i).toNat)
    case atStart => exact ⟨0, spot0, Nat.zero_le _, rfl, spot0_ok _, rfl, cU, Hr, Below.refl _ _⟩
    case round =>
      obtain ⟨k, sp, hkl, rfl, hsp, hday, cR, HR, bR⟩ := hrel
      have tR : Below w.heap.size w wr := t0.trans (bR.mono (by omega))
      have q2' : wr.cell? ⟨b0, 2, none⟩ = some (.slice ak ks.length ck) := (bR.cell (p := ⟨b0, 2, none⟩) hgb).trans q2
      have lb0 := cell_lt q2'
      simp only at lb0
      by_cases hlt : k < l.length
      · obtain ⟨b, off, rfl, hbl0, c00⟩ := hx k hlt
        have c0 := (tR.cell (p := ⟨b, off + k, none⟩) hbl0).trans c00
        have hbl := Nat.lt_of_lt_of_le hbl0 tR.size
        have hbg : b < g := by omega
        have hbg2 : ¬ b = g := by omega
        have hbg3 : ¬ g = b := by omega
        clear c00
        have hst := rightB_drop (fun j => hadN lost j) m ks.length sp l k hlt
        have hltI : (k : Int) < (l.length : Int) := by omega
        replace c0 := c0.trans (by rw [List.getD_eq_getElem?_getD, List.getElem?_eq_getElem hlt]; rfl : _ = some (Value.int .i64 l[k]))
        obtain ⟨x, hxe⟩ : ∃ x, l[k] = x := ⟨_, rfl⟩
        rw [hxe] at hst c0
        have Hst := Lib.hid hst
        have hHad : ∀ W, Below wr.heap.size wr W → ∀ r2, Hid (hadB lost x k = r2) → Calls Try.prog 74 #[.slice al lost.length cl, .int .i64 x, .int .i64 k] W fun e w' => e = .returned (.bool r2) ∧ W = w' := fun W hW r2 h => by
          rw [← h.out]; exact refHad_any al lost cl x k W ((hl.below tR).below hW) ll
        clear hxe hst
        cases h1 : (decide (0 ≤ x) && decide (x ≤ (ks.length : Int) - 1))
        · have Hf : Hid (r = false) := Lib.hid (by rw [← HR.out, Hst.out, h1]; rfl)
          have H1 := Lib.hid h1
          clear h1 HR Hst
          go_wp2_with fail
          (refine wp_region_ext 19 (by kernel_rfl) (by kernel_rfl) ?_; simp only [List.take_succ_cons, List.take_zero, List.drop_succ_cons, List.drop_zero]; (repeat (go_big_quiet_step (((go_at_call 23; refine Calls_ext_same (in_eq x 0 ((ks.length : Int) - 1) _ H1 _)))))); refine wpQuiet_nil ?_; rintro _ ⟨ex, rfl⟩; have hex := ex.below; have hexz := ex.size; (try simp at hexz); (try (have hy0 : w.heap.size < ex.to.heap.size := by omega)); (try (have hy1 : w.heap.size + 1 < ex.to.heap.size := by omega)); (try (have hy2 : w.heap.size + 2 < ex.to.heap.size := by omega)))
          have bE := ex.below
          go_wp2_with fail
          go_ret
          rw [Hf.out]
          exact ⟨rfl, tR.trans (bE.mono tR.size)⟩
        · obtain ⟨kk, rfl⟩ : ∃ kk : Nat, x = kk := ⟨x.toNat, by simp at h1; omega⟩
          have hk5 : kk < 5 := by simp at h1; omega
          have H1 := Lib.hid h1
          have hu := Spot.use_b hsp kk
          have hcg := cR.cell kk
          rw [sp.cells_get hk5] at hcg
          have hfg := cR.frozen kk
          have hmay : mayB (hadN lost kk) m sp kk = (!hadB lost kk k && decide (sp.use kk + 1 ≤ m)) := by
            unfold mayB
            have := hadB_iff (key := kk) (day := k) Hlo.out
            rw [hday]
            cases hh : hadB lost kk k
            · rw [hh] at this
              have h5 : ¬ (hadN lost kk ≠ -1 ∧ hadN lost kk ≤ (k : Int)) := fun h6 => by have := this.2 h6; cases this
              have h6 : (hadN lost kk != -1 && decide (hadN lost kk ≤ (k : Int))) = false := by
                cases h7 : (hadN lost kk != -1 && decide (hadN lost kk ≤ (k : Int)))
                · rfl
                · simp at h7; exact absurd h7 h5
              rw [h6]
              simp only [Bool.false_or, Bool.not_false, Bool.true_and]
              rw [Bool.eq_iff_iff]; simp; omega
            · have h5 := this.1 hh
              have h6 : (hadN lost kk != -1 && decide (hadN lost kk ≤ (k : Int))) = true := by simp; exact h5
              rw [h6]; rfl
          obtain ⟨u, hue⟩ : ∃ u, sp.use kk = u := ⟨_, rfl⟩
          have hset := sp.cells_set hk5
          rw [hue] at hcg hu hmay hset
          have hHR : r = ((!hadB lost kk k && decide (u + 1 ≤ m)) && rightB (fun j => hadN lost j) m ks.length (sp.bump kk) (l.drop (k + 1))) := by
            rw [← HR.out, Hst.out, h1, Int.toNat_natCast, Bool.true_and, hmay]
          have HHR := Lib.hid hHR
          have hsb := hsp.bump (by rw [hday]; omega) kk
          have hbd := bump_day sp kk
          rw [hday] at hbd
          have Hbd := Lib.hid hbd
          have Hset := Lib.hid hset
          clear h1 hmay hue HR Hst hHR hbd hset hday
          cases hh : hadB lost kk k
          · have HH := Lib.hid hh
            have hu1 : u + 1 ≤ 1001 := by omega
            clear hh
            have hgl := cR.lt
            have hki : (kk : Int) < 5 := by omega
            by_cases hm : u + 1 ≤ m
            · have dm : decide (m < u + 1) = false := by simp; omega
              have Hm := Lib.hid hm
              clear hm
              go_wp2_with fail
              (refine wp_region_ext 19 (by kernel_rfl) (by kernel_rfl) ?_; simp only [List.take_succ_cons, List.take_zero, List.drop_succ_cons, List.drop_zero]; (repeat (go_big_quiet_step ((first | (go_at_call 23; refine Calls_ext_same (in_eq kk 0 ((ks.length : Int) - 1) _ H1 _)) | (go_at_call 74; refine Calls_ext_same (hHad _ (Ext.below _) _ HH)))))); refine wpQuiet_nil ?_; rintro _ ⟨ex, rfl⟩; have hex := ex.below; have hexz := ex.size; (try simp at hexz); (try (have hy0 : w.heap.size < ex.to.heap.size := by omega)); (try (have hy1 : w.heap.size + 1 < ex.to.heap.size := by omega)); (try (have hy2 : w.heap.size + 2 < ex.to.heap.size := by omega)))
              have bE := ex.below
              obtain ⟨x2, hx2⟩ : ∃ z : World, z = ex.to := ⟨_, rfl⟩
              have hcg2 := below_cell bE hcg
              have c02 := below_cell bE c0
              have cR2 := cR.below bE
              have hfg2 := cR2.frozen kk
              have hgl2 := cR2.lt
              have hbl2 : b < ex.to.heap.size := by have := bE.size; omega
              rw [← hx2] at bE hcg2 c02 cR2 hfg2 hgl2 hbl2 ⊢
              clear hx2 hcg hfg c0 hex hexz hgl hbl
              have hb3 : Below g W0 (x2.setCell ⟨g, kk, none⟩ (.int .i64 (u + 1))) := (bR.trans (bE.mono (by have := bR.size; omega))).setCell (p := ⟨g, kk, none⟩) (Nat.le_refl _) _
              have cR3 := cR2.set kk (.int .i64 (u + 1))
              rw [Hset.out] at cR3
              go_wp2_with fail
              go_roundw
              case rel => exact ⟨k + 1, sp.bump kk, by omega, by go_num, hsb, by have := Hbd.out; simpa using this, cR3, Lib.hid (by rw [HHR.out, HH.out]; simp [Hm.out]), hb3⟩
              case measure => simp [intOf]; omega
            · have dm : decide (m < u + 1) = true := by simp; omega
              have Hf : Hid (r = false) := Lib.hid (by rw [HHR.out, HH.out]; simp [hm])
              clear hm
              go_wp2_with fail
              (refine wp_region_ext 19 (by kernel_rfl) (by kernel_rfl) ?_; simp only [List.take_succ_cons, List.take_zero, List.drop_succ_cons, List.drop_zero]; (repeat (go_big_quiet_step ((first | (go_at_call 23; refine Calls_ext_same (in_eq kk 0 ((ks.length : Int) - 1) _ H1 _)) | (go_at_call 74; refine Calls_ext_same (hHad _ (Ext.below _) _ HH)))))); refine wpQuiet_nil ?_; rintro _ ⟨ex, rfl⟩; have hex := ex.below; have hexz := ex.size; (try simp at hexz); (try (have hy0 : w.heap.size < ex.to.heap.size := by omega)); (try (have hy1 : w.heap.size + 1 < ex.to.heap.size := by omega)); (try (have hy2 : w.heap.size + 2 < ex.to.heap.size := by omega)))
              have bE := ex.below
              obtain ⟨x2, hx2⟩ : ∃ z : World, z = ex.to := ⟨_, rfl⟩
              have hcg2 := below_cell bE hcg
              have c02 := below_cell bE c0
              have cR2 := cR.below bE
              have hfg2 := cR2.frozen kk
              have hgl2 := cR2.lt
              have hbl2 : b < ex.to.heap.size := by have := bE.size; omega
              rw [← hx2] at bE hcg2 c02 cR2 hfg2 hgl2 hbl2 ⊢
              clear hx2 hcg hfg c0 hex hexz hgl hbl
              have hb3 : Below w.heap.size w (x2.setCell ⟨g, kk, none⟩ (.int .i64 (u + 1))) := (tR.trans (bE.mono tR.size)).setCell (p := ⟨g, kk, none⟩) (show w.heap.size ≤ g by omega) _
              go_wp2_with fail
              go_ret
              rw [Hf.out]
              exact ⟨rfl, hb3⟩
          · have HH := Lib.hid hh
            have Hf : Hid (r = false) := Lib.hid (by rw [HHR.out, hh]; rfl)
            clear hh
            go_wp2_with fail
            (refine wp_region_ext 19 (by kernel_rfl) (by kernel_rfl) ?_; simp only [List.take_succ_cons, List.take_zero, List.drop_succ_cons, List.drop_zero]; (repeat (go_big_quiet_step ((first | (go_at_call 23; refine Calls_ext_same (in_eq kk 0 ((ks.length : Int) - 1) _ H1 _)) | (go_at_call 74; refine Calls_ext_same (hHad _ (Ext.below _) _ HH)))))); refine wpQuiet_nil ?_; rintro _ ⟨ex, rfl⟩; have hex := ex.below; have hexz := ex.size; (try simp at hexz); (try (have hy0 : w.heap.size < ex.to.heap.size := by omega)); (try (have hy1 : w.heap.size + 1 < ex.to.heap.size := by omega)); (try (have hy2 : w.heap.size + 2 < ex.to.heap.size := by omega)))
            have bE := ex.below
            go_wp2_with fail
            go_ret
            rw [Hf.out]
            exact ⟨rfl, tR.trans (bE.mono tR.size)⟩
      · have hkl2 : k = l.length := by omega
        have Hf : Hid (r = true) := Lib.hid (by rw [← HR.out, List.drop_eq_nil_of_le (by omega)]; rfl)
        subst hkl2
        clear HR hday
        go_wp2_with fail
        go_ret
        rw [Hf.out]
        exact ⟨rfl, tR⟩
  · have hL : ((l.length : Int) != (ds.length : Int)) = true := by simp; omega
    have Hr : Hid (false = r) := Lib.hid (by rw [← Hr0.out]; simp [hlen])
    clear Hr0 hlen
    go_enter Try.func36, Try.ntmps36
    go_wp2
    go_ret
    rw [← Hr.out]
    exact ⟨rfl, by (repeat (first | exact Below.refl _ _ | refine Below.alloc ?_ (by first | omega | (simp; done) | (simp; omega)) _ | refine Below.drew ?_ | refine Below.setCell ?_ (by first | omega | (simp; done) | (simp; omega)) _ | refine Below.trans ?_ (Below.mono (by assumption) (by first | omega | (simp; done) | (simp; omega)))))⟩
end Go.Proofs.Ytmplgcefhpobgaa
