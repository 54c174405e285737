/- copies: the reference's Play -/
import Derived.Test.YtfclemnkcpadpaaRg
namespace Go.Proofs.Ytfclemnkcpadpaa
set_option linter.unusedVariables false
set_option linter.unusedSimpArgs false
set_option linter.unnecessarySimpa false
open Go.RowKit Go.Flow

theorem info_rentry : (Try.prog.info? 93).map (fun i => (i.zero, i.size, i.bytes)) = some (some (.agg #[.int .i64 0, .int .i64 0, .bool false]), 3, 24) := by kernel_rfl
theorem el_rentries : Elem Try.prog 43 93 (.agg #[.int .i64 0, .int .i64 0, .bool false]) 3 24 := ⟨Try.underlying43, info_parts info_rentry, rfl, by decide⟩
theorem hourGo_nil {s g : Int} {l : List (List Int)} {rs : List Route} (h : l.length ≤ 0 ∨ rs.length ≤ 0) : hourGo s g l rs = g := by
  cases l with
  | nil => rfl
  | cons a l => cases rs with
    | nil => rfl
    | cons b rs => simp at h
set_option maxRecDepth 100000 in
set_option maxHeartbeats 8000000 in
theorem refPlay_any (a : Option Addr) (c : Nat) (ar : Option Addr) (cr : Nat) (p : Post) (at_ : Option Addr) (ct : Nat) (t : List (List (List Int))) (w : World) (hs : IntsAt w a p.sends) (hr : RoutesAt w ar p.routes) (ht : TruthAt w at_ t) (ok : PlayOk p t) :
    Calls Try.prog 27 #[.agg #[.slice a p.sends.length c, .slice ar p.routes.length cr, .int .i64 p.pat], .slice at_ t.length ct] w fun e w' => (∃ ao co, e = .returned (.slice ao t.length co) ∧ EntsAt w' ao (playF p t)) ∧ Below w.heap.size w w' := by
  have Hn := Lib.hid ok.n
  have n4 := ok.n4
  have r3 := ok.r3
  have n5 : t.length ≤ 4 ∧ t.length ≤ p.sends.length := by have := Hn.out; omega
  obtain ⟨W1, hW1⟩ : ∃ z : World, z = w.alloc (.cells #[.slice a p.sends.length c, .slice ar p.routes.length cr, .int .i64 p.pat] 25) := ⟨_, rfl⟩
  have C0 : Cells W1 w.heap.size #[.slice a p.sends.length c, .slice ar p.routes.length cr, .int .i64 p.pat] 25 := by rw [hW1]; exact Cells.new _ _ _
  have t0 : Below w.heap.size w W1 := by rw [hW1]; exact (Below.refl _ _).alloc (Nat.le_refl _) _
  have HS := Lib.hid (hs.below t0)
  have HR := Lib.hid (hr.below t0)
  have HT := Lib.hid (ht.below t0)
  have HO := Lib.hid ok
  clear hs hr ht ok
  go_enter Try.func27, Try.ntmps27
  go_wp2
  rw [← hW1]
  clear hW1
  go_loopw [5, 6, 7] (fun o b i wr => ∃ (k : Nat) (bf : Int) (ao : Option Addr) (co : Nat), k ≤ t.length ∧ i = .int .i64 k ∧ b = .int .i64 bf ∧ o = .slice ao k co ∧ OwnL 93 3 W1.heap.size wr ao co k (flatE ((playF p t).take k)) ∧ (playF p t).drop k = playGo p k bf (t.drop k) ∧ Below W1.heap.size W1 wr) (fun _ _ i _ => t.length - (intOf i).toNat)
  case atStart => exact ⟨0, 0, none, 0, Nat.zero_le _, rfl, rfl, rfl, OwnL.nil _ _ _ _, rfl, Below.refl _ _⟩
  case round =>
    obtain ⟨k, bf, ao, co, hk, rfl, rfl, rfl, hown, hpl, hb⟩ := hrel
    have Hpl := Lib.hid hpl
    clear hpl
    by_cases hkl : k < t.length
    · obtain ⟨b, off, a2, c2, rfl, hbl, c0, hL, _⟩ := (HT.out.below hb) k hkl
      have Hlk := Lib.hid (HO.out.len t[k] (List.getElem_mem hkl))
      have rows := HO.out.rows t[k] (List.getElem_mem hkl)
      have Hdrop : Hid (t.drop k = t[k] :: t.drop (k + 1)) := Lib.hid (List.drop_eq_getElem_cons hkl)
      obtain ⟨l, hle⟩ : ∃ l, t[k] = l := ⟨_, rfl⟩
      rw [hle] at c0 hL Hlk Hdrop
      have rows' : Hid (∀ (j : Nat) (h1 : j < l.length) (h2 : j < p.routes.length), RowOk p.routes[j] l[j]) := Lib.hid (by rw [← hle]; exact rows)
      clear hle rows
      have ll : l.length ≤ p.routes.length ∧ p.routes.length ≤ l.length := by have := Hlk.out; omega
      have hks : k < p.sends.length := by omega
      obtain ⟨bs, offs, rfl, hbs, s0⟩ := (HS.out.below hb) k hks
      have s0' : wr.cell? ⟨bs, offs + k, none⟩ = some (.int .i64 p.sends[k]) := s0.trans (by simp [hks])
      have sb := HO.out.hours.s _ (List.getElem_mem hks)
      have hp := HO.out.hours.p
      have Hsg : Hid (p.sends.getD k 0 = p.sends[k]) := Lib.hid (by simp [hks])
      obtain ⟨s, hse⟩ : ∃ s, p.sends[k] = s := ⟨_, rfl⟩
      have Hse := Lib.hid hse
      rw [hse] at s0' sb Hsg
      clear s0 hse
      have Cr := C0.below hb
      have k0 := Cr.cell 0
      have k1 := Cr.cell 1
      have k2 := Cr.cell 2
      have lC := Cr.lt
      simp at k0 k1 k2
      have hkI : (k : Int) < (t.length : Int) := by omega
      have hkJ : (k : Int) < (p.sends.length : Int) := by omega
      go_wp2
      obtain ⟨wo, hwo⟩ : ∃ z : World, z = wr := ⟨_, rfl⟩
      subst hwo
      go_loopw [8, 9] (fun h i wq => ∃ (j : Nat) (g : Int), j ≤ p.routes.length ∧ i = .int .i64 j ∧ h = .int .i64 g ∧ g ≤ 101 ∧ hourGo s 101 (l.drop 0) (p.routes.drop 0) = hourGo s g (l.drop j) (p.routes.drop j) ∧ Below wo.heap.size wo wq) (fun _ i _ => p.routes.length - (intOf i).toNat)
      case atStart => exact ⟨0, 101, Nat.zero_le _, rfl, rfl, by omega, rfl, Below.refl _ _⟩
      case round =>
        obtain ⟨j, g, hj, rfl, rfl, hg, hm, hb2⟩ := hrel
        have Hm := Lib.hid hm
        clear hm
        have q0 := below_cell hb2 k0
        have q1 := below_cell hb2 k1
        have q2 := below_cell hb2 k2
        have lq := cell_ltK q0
        have d0k := below_cell hb2 c0
        have ld0 := cell_ltK d0k
        have s1 := below_cell hb2 s0'
        have ls1 := cell_ltK s1
        by_cases hjr : j < p.routes.length
        · have hjl : j < l.length := by omega
          obtain ⟨b3, off3, a3, c3, rfl, hbl3, d0, dI, dn⟩ := (hL.below hb2) j hjl
          obtain ⟨b4, off4, al, ca, rfl, hbl4, e0, e1, eL⟩ := ((HR.out.below hb).below hb2) j hjr
          have ro := rows'.out j hjl hjr
          have lo := HO.out.legs p.routes[j] (List.getElem_mem hjr)
          have Hst := Lib.hid (hourGo_step (s := s) (h := g) hjl hjr)
          obtain ⟨ts, hts⟩ : ∃ x, l[j] = x := ⟨_, rfl⟩
          obtain ⟨r, hrr⟩ : ∃ x, p.routes[j] = x := ⟨_, rfl⟩
          rw [hts] at d0 dI Hst ro
          rw [hrr] at e0 e1 eL Hst ro lo
          clear hts hrr
          have hjI : (j : Int) < (l.length : Int) := by omega
          have hjJ : (j : Int) < (p.routes.length : Int) := by omega
          by_cases h0 : 0 < ts.length
          · have h0N : 0 < (ts.length : Int) := by omega
            have hne : ts ≠ [] := by intro e; rw [e] at h0; simp at h0
            have hcm : ∀ W, Below wr.heap.size wr W → Calls Try.prog 67 #[.agg #[.slice al r.legs.length ca, .bool r.lossy], .int .i64 s, .slice a3 ts.length c3] W fun e w' => e = .returned (.int .i64 (comeR r s ts)) ∧ Below W.heap.size W w' := fun W b => by
              have := refComes_any al ca r s a3 ts c3 W (eL.below b) (dI.below b) (ro.len hne) lo.1 lo.2.1 lo.2.2 (by omega) (by omega) ro.bd
              unfold comeR; rw [if_neg hne]; exact this
            obtain ⟨x, hx⟩ : ∃ x, comeR r s ts = x := ⟨_, rfl⟩
            rw [hx] at hcm Hst
            clear hx ro lo dI eL hne
            go_wp2
            (refine wp_region_ext 19 (by kernel_rfl) (by kernel_rfl) ?_; simp only [List.take_succ_cons, List.take_zero, List.drop_succ_cons, List.drop_zero]; (repeat (go_big_quiet_step (((go_at_call 67; refine Calls_ext (hcm _ (Ext.below _))))))); refine wpQuiet_nil ?_; rintro _ ⟨ex, rfl⟩; have hex := ex.below; have hexz := ex.size; (try simp at hexz); (try (have hy0 : w.heap.size < ex.to.heap.size := by omega)); (try (have hy1 : w.heap.size + 1 < ex.to.heap.size := by omega)); (try (have hy2 : w.heap.size + 2 < ex.to.heap.size := by omega)))
            go_wp2
            all_goals
              go_roundw
              case rel => exact ⟨j + 1, min g x, by omega, by go_num, int_eq (by omega), by omega, by rw [Hm.out, Hst.out], hb2.trans (hex.mono hb2.size)⟩
              case measure => simp [intOf]; omega
          · have h0' : ts = [] := List.eq_nil_of_length_eq_zero (by omega)
            have hx : comeR r s ts = 101 := by rw [h0']; rfl
            have Hst2 := Lib.hid (show hourGo s g (l.drop j) (p.routes.drop j) = hourGo s g (l.drop (j + 1)) (p.routes.drop (j + 1)) by rw [Hst.out, hx, show min g 101 = g by omega])
            have h0N : ¬ 0 < (ts.length : Int) := by omega
            clear h0' hx ro lo Hst
            go_wp2
            go_roundw
            case rel => exact ⟨j + 1, g, by omega, by go_num, rfl, hg, by rw [Hm.out, Hst2.out], hb2⟩
            case measure => simp [intOf]; omega
        · obtain rfl : j = p.routes.length := by omega
          have hm2 := Hm.out
          rw [hourGo_nil (l := l.drop p.routes.length) (rs := p.routes.drop p.routes.length) (.inr (by simp))] at hm2
          have Hm2 := Lib.hid (show hourGo s 101 l p.routes = g from hm2)
          clear hm2
          have hbb := hb.trans (hb2.mono hb.size)
          have own2 := hown.kept hb2
          have hfi := fun W (b : Below wr.heap.size wr W) => refFinish_any (some ⟨bs, offs, none⟩) c ar cr p k bf g W ((HS.out.below hbb).below b) hks (by omega) (by rw [Hse.out]; omega) (by omega)
          have He : Hid (recvF p k bf (hourGo (p.sends.getD k 0) 101 l p.routes) = recvF p k bf g) := Lib.hid (by rw [Hsg.out, Hm2.out])
          obtain ⟨en, hen⟩ : ∃ e, recvF p k bf g = e := ⟨_, rfl⟩
          have Hen : Hid (recvF p k bf g = en) := Lib.hid hen
          have hnum : en.num = k := by rw [← hen]; rfl
          rw [hen] at hfi
          clear hen
          obtain ⟨x, hx⟩ : ∃ x, en.at_ = x := ⟨_, rfl⟩
          obtain ⟨y, hy⟩ : ∃ y, en.skip = y := ⟨_, rfl⟩
          rw [hx, hy] at hfi
          have Hxy : Hid (en = ⟨k, x, y⟩) := Lib.hid (by rw [← hnum, ← hx, ← hy])
          clear hx hy hnum
          have lz := hb.size
          have lz2 := hb2.size
          go_wp2_with fail
          go_at_call 68
          with_reducible refine (hfi _ (Below.refl _ _)).mono ?_
          rintro e w6 ⟨rfl, hb6⟩
          have own6 := own2.kept hb6
          have lz6 := hb6.size
          have hcons : (playF p t).drop k = ⟨k, x, y⟩ :: playGo p (k + 1) x (t.drop (k + 1)) := by
            rw [Hpl.out, Hdrop.out]
            simp only [playGo]
            rw [He.out, Hen.out, Hxy.out]
          have Hdc := Lib.hid (drop_cons hcons)
          clear hcons
          go_wp2_with (at_builtin; refine wpList_app_lit el_rentries rfl _ _ rfl W1.heap.size ao k co _ rfl own6 1 1 rfl rfl (fun u hu => by simp at hu; rcases hu with rfl | rfl | rfl <;> rfl) (by unfold maxLen; omega) (by omega) (by omega) ?_; intro a6 c6 w7 hown7 hb7)
          go_roundw
          case rel => exact ⟨k + 1, x, a6, c6, by omega, by go_num, rfl, rfl, by rw [Hdc.out.2, flatE_snoc]; exact hown7, Hdc.out.1, (hbb.trans (hb6.mono (by omega))).trans hb7⟩
          case measure => simp [intOf]; omega
    · obtain rfl : k = t.length := by omega
      go_wp2
      go_ret
      refine ⟨⟨ao, co, rfl, ?_⟩, t0.trans (hb.mono t0.size)⟩
      rw [List.take_of_length_le (by unfold playF; rw [playGo_len]; exact Nat.le_refl _)] at hown
      exact hown.ents
end Go.Proofs.Ytfclemnkcpadpaa
