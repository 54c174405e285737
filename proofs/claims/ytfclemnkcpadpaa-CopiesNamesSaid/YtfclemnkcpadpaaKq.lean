/- copies: Surely -/
import Derived.Test.YtfclemnkcpadpaaKp
namespace Go.Proofs.Ytfclemnkcpadpaa
set_option linter.unusedVariables false
set_option linter.unusedSimpArgs false
set_option linter.unnecessarySimpa false
open Go.RowKit Go.Flow Go.Shelf

def sureB (p : Post) (i : Nat) : Bool := decide (latestF p i ≤ p.sends.getD i 0 + p.pat)
def sureF (p : Post) (k : Nat) : List Int := ((List.range k).filter (sureB p)).map (fun (n : Nat) => (n : Int))
theorem sureF_succ (p : Post) (k : Nat) : sureF p (k + 1) = sureF p k ++ if sureB p k = true then [(k : Int)] else [] := by
  unfold sureF
  rw [List.range_succ, List.filter_append, List.map_append]
  congr 1
  cases h : sureB p k <;> simp [h]
theorem sureF_len (p : Post) (k : Nat) : (sureF p k).length ≤ k := by
  unfold sureF
  rw [List.length_map]
  exact Nat.le_trans (List.length_filter_le _ _) (by simp)
def sureOut (p : Post) : List Int := if postErr p = 0 then sureF p p.sends.length else []

set_option maxRecDepth 100000 in
set_option maxHeartbeats 4000000 in
theorem Surely_any (a : Option Addr) (c : Nat) (ar : Option Addr) (cr : Nat) (p : Post) (w : World) (hs : IntsAt w a p.sends) (hr : RoutesAt w ar p.routes) (sm : PostSmall p) :
    Calls Try.prog 33 #[.agg #[.slice a p.sends.length c, .slice ar p.routes.length cr, .int .i64 p.pat]] w fun e w' => RetInts (postErr p) (sureOut p) e w' ∧ Below w.heap.size w w' := by
  have chk := fun W (b : Below w.heap.size w W) => checkPost_any a c ar cr p W (hs.below b) (hr.below b) sm
  have bd := postErr_bd p
  have C0 : Cells (w.alloc (.cells #[.slice a p.sends.length c, .slice ar p.routes.length cr, .int .i64 p.pat] 34)) w.heap.size #[.slice a p.sends.length c, .slice ar p.routes.length cr, .int .i64 p.pat] 34 := Cells.new _ _ _
  have t0 : Below w.heap.size w (w.alloc (.cells #[.slice a p.sends.length c, .slice ar p.routes.length cr, .int .i64 p.pat] 34)) := (Below.refl _ _).alloc (Nat.le_refl _) _
  by_cases h0 : postErr p = 0
  · have hO : sureOut p = sureF p p.sends.length := by unfold sureOut; rw [if_pos h0]
    rw [h0] at chk ⊢
    rw [hO]
    have wrk := fun W (b : Below w.heap.size w W) => work_any a c ar cr p W (hs.below b) (hr.below b) h0
    obtain ⟨n4, _⟩ := postErr_ok h0
    have H0 := Lib.hid h0
    clear h0 hO bd
    go_enter Try.func33, Try.ntmps33
    go_wp2_with fail
    go_at_call 20
    with_reducible refine (chk _ t0).mono ?_
    rintro e w1 ⟨rfl, hb1⟩
    have C1 := C0.below hb1
    have t1 : Below w.heap.size w w1 := t0.trans (hb1.mono t0.size)
    have k0 := C1.cell 0
    have k1 := C1.cell 1
    have k2 := C1.cell 2
    have lC := C1.lt
    simp at k0 k1 k2
    go_wp2_with fail
    go_at_call 70
    with_reducible refine (wrk _ t1).mono ?_
    rintro e w2 ⟨Bw, rfl, hBw, hW, hb2⟩
    have C2 := C1.below hb2
    have t2 : Below w.heap.size w w2 := t1.trans (hb2.mono t1.size)
    clear k0 k1 k2 lC C1 hb2 C0 chk wrk
    have k0 := C2.cell 0
    have lC := C2.lt
    simp at k0
    go_wp2
    clear k0 C2 lC
    go_loopw [6, 18] (fun v o wr => ∃ (k : Nat) (ao : Option Addr) (co : Nat), k ≤ p.sends.length ∧ o = .int .i64 k ∧ v = .slice ao (sureF p k).length co ∧ OwnL 3 1 w2.heap.size wr ao co (sureF p k).length ((sureF p k).map (Value.int .i64)) ∧ Below w2.heap.size w2 wr) (fun _ o _ => p.sends.length - (intOf o).toNat)
    case atStart => exact ⟨0, none, 0, Nat.zero_le _, rfl, rfl, OwnL.nil _ _ _ _, Below.refl _ _⟩
    case round =>
      obtain ⟨k, ao, co, hk, rfl, rfl, hown, hb⟩ := hrel
      by_cases hkl : k < p.sends.length
      · have hWr := hW.below hb
        have tr := t2.trans (hb.mono t2.size)
        have hWr2 := hWr
        obtain ⟨Bm, nm, cWr, _⟩ := hWr2
        have p0 := cWr.cell 0
        have p1 := cWr.cell 1
        have p2 := cWr.cell 2
        have lW := cWr.lt
        simp at p0 p1 p2
        have n4r := postErr_ok H0.out
        have hhs := post_hours H0.out
        have hne := post_ne H0.out hkl
        have hL : ∀ W, Below wr.heap.size wr W → _ := fun W b => latest_any a c ar cr p Bw k W (hWr.below b) (hr.below (tr.trans (b.mono tr.size))) n4r.2.1 hkl n4 hne
        have hD : ∀ W, Below wr.heap.size wr W → _ := fun W b => deadline_any a c ar p.routes.length cr p.sends p.pat k W ((hs.below tr).below b) hkl (by omega) (by have := hhs.s _ (List.getElem_mem hkl); omega) (by have := hhs.p; omega)
        have Hs := Lib.hid (sureF_succ p k)
        have Hg : Hid (p.sends.getD k 0 = p.sends[k]) := Lib.hid (by simp [hkl])
        obtain ⟨y, hy⟩ : ∃ y, latestF p k = y := ⟨_, rfl⟩
        obtain ⟨z, hz⟩ : ∃ z, p.sends[k] + p.pat = z := ⟨_, rfl⟩
        rw [hy] at hL
        rw [hz] at hD
        have Hb : Hid (sureB p k = decide (y ≤ z)) := Lib.hid (by unfold sureB; rw [Hg.out, hy, hz])
        have hln : (sureF p k).length ≤ k := sureF_len p k
        have lz := hb.size
        obtain ⟨L, hLe⟩ : ∃ L, sureF p k = L := ⟨_, rfl⟩
        rw [hLe] at Hs hown hln ⊢
        clear hy hz n4r hhs hne hLe Hg cWr
        by_cases hyz : y ≤ z
        all_goals
          go_wp2
          (refine wp_region_ext 10 (by kernel_rfl) (by kernel_rfl) ?_; simp only [List.take_succ_cons, List.take_zero, List.drop_succ_cons, List.drop_zero]; (repeat (go_big_quiet_step ((first | (go_at_call 76; refine Calls_ext (hD _ (Ext.below _))) | (go_at_call 74; refine Calls_ext (hL _ (Ext.below _))))))); refine wpQuiet_nil ?_; rintro _ ⟨ex, rfl⟩; have hex := ex.below; have hexz := ex.size; (try simp at hexz); (try (have hy0 : w.heap.size < ex.to.heap.size := by omega)); (try (have hy1 : w.heap.size + 1 < ex.to.heap.size := by omega)); (try (have hy2 : w.heap.size + 2 < ex.to.heap.size := by omega)))
          have own5 := hown.kept hex
        · go_wp2_with (at_builtin; refine wpList_app_lit elInt rfl _ _ rfl w2.heap.size ao L.length co _ rfl own5 1 1 rfl rfl (fun u hu => by simp at hu; subst hu; rfl) (by unfold maxLen; omega) (by omega) (by omega) ?_; intro a6 c6 w6 hown6 hb6)
          go_roundw
          case rel => exact ⟨k + 1, a6, c6, by omega, by go_num, by rw [Hs.out, Hb.out, if_pos (by simpa using hyz)]; simp, by rw [Hs.out, Hb.out, if_pos (by simpa using hyz)]; simpa using hown6, (hb.trans (hex.mono lz)).trans hb6⟩
          case measure => simp [intOf]; omega
        · go_wp2
          go_roundw
          case rel => exact ⟨k + 1, ao, co, by omega, by go_num, by rw [Hs.out, Hb.out, if_neg (by simpa using hyz)]; simp, by rw [Hs.out, Hb.out, if_neg (by simpa using hyz)]; simpa using own5, hb.trans (hex.mono lz)⟩
          case measure => simp [intOf]; omega
      · obtain rfl : k = p.sends.length := by omega
        go_wp2
        go_ret2
        exact ⟨⟨ao, co, rfl, hown.ints.1⟩, t2.trans (hb.mono t2.size)⟩
  · have hO : sureOut p = [] := by unfold sureOut; rw [if_neg h0]
    rw [hO]
    obtain ⟨E, hEe⟩ : ∃ E, postErr p = E := ⟨_, rfl⟩
    rw [hEe] at chk bd h0 ⊢
    have hne : (E != 0) = true := by simpa using h0
    clear h0 hO hEe
    go_enter Try.func33, Try.ntmps33
    go_wp2_with fail
    go_at_call 20
    with_reducible refine (chk _ t0).mono ?_
    rintro e w1 ⟨rfl, hb1⟩
    have t1 : Below w.heap.size w w1 := t0.trans (hb1.mono t0.size)
    go_wp2_with fail
    go_ret2
    exact ⟨⟨none, 0, rfl, IntsAt.nil _ _⟩, t1⟩
end Go.Proofs.Ytfclemnkcpadpaa
