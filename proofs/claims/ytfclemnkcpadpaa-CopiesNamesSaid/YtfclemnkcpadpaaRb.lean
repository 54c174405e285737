/- copies: the reference's Comes -/
import Derived.Test.YtfclemnkcpadpaaRa
namespace Go.Proofs.Ytfclemnkcpadpaa
set_option linter.unusedVariables false
set_option linter.unusedSimpArgs false
set_option linter.unnecessarySimpa false
open Go.RowKit Go.Flow

set_option maxHeartbeats 1500000 in
theorem refComes_any (al : Option Addr) (ca : Nat) (r : Route) (s : Int) (at_ : Option Addr) (ts : List Int) (ct : Nat) (w : World) (hr : LegsAt w al r.legs) (ht : IntsAt w at_ ts) (hlt : ts.length = r.legs.length) (ln : r.legs.length ≤ 3) (hok : r.legs.all legOk = true) (sm : ∀ l ∈ r.legs, l.asl.length ≤ 1000) (s0 : 0 ≤ s) (s1 : s ≤ 100) (tb : ∀ t ∈ ts, 0 ≤ t ∧ t ≤ 100) :
    Calls Try.prog 67 #[.agg #[.slice al r.legs.length ca, .bool r.lossy], .int .i64 s, .slice at_ ts.length ct] w fun e w' => e = .returned (.int .i64 (comesF r.legs ts s)) ∧ Below w.heap.size w w' := by
  have Hok := Lib.hid hok
  clear hok
  have Hlt := Lib.hid hlt
  clear hlt
  have hlt2 : ts.length ≤ r.legs.length ∧ r.legs.length ≤ ts.length := by have := Hlt.out; omega
  have wb : ∀ o, Below w.heap.size w (w.alloc o) := fun o => (Below.refl _ _).alloc (Nat.le_refl _) _
  have cB : (w.alloc (.cells #[.slice al r.legs.length ca, .bool r.lossy] 54)).cell? ⟨w.heap.size, 0, none⟩ = some (.slice al r.legs.length ca) := by rw [World.cell?_alloc_at _ _ _ _ rfl]; rfl
  go_enter Try.func67, Try.ntmps67
  go_wp2
  go_loopw [1, 7] (fun x i wr => ∃ (k : Nat) (g : Int), k ≤ r.legs.length ∧ i = .int .i64 k ∧ x = .int .i64 g ∧ 0 ≤ g ∧ g ≤ 131 + 100 * k ∧ comesF r.legs ts s = comesF (r.legs.drop k) (ts.drop k) g ∧ Below w.heap.size w wr ∧ wr.cell? ⟨w.heap.size, 0, none⟩ = some (.slice al r.legs.length ca)) (fun _ i _ => r.legs.length - (intOf i).toNat)
  case atStart => exact ⟨0, s, Nat.zero_le _, rfl, rfl, s0, by omega, rfl, wb _, cB⟩
  case round =>
    obtain ⟨k, g, hk, rfl, rfl, g0, g1, hcf, hb, cg⟩ := hrel
    have Hcf := Lib.hid hcf
    clear hcf cB wb
    have lg := cell_ltK cg
    by_cases hkl : k < r.legs.length
    · obtain ⟨b, off, ar, ca2, rfl, hbl, c0, c1, c2, hR⟩ := (hr.below hb) k hkl
      obtain ⟨b', off', rfl, hbl', ct0⟩ := (ht.below hb) k (by omega)
      have Hst := Lib.hid (comesF_step r.legs ts g k hkl (by omega))
      have hlk : legOk r.legs[k] = true := List.all_eq_true.1 Hok.out _ (List.getElem_mem hkl)
      have hta := tb ts[k] (List.getElem_mem (by omega))
      have hsm := sm r.legs[k] (List.getElem_mem hkl)
      have ct0' : wr.cell? ⟨b', off' + k, none⟩ = some (.int .i64 ts[k]) := ct0.trans (by simp [show k < ts.length by omega])
      clear ct0
      obtain ⟨l, hl⟩ : ∃ l, r.legs[k] = l := ⟨_, rfl⟩
      obtain ⟨t, htk⟩ : ∃ t, ts[k] = t := ⟨_, rfl⟩
      rw [hl] at Hst hlk hsm c0 c1 c2 hR
      rw [htk] at Hst hta ct0'
      clear hl htk
      have has : l.asl.all (fun r => uptoB r 30) = true := by simp only [legOk, Bool.and_eq_true] at hlk; exact hlk.2
      have hab := awk_bd l (g + t)
      have Has := Lib.hid has
      clear hlk has
      have hw1 : IntKind.i64.wrap (g + t) = g + t := IntWalk.i64_in _ (by omega)
      have hkI : (k : Int) < (ts.length : Int) := by omega
      have hkJ : (k : Int) < (r.legs.length : Int) := by omega
      have haw : ∀ W, Below wr.heap.size wr W → Calls Try.prog 72 #[.agg #[.int .i64 l.lo, .int .i64 l.hi, .slice ar l.asl.length ca2], .int .i64 (g + t)] W fun e w' => e = .returned (.int .i64 (awk l (g + t))) ∧ Below W.heap.size W w' :=
        fun W b => refAwake_any ar ca2 l (g + t) W (hR.below b) hsm Has.out (by omega) (by omega)
      obtain ⟨q, hq⟩ : ∃ q, awk l (g + t) = q := ⟨_, rfl⟩
      rw [hq] at Hst haw hab
      clear hq hR hsm
      go_wp2
      (refine wp_region_ext 12 (by kernel_rfl) (by kernel_rfl) ?_; simp only [List.take_succ_cons, List.take_zero, List.drop_succ_cons, List.drop_zero]; (repeat (go_big_quiet_step (((go_at_call 72; refine Calls_ext (haw _ (Ext.below _))))))); refine wpQuiet_nil ?_; rintro _ ⟨ex, rfl⟩; have hex := ex.below; have hexz := ex.size; (try simp at hexz); (try (have hy0 : w.heap.size < ex.to.heap.size := by omega)); (try (have hy1 : w.heap.size + 1 < ex.to.heap.size := by omega)); (try (have hy2 : w.heap.size + 2 < ex.to.heap.size := by omega)))
      have cg2 := below_cell hex cg
      go_wp2
      go_roundw
      case rel => exact ⟨k + 1, q, by omega, by go_num, rfl, by omega, by omega, by rw [Hcf.out, Hst.out], hb.trans (hex.mono hb.size), cg2⟩
      case measure => simp [intOf]; omega
    · obtain rfl : k = r.legs.length := by omega
      go_wp2
      go_ret
      exact ⟨ret_n (by rw [Hcf.out, List.drop_eq_nil_of_le (Nat.le_refl _)]; simp [comesF]), hb⟩
end Go.Proofs.Ytfclemnkcpadpaa
