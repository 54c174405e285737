/- copies: the reference's small functions -/
import Derived.Test.YtfclemnkcpadpaaKd
namespace Go.Proofs.Ytfclemnkcpadpaa
set_option linter.unusedVariables false
set_option linter.unusedSimpArgs false
set_option linter.unnecessarySimpa false
open Go.RowKit Go.Flow

set_option maxHeartbeats 400000 in
theorem refIn_any (n lo hi : Int) (w : World) :
    Calls Try.prog 29 #[.int .i64 n, .int .i64 lo, .int .i64 hi] w fun e w' => e = .returned (.bool (inR n (lo, hi))) ∧ w = w' := by
  cases h0 : decide (lo ≤ n)
  · go_enter Try.func29, Try.ntmps29
    go_wp2
    go_ret
    exact ⟨ret_b (by simp only [inR, h0, Bool.false_and]), rfl⟩
  · go_enter Try.func29, Try.ntmps29
    go_wp2
    go_ret
    exact ⟨ret_b (by simp only [inR, h0, Bool.true_and]), rfl⟩
set_option maxHeartbeats 400000 in
theorem refSpan_any (x y n : Int) (w : World) :
    Calls Try.prog 99 #[.agg #[.int .i64 x, .int .i64 y], .int .i64 n] w fun e w' => e = .returned (.bool (uptoB (x, y) n)) ∧ Below w.heap.size w w' := by
  cases h0 : inR x (0, y)
  · have hi := fun W => refIn_any x 0 y W
    rw [h0] at hi
    go_enter Try.func99, Try.ntmps99
    go_wp2_with (go_at_call 29; (with_reducible refine (hi _).mono ?_); rintro e w1 ⟨rfl, rfl⟩)
    go_ret
    exact ⟨ret_b (by unfold uptoB; rw [show (decide (0 ≤ x) && decide (x ≤ y)) = false from h0, Bool.false_and]), by (repeat (first | exact Below.refl _ _ | refine Below.alloc ?_ (by first | omega | (simp; done) | (simp; omega)) _ | refine Below.drew ?_ | refine Below.setCell ?_ (by first | omega | (simp; done) | (simp; omega)) _ | refine Below.trans ?_ (Below.mono (by assumption) (by first | omega | (simp; done) | (simp; omega)))))⟩
  · have hi := fun W => refIn_any x 0 y W
    rw [h0] at hi
    go_enter Try.func99, Try.ntmps99
    go_wp2_with (go_at_call 29; (with_reducible refine (hi _).mono ?_); rintro e w1 ⟨rfl, rfl⟩)
    go_ret
    exact ⟨ret_b (by unfold uptoB; rw [show (decide (0 ≤ x) && decide (x ≤ y)) = true from h0, Bool.true_and]), by (repeat (first | exact Below.refl _ _ | refine Below.alloc ?_ (by first | omega | (simp; done) | (simp; omega)) _ | refine Below.drew ?_ | refine Below.setCell ?_ (by first | omega | (simp; done) | (simp; omega)) _ | refine Below.trans ?_ (Below.mono (by assumption) (by first | omega | (simp; done) | (simp; omega)))))⟩

theorem any_take_succ {l : List (Int × Int)} {f : Int × Int → Bool} {k : Nat} (h : k < l.length) : (l.take (k + 1)).any f = ((l.take k).any f || f l[k]) := by
  rw [List.take_succ_eq_append_getElem h, List.any_append]; simp
set_option maxHeartbeats 4000000 in
theorem refAwake_any (ar : Option Addr) (ca : Nat) (l : Leg) (h : Int) (w : World) (hr : Recs2At w ar l.asl) (hn : l.asl.length ≤ 1000) (ha : l.asl.all (fun r => uptoB r 30) = true) (h0 : 0 ≤ h) (h1 : h ≤ 1000) :
    Calls Try.prog 72 #[.agg #[.int .i64 l.lo, .int .i64 l.hi, .slice ar l.asl.length ca], .int .i64 h] w fun e w' => e = .returned (.int .i64 (awk l h)) ∧ Below w.heap.size w w' := by
  have Ha := Lib.hid ha
  clear ha
  have wb : ∀ o, Below w.heap.size w (w.alloc o) := fun o => (Below.refl _ _).alloc (Nat.le_refl _) _
  have c2 : (w.alloc (.cells #[.int .i64 l.lo, .int .i64 l.hi, .slice ar l.asl.length ca] 86)).cell? ⟨w.heap.size, 2, none⟩ = some (.slice ar l.asl.length ca) := by rw [World.cell?_alloc_at _ _ _ _ rfl]; rfl
  go_enter Try.func72, Try.ntmps72
  go_wp2
  go_loopw [5] (fun x wr => ∃ g : Int, h ≤ g ∧ g ≤ 1000 ∧ x = .int .i64 g ∧ awk l h = awk l g ∧ Below w.heap.size w wr ∧ wr.cell? ⟨w.heap.size, 2, none⟩ = some (.slice ar l.asl.length ca)) (fun x _ => (31 - intOf x).toNat)
  case atStart => exact ⟨h, by omega, h1, rfl, rfl, wb _, c2⟩
  case round =>
    obtain ⟨g, hg0, hg1, rfl, hag, hb, cg⟩ := hrel
    have Hag := Lib.hid hag
    clear hag c2 wb
    have lg := cell_ltK cg
    go_wp2
    obtain ⟨wo, hwo⟩ : ∃ z : World, z = wr := ⟨_, rfl⟩
    subst hwo
    go_loopw [6, 7] (fun q i wr => ∃ k : Nat, k ≤ l.asl.length ∧ i = .int .i64 k ∧ q = .bool ((l.asl.take k).any (inR g)) ∧ Below wo.heap.size wo wr) (fun _ i _ => l.asl.length - (intOf i).toNat)
    case atStart => exact ⟨0, Nat.zero_le _, rfl, rfl, Below.refl _ _⟩
    case round =>
      obtain ⟨k, hk, rfl, rfl, hb2⟩ := hrel
      have cg2 := below_cell hb2 cg
      have lg2 := cell_ltK cg2
      by_cases hkl : k < l.asl.length
      · obtain ⟨b, off, rfl, hbl, e0, e1⟩ := ((hr.below hb).below hb2) k hkl
        have Hs := Lib.hid (any_take_succ (f := inR g) hkl)
        obtain ⟨⟨x, y⟩, hxy⟩ : ∃ x, l.asl[k] = x := ⟨_, rfl⟩
        rw [hxy] at e0 e1 Hs
        clear hxy
        have hkI : (k : Int) < (l.asl.length : Int) := by omega
        cases hq : (l.asl.take k).any (inR g)
        all_goals
          rw [hq] at Hs
          clear hq
          go_wp2
          (refine wp_region_ext 17 (by kernel_rfl) (by kernel_rfl) ?_; simp only [List.take_succ_cons, List.take_zero, List.drop_succ_cons, List.drop_zero]; (repeat (go_big_quiet_step (((go_at_call 29; refine Calls_ext_same (refIn_any g x y _)))))); refine wpQuiet_nil ?_; rintro _ ⟨ex, rfl⟩; have hex := ex.below; have hexz := ex.size; (try simp at hexz); (try (have hy0 : w.heap.size < ex.to.heap.size := by omega)); (try (have hy1 : w.heap.size + 1 < ex.to.heap.size := by omega)); (try (have hy2 : w.heap.size + 2 < ex.to.heap.size := by omega)))
          go_wp2
          go_roundw
          case rel => exact ⟨k + 1, by omega, by go_num, by rw [Hs.out]; rfl, hb2.trans (hex.mono hb2.size)⟩
          case measure => simp [intOf]; omega
      · obtain rfl : k = l.asl.length := by omega
        have hbb := hb.trans (hb2.mono hb.size)
        rw [List.take_length]
        cases hA : l.asl.any (inR g)
        · have Hu := Lib.hid (awk_up (l := l) (h := g) hA)
          clear hA
          go_wp2
          go_ret
          exact ⟨ret_n (by rw [Hag.out, Hu.out]), hbb⟩
        · have hle := asleep_le (l := l) Ha.out hA
          have Hu := Lib.hid (awk_sleep (l := l) Ha.out hA)
          clear hA
          go_wp2
          go_roundw
          case rel => exact ⟨g + 1, by omega, by omega, by go_num, by rw [Hag.out, Hu.out], hbb, cg2⟩
          case measure => simp [intOf]; omega
end Go.Proofs.Ytfclemnkcpadpaa
