/- cipher: may, minimum, the memo -/
import Derived.Test.YtmplgcefhpobgaaCla
import Derived.Test.YtmplgcefhpobgaaClb
import Derived.Test.YtmplgcefhpobgaaClc
import Derived.Test.YtmplgcefhpobgaaCld
namespace Go.Proofs.Ytmplgcefhpobgaa
set_option linter.unusedVariables false
set_option linter.unusedSimpArgs false
set_option linter.unnecessarySimpa false
open Go.RowKit Go.Flow

theorem may_any (b0 : Nat) (al : Option Addr) (lost : List (Int × Int)) (cl : Nat) (m : Int) (s : Spot) (k : Nat) (hk : k < 5) (w : World) (hb0 : b0 < w.heap.size)
    (h4 : w.cell? ⟨b0, 4, none⟩ = some (.slice al lost.length cl)) (h5 : w.cell? ⟨b0, 5, none⟩ = some (.int .i64 m)) (hl : Recs2At w al lost) (ll : lost.length ≤ 1000) (hs : s.Fine) :
    Calls Try.prog 77 #[Value.pointer (some ⟨b0, 0, none⟩), s.val, .int .i64 k] w
      fun e w' => e = .returned (mayRes (hadN lost k) m s k) ∧ Below w.heap.size w w' := by
  obtain ⟨d, la, u0, u1, u2, u3, u4⟩ := s
  obtain ⟨d0, d1, _, _, n0, n1, n2, n3, n4⟩ := hs
  match k, hk with
  | 0, _ => exact may_0 b0 al lost cl m d la u0 u1 u2 u3 u4 w hb0 h4 h5 hl ll ⟨d0, d1⟩ n0
  | 1, _ => exact may_1 b0 al lost cl m d la u0 u1 u2 u3 u4 w hb0 h4 h5 hl ll ⟨d0, d1⟩ n1
  | 2, _ => exact may_2 b0 al lost cl m d la u0 u1 u2 u3 u4 w hb0 h4 h5 hl ll ⟨d0, d1⟩ n2
  | 3, _ => exact may_3 b0 al lost cl m d la u0 u1 u2 u3 u4 w hb0 h4 h5 hl ll ⟨d0, d1⟩ n3
  | 4, _ => exact may_4 b0 al lost cl m d la u0 u1 u2 u3 u4 w hb0 h4 h5 hl ll ⟨d0, d1⟩ n4

set_option maxHeartbeats 1000000 in
theorem min_two (a : Option Addr) (x y : Int) (c : Nat) (w : World) (h : IntsAt w a [x, y]) :
    Calls Try.prog 102 #[.slice a 2 c] w fun e w' => e = .returned (.int .i64 (min x y)) ∧ Below w.heap.size w w' := by
  obtain ⟨b, off, rfl, hb, h0⟩ := h 0 (by simp)
  obtain ⟨b', off', he, _, h1⟩ := h 1 (by simp)
  simp only [Option.some.injEq, Addr.mk.injEq] at he
  obtain ⟨rfl, rfl, _⟩ := he
  simp at h0 h1
  clear h
  go_enter Try.func102, Try.ntmps102
  go_wp2
  go_loopw [3, 4] (fun f i wr => ∃ k : Nat, 1 ≤ k ∧ k ≤ 2 ∧ i = .int .i64 k ∧ f = .int .i64 (if k = 1 then x else min x y) ∧ wr = w) (fun _ i _ => 2 - (intOf i).toNat)
  case atStart => exact ⟨1, by omega, by omega, rfl, rfl, rfl⟩
  case round =>
    obtain ⟨k, hk1, hk2, rfl, rfl, rfl⟩ := hrel
    by_cases hlt : k = 1
    · subst hlt
      by_cases hxy : y < x
      · have hm : min x y = y := Int.min_eq_right (by omega)
        go_wp2
        go_roundw
        case rel => exact ⟨2, by omega, by omega, by go_num, by simp [hm], by simp⟩
        case measure => simp [intOf]
      · have hm : min x y = x := Int.min_eq_left (by omega)
        have hxy2 : x ≤ y := by omega
        go_wp2
        go_roundw
        case rel => exact ⟨2, by omega, by omega, by go_num, by simp [hm], by simp⟩
        case measure => simp [intOf]
    · obtain rfl : k = 2 := by omega
      go_wp2
      go_ret
      exact ⟨rfl, Below.refl _ _⟩

theorem minimum_two (a : Option Addr) (x y : Int) (c : Nat) (w : World) (h : IntsAt w a [x, y]) :
    Calls Try.prog 93 #[.slice a 2 c] w fun e w' => e = .returned (.int .i64 (min x y)) ∧ Below w.heap.size w w' := by
  go_enter Try.func93, Try.ntmps93
  go_wp2_with (go_at_call 102; refine (min_two a x y c _ h).mono ?_; rintro e w1 ⟨rfl, hb1⟩; obtain ⟨hc1, hf1, hz1⟩ := bcell hb1; (try simp at hz1); (try (have hy0 : w.heap.size < w1.heap.size := by omega)); (try (have hy1 : w.heap.size + 1 < w1.heap.size := by omega)); (try (have hy2 : w.heap.size + 2 < w1.heap.size := by omega)))
  go_ret
  exact ⟨rfl, by (repeat (first | exact Below.refl _ _ | refine Below.alloc ?_ (by first | omega | (simp; done) | (simp; omega)) _ | refine Below.drew ?_ | refine Below.setCell ?_ (by first | omega | (simp; done) | (simp; omega)) _ | refine Below.trans ?_ (Below.mono (by assumption) (by first | omega | (simp; done) | (simp; omega)))))⟩

end Go.Proofs.Ytmplgcefhpobgaa
