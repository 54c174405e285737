/- flash: minimum -/
import Derived.Test.YtnofcpihkglmmaaFa
namespace Go.Proofs.Ytnofcpihkglmmaa
set_option linter.unusedVariables false
set_option linter.unusedSimpArgs false
set_option linter.unnecessarySimpa false
open Go.RowKit Go.Flow

theorem fret_n {k : IntKind} {a b : Int} (h : a = b) : Ending.returned (.int k a) = .returned (.int k b) := by rw [h]
def minFF (m : Int) (l : List Int) : Int := l.foldl min m
set_option maxHeartbeats 800000 in
theorem fmin_any (a : Option Addr) (x : Int) (xs : List Int) (c : Nat) (w : World) (hl : xs.length ≤ 1000) (hx : IntsAt w a (x :: xs)) :
    Calls Try.prog 97 #[.slice a (x :: xs).length c] w fun e w' => e = .returned (.int .i64 (minFF x xs)) ∧ w = w' := by
  obtain ⟨b0, o0, ha0, hb0, c0⟩ := hx 0 (by simp)
  subst ha0
  have c0' : w.cell? ⟨b0, o0, none⟩ = some (.int .i64 x) := by simpa using c0
  clear c0
  have hne : decide (((x :: xs).length : Int) < 1) = false := by simp; omega
  have hpos : 0 < (x :: xs).length := by simp
  obtain ⟨n, hn⟩ : ∃ n, (x :: xs).length = n := ⟨_, rfl⟩
  have hn1 : n = xs.length + 1 := by rw [← hn]; simp
  rw [hn] at hne hpos ⊢
  have Hn := Lib.hid hn1
  have hn2 : n ≤ 1001 := by omega
  clear hn1
  have Hn' := Lib.hid hn
  clear hn
  go_enter Try.func97, Try.ntmps97
  go_wp2
  go_loop [3, 4] (fun m i => ∃ k : Nat, k + 1 ≤ n ∧ i = .int .i64 (k + 1 : Nat) ∧ m = .int .i64 (minFF x (xs.take k))) (fun _ i => n - (intOf i).toNat)
  case atStart => exact ⟨0, by omega, rfl, rfl⟩
  case round =>
    obtain ⟨k, hk, rfl, rfl⟩ := hrel
    by_cases hlt : k + 1 < n
    · obtain ⟨b', o', e, _, c1⟩ := hx (k + 1) (by rw [Hn'.out]; exact hlt)
      obtain ⟨rfl, rfl⟩ : b0 = b' ∧ o0 = o' := by simpa using e
      have hkx : k < xs.length := by have := Hn.out; omega
      have c1' : w.cell? ⟨b0, o0 + (k + 1), none⟩ = some (.int .i64 xs[k]) := by rw [c1]; simp [hkx]
      clear c1 e
      have hs : minFF x (xs.take (k + 1)) = min (minFF x (xs.take k)) xs[k] := by
        unfold minFF
        rw [List.take_succ_eq_append_getElem hkx, List.foldl_append]
        rfl
      have Hs := Lib.hid hs
      clear hs
      obtain ⟨y, hy⟩ : ∃ y, xs[k] = y := ⟨_, rfl⟩
      rw [hy] at c1' Hs
      have Hy := Lib.hid hy
      clear hy
      obtain ⟨m, hm⟩ : ∃ m, minFF x (xs.take k) = m := ⟨_, rfl⟩
      rw [hm] at Hs ⊢
      clear hm
      go_wp2
      go_round
      case rel => exact ⟨k + 1, by omega, by go_num, by rw [Hs.out]; congr 1; split <;> omega⟩
      case measure => simp [intOf]; omega
    · obtain rfl : n = k + 1 := by omega
      go_wp2
      go_ret
      have : k = xs.length := by have := Hn.out; omega
      exact ⟨fret_n (by rw [this, List.take_length]), rfl⟩
set_option maxHeartbeats 800000 in
theorem minimum_any (a : Option Addr) (x y : Int) (c : Nat) (w : World) (hx : IntsAt w a [x, y]) :
    Calls Try.prog 91 #[.slice a 2 c] w fun e w' => e = .returned (.int .i64 (min x y)) ∧ w = w' := by
  have h : Calls Try.prog 97 #[.slice a 2 c] w fun e w' => e = .returned (.int .i64 (min x y)) ∧ w = w' := fmin_any a x [y] c w (by simp) hx
  go_enter Try.func91, Try.ntmps91
  go_wp2_with (go_at_call 97; (with_reducible refine h.mono ?_); rintro e w1 ⟨rfl, rfl⟩)
  go_ret
  exact ⟨rfl, rfl⟩
theorem fints_lit (w : World) (cs : Array Value) (T : TypeId) (xs : List Int) (h : cs.toList = xs.map (Value.int .i64)) : IntsAt (w.alloc (.cells cs T)) (some ⟨w.heap.size, 0, none⟩) xs := (Cells.new w cs T).ints xs h
end Go.Proofs.Ytnofcpihkglmmaa
