/- cipher: prime -/
import Derived.Test.YtmplgcefhpobgaaCa
namespace Go.Proofs.Ytmplgcefhpobgaa
set_option linter.unusedVariables false
set_option linter.unusedSimpArgs false
set_option linter.unnecessarySimpa false
open Go.RowKit Go.Flow

/-- no divisor from 2 to k-1 -/
def primeTo (n k : Nat) : Bool := (List.range k).all fun d => !(decide (1 < d) && decide (n % d = 0))
theorem primeTo_succ (n k : Nat) : primeTo n (k + 1) = (primeTo n k && !(decide (1 < k) && decide (n % k = 0))) := by
  simp [primeTo, List.range_succ]
theorem primeTo_false (n k m : Nat) (h : k < m) (h1 : 1 < k) (h2 : n % k = 0) : primeTo n m = false := by
  have : ¬ (primeTo n m = true) := by
    intro hp
    simp only [primeTo, List.all_eq_true, List.mem_range] at hp
    have := hp k h
    simp [h1, h2] at this
  simpa using this

set_option maxHeartbeats 400000 in
theorem prime_any (n : Nat) (w : World) (h : n ≤ 1000) :
    Calls Try.prog 52 #[.int .i64 n] w fun e w' => e = .returned (.bool (primeTo n n)) ∧ w = w' := by
  go_enter Try.func52, Try.ntmps52
  go_wp2; go_step3
  go_wp2; go_step3
  go_wp2
  go_loop [2, 3, 5] (fun t _ i => ∃ k : Nat, k ≤ n ∧ i = .int .i64 k ∧ t = .bool true ∧ primeTo n k = true) (fun _ _ i => n - (intOf i).toNat)
  case atStart => exact ⟨0, Nat.zero_le _, rfl, rfl, rfl⟩
  case round =>
    obtain ⟨k, hk, rfl, rfl, hp⟩ := hrel
    have Hp := Lib.hid hp
    clear hp
    go_wp2
    · have h1 : (1 : Int) < k := by assumption
      have h2 : ((n : Int) % (k : Int) == 0) = true := by assumption
      have h3 : k < n := by assumption
      rw [primeTo_false n k n h3 (by omega) (by simp only [beq_iff_eq] at h2; omega)]
      go_ret
      exact ⟨rfl, rfl⟩
    · have h2 : ((n : Int) % (k : Int) == 0) = false := by assumption
      go_round
      case rel => exact ⟨k + 1, by omega, by go_num, rfl, by rw [primeTo_succ, Hp.out]; simp only [beq_eq_false_iff_ne] at h2; simp; omega⟩
      case measure => simp [intOf]; omega
    · have h1 : ¬ (1 : Int) < k := by assumption
      go_round
      case rel => exact ⟨k + 1, by omega, by go_num, rfl, by rw [primeTo_succ, Hp.out]; simp; omega⟩
      case measure => simp [intOf]; omega
    · obtain rfl : k = n := by omega
      go_ret
      exact ⟨by rw [Hp.out]; rfl, rfl⟩

theorem prime_int (s : Int) (w : World) (h0 : 0 ≤ s) (h1 : s ≤ 1000) :
    Calls Try.prog 52 #[.int .i64 s] w fun e w' => e = .returned (.bool (primeTo s.toNat s.toNat)) ∧ w = w' := by
  obtain ⟨n, rfl⟩ := Int.eq_ofNat_of_zero_le h0
  exact prime_any n w (by omega)
end Go.Proofs.Ytmplgcefhpobgaa
