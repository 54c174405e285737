/- cipher: small tests -/
import Derived.Test.YtmplgcefhpobgaaBase
namespace Go.Proofs.Ytmplgcefhpobgaa
set_option linter.unusedVariables false
set_option linter.unusedSimpArgs false
set_option linter.unnecessarySimpa false
open Go.RowKit Go.Flow

set_option maxHeartbeats 400000 in
theorem within_any (a b c : Int) (w : World) :
    Calls Try.prog 51 #[.int .i64 a, .int .i64 b, .int .i64 c] w fun e w' => e = .returned (.bool (decide (b ≤ a) && decide (a ≤ c))) ∧ w = w' := by
  by_cases h : b ≤ a
  · have h1 : decide (b ≤ a) = true := by simpa using h
    go_enter Try.func51, Try.ntmps51
    go_wp2
    go_ret
    exact ⟨by simp [h1], rfl⟩
  · have h1 : decide (b ≤ a) = false := by simpa using h
    go_enter Try.func51, Try.ntmps51
    go_wp2
    go_ret
    exact ⟨by simp [h1], rfl⟩

set_option maxHeartbeats 400000 in
theorem plain_any (s wo n : Int) (ks ds : Value) (w : World) (h0 : 0 ≤ s) (h1 : s ≤ 1000) :
    Calls Try.prog 57 #[.agg #[.int .i64 s, .int .i64 wo, ks, ds], .int .i64 n] w fun e w' => e = .returned (.bool (decide (0 ≤ n) && decide (n ≤ s - 1))) ∧ Below w.heap.size w w' := by
  go_enter Try.func57, Try.ntmps57
  go_wp2_with (go_at_call 51; refine (within_any _ _ _ _).mono ?_; rintro e w1 ⟨rfl, rfl⟩)
  go_ret
  exact ⟨rfl, (Below.refl _ _).alloc (Nat.le_refl _) _⟩

set_option maxHeartbeats 400000 in
theorem own_any (s wo n : Int) (ak ad : Option Addr) (nk ck nd cd : Nat) (w : World) (h : nk ≤ 1000) :
    Calls Try.prog 50 #[.agg #[.int .i64 s, .int .i64 wo, .slice ak nk ck, .slice ad nd cd], .int .i64 n] w fun e w' => e = .returned (.bool (decide (0 ≤ n) && decide (n ≤ (nk : Int) - 1))) ∧ Below w.heap.size w w' := by
  go_enter Try.func50, Try.ntmps50
  go_wp2_with (go_at_call 51; refine (within_any _ _ _ _).mono ?_; rintro e w1 ⟨rfl, rfl⟩)
  go_ret
  exact ⟨rfl, (Below.refl _ _).alloc (Nat.le_refl _) _⟩

set_option maxHeartbeats 400000 in
theorem day_any (s wo n : Int) (ak ad : Option Addr) (nk ck nd cd : Nat) (w : World) (h : nd ≤ 1000) :
    Calls Try.prog 56 #[.agg #[.int .i64 s, .int .i64 wo, .slice ak nk ck, .slice ad nd cd], .int .i64 n] w fun e w' => e = .returned (.bool (decide (0 ≤ n) && decide (n ≤ (nd : Int) - 1))) ∧ Below w.heap.size w w' := by
  go_enter Try.func56, Try.ntmps56
  go_wp2_with (go_at_call 51; refine (within_any _ _ _ _).mono ?_; rintro e w1 ⟨rfl, rfl⟩)
  go_ret
  exact ⟨rfl, (Below.refl _ _).alloc (Nat.le_refl _) _⟩

set_option maxHeartbeats 400000 in
theorem key_any (s wo m a st : Int) (ks ds : Value) (w : World) (h0 : 0 ≤ s) (h1 : s ≤ 1000) :
    Calls Try.prog 49 #[.agg #[.int .i64 s, .int .i64 wo, ks, ds], .agg #[.int .i64 m, .int .i64 a, .int .i64 st]] w fun e w' => e = .returned (.bool ((decide (1 ≤ m) && decide (m ≤ s - 1)) && (decide (0 ≤ a) && decide (a ≤ s - 1)) && (decide (0 ≤ st) && decide (st ≤ s - 1)))) ∧ Below w.heap.size w w' := by
  go_enter Try.func49, Try.ntmps49
  go_wp2_with (first | (go_at_call 51; refine (within_any _ _ _ _).mono ?_; rintro e w1 ⟨rfl, rfl⟩) | (go_at_call 57; refine (plain_any _ _ _ _ _ _ (by assumption) (by assumption)).mono ?_; rintro e w1 ⟨rfl, hb1⟩; obtain ⟨hc1, hf1, hz1⟩ := bcell hb1; (try simp at hz1); (try (have hy0 : w.heap.size < w1.heap.size := by omega)); (try (have hy1 : w.heap.size + 1 < w1.heap.size := by omega)); (try (have hy2 : w.heap.size + 2 < w1.heap.size := by omega))))
  all_goals go_ret
  all_goals (refine ⟨by simp [*], ?_⟩; (repeat (first | exact Below.refl _ _ | refine Below.alloc ?_ (by first | omega | (simp; done) | (simp; omega)) _ | refine Below.drew ?_ | refine Below.setCell ?_ (by first | omega | (simp; done) | (simp; omega)) _ | refine Below.trans ?_ (Below.mono (by assumption) (by first | omega | (simp; done) | (simp; omega))))))

end Go.Proofs.Ytmplgcefhpobgaa
