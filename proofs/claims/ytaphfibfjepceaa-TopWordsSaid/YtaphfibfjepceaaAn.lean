/- pay: ends of ranges; the error of balances -/
import Derived.Test.YtaphfibfjepceaaAa
namespace Go.Proofs.Ytaphfibfjepceaa
set_option linter.unusedVariables false
set_option linter.unusedSimpArgs false
set_option linter.unnecessarySimpa false
open Go.RowKit Go.Flow

def lowF (lo hi : Int) (pays : Bool) : Int := if pays then hi else lo
set_option maxHeartbeats 400000 in
theorem low_any (lo hi : Int) (b : Bool) (w : World) :
    Calls Try.prog 31 #[.agg #[.int .i64 lo, .int .i64 hi], .bool b] w fun e w' => e = .returned (.int .i64 (lowF lo hi b)) ∧ Below w.heap.size w w' := by
  cases b
  · go_enter Try.func31, Try.ntmps31
    go_wp2
    go_ret
    exact ⟨rfl, (Below.refl _ _).alloc (Nat.le_refl _) _⟩
  · go_enter Try.func31, Try.ntmps31
    go_wp2
    go_ret
    exact ⟨rfl, (Below.refl _ _).alloc (Nat.le_refl _) _⟩
set_option maxHeartbeats 400000 in
theorem high_any (lo hi : Int) (b : Bool) (w : World) :
    Calls Try.prog 32 #[.agg #[.int .i64 lo, .int .i64 hi], .bool b] w fun e w' => e = .returned (.int .i64 (lowF lo hi (!b))) ∧ Below w.heap.size w w' := by
  go_enter Try.func32, Try.ntmps32
  go_wp2_with (go_at_call 31; refine (low_any lo hi (!b) _).mono ?_; rintro e w1 ⟨rfl, hb1⟩; obtain ⟨hc1, hf1, hz1⟩ := bcell hb1; (try simp at hz1); (try (have hy0 : w.heap.size < w1.heap.size := by omega)); (try (have hy1 : w.heap.size + 1 < w1.heap.size := by omega)); (try (have hy2 : w.heap.size + 2 < w1.heap.size := by omega)))
  go_ret
  exact ⟨rfl, by (repeat (first | exact Below.refl _ _ | refine Below.alloc ?_ (by first | omega | (simp; done) | (simp; omega)) _ | refine Below.drew ?_ | refine Below.setCell ?_ (by first | omega | (simp; done) | (simp; omega)) _ | refine Below.trans ?_ (Below.mono (by assumption) (by first | omega | (simp; done) | (simp; omega)))))⟩

def debtB (n : Int) : Bool := inR n (-100000) 100000
def balsErr (l : List Int) : Int := if 7 < l.length then 3 else if l = [] ∨ l.all debtB = false then 1 else if l.sum ≠ 0 then 1 else 0
theorem sum_bd : ∀ (l : List Int), l.all debtB = true → -100000 * (l.length : Int) ≤ l.sum ∧ l.sum ≤ 100000 * (l.length : Int)
  | [], _ => by simp
  | x :: l, h => by
    simp only [List.all_cons, Bool.and_eq_true] at h
    have := sum_bd l h.2
    have hx := inR_iff.1 h.1
    simp only [List.sum_cons, List.length_cons]
    push_cast
    omega
theorem sum_take (l : List Int) {k : Nat} (hk : k < l.length) : (l.take (k + 1)).sum = (l.take k).sum + l[k] := by
  rw [List.take_succ_eq_append_getElem hk, List.sum_append]; simp
end Go.Proofs.Ytaphfibfjepceaa
