/- The arithmetic of a key: decoding undoes coding. -/
import Derived.Test.YtnofcpihkglmmaaDa
namespace Go.Proofs.Ytnofcpihkglmmaa
set_option linter.unusedVariables false
set_option linter.unusedSimpArgs false
set_option linter.unnecessarySimpa false
open Go.RowKit Go.Flow

def invOkB (s : Nat) : Bool := (List.range s).all fun m => decide (m = 0) || ((List.range s).any fun k => decide ((k * m) % s = 1))
theorem inv_all : ∀ s ∈ [13, 17, 19, 23, 29, 31, 37, 41], invOkB s = true := by decide +kernel

theorem invN_spec {s m : Int} (hs : isPrime s = true) (m0 : 1 ≤ m) (m1 : m < s) : invN s m * m % s = 1 := by
  have hb := isPrime_b hs
  obtain ⟨S, rfl⟩ := Int.eq_ofNat_of_zero_le (show 0 ≤ s by omega)
  obtain ⟨M, rfl⟩ := Int.eq_ofNat_of_zero_le (show 0 ≤ m by omega)
  have hmem : S ∈ [13, 17, 19, 23, 29, 31, 37, 41] := by
    unfold isPrime primeL at hs
    simp at hs
    simp
    omega
  have h1 := inv_all S hmem
  unfold invOkB at h1
  have h2 := List.all_eq_true.1 h1 M (List.mem_range.2 (by omega))
  simp only [Bool.or_eq_true, decide_eq_true_eq] at h2
  have h3 := h2.resolve_left (by omega)
  obtain ⟨k, hk, hk1⟩ := List.any_eq_true.1 h3
  simp only [List.mem_range, decide_eq_true_eq] at hk hk1
  unfold invN
  rw [Int.toNat_natCast]
  cases h : (List.range S).find? fun (x : Nat) => decide ((x : Int) * (M : Int) % (S : Int) = 1) with
  | none =>
    rw [List.find?_eq_none] at h
    have := h k (List.mem_range.2 hk)
    simp only [decide_eq_true_eq] at this
    exact absurd (by exact_mod_cast hk1) this
  | some j =>
    have := List.find?_some h
    simpa using this

theorem emod_of {x s c q : Int} (h0 : 0 ≤ c) (h1 : c < s) (h : x = c + s * q) : x % s = c := by
  rw [h, Int.add_mul_emod_self_left, Int.emod_eq_of_lt h0 h1]

theorem emod_split (x s : Int) : ∃ q, x % s = x - s * q := ⟨x / s, Int.emod_def x s⟩

theorem decode_code {s m a st n i : Int} (hs : isPrime s = true) (m0 : 1 ≤ m) (m1 : m < s) (n0 : 0 ≤ n) (n1 : n < s) : decodeN s m a st (codeN s m a st n i) i = n := by
  have hi := invN_spec hs m0 m1
  unfold codeN decodeN
  obtain ⟨qm, hm⟩ := emod_split (invN s m * m) s
  rw [hi] at hm
  generalize invN s m = v at *
  obtain ⟨qa, ha⟩ := emod_split (-a) s
  obtain ⟨qc, hc⟩ := emod_split (m * n + a + i * st) s
  obtain ⟨qL, hL⟩ := emod_split ((m * n + a + i * st) % s + -a % s + i * (s - st)) s
  rw [hL, hc, ha]
  refine emod_of (q := n * qm + (-qc - qa + i - qL) * v) n0 n1 ?_
  grind
end Go.Proofs.Ytnofcpihkglmmaa
