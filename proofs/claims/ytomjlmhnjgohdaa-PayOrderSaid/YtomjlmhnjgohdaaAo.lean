/- pay: sets of stations · pay: the list of a set -/
import Derived.Test.YtomjlmhnjgohdaaAf
import Derived.Test.YtomjlmhnjgohdaaAk
namespace Go.Proofs.Ytomjlmhnjgohdaa
set_option linter.unusedVariables false
set_option linter.unusedSimpArgs false
set_option linter.unnecessarySimpa false
open Go.RowKit Go.Flow

theorem and_one (a : Nat) (ha : a < 1024) : bits .and .u64 (a : Int) 1 = ((a % 2 : Nat) : Int) := by
  have h := bits_and_u64_nat a 1 (by omega) (by omega)
  rw [show a &&& 1 = a % 2 from Nat.and_one_is_mod a] at h
  exact h
set_option maxHeartbeats 400000 in
theorem setHas_any (S n : Nat) (w : World) (hS : S < 1024) (hn : n ≤ 20) :
    Calls Try.prog 79 #[.int .u64 (S : Int), .int .i64 (n : Int)] w fun e w' => e = .returned (.bool (S.testBit n)) ∧ w = w' := by
  have hd : (S : Int) / 2 ^ n = ((S / 2 ^ n : Nat) : Int) := by push_cast; rfl
  have ha := and_one (S / 2 ^ n) (Nat.lt_of_le_of_lt (Nat.div_le_self _ _) hS)
  have ht : S.testBit n = decide (S / 2 ^ n % 2 = 1) := by rw [Nat.testBit_eq_decide_div_mod_eq]
  rw [ht]
  clear ht
  have Hd := Lib.hid hd
  have Ha := Lib.hid ha
  clear hd ha
  go_enter Try.func79, Try.ntmps79
  go_wp2
  go_ret
  refine ⟨?_, rfl⟩
  show Ending.returned (.bool (bits .and .u64 ((S : Int) / 2 ^ n) 1 == 1)) = _
  rw [Hd.out, Ha.out]
  congr 2
  rw [Bool.eq_iff_iff]
  simp only [beq_iff_eq, decide_eq_true_eq]
  omega
end Go.Proofs.Ytomjlmhnjgohdaa

namespace Go.Proofs.Ytomjlmhnjgohdaa
set_option linter.unusedVariables false
set_option linter.unusedSimpArgs false
set_option linter.unnecessarySimpa false
open Go.RowKit Go.Flow

/-- The stations of a set below n, rising. -/
def setN (S : Nat) (n : Nat) : List Int := ((List.range n).filter S.testBit).map fun (k : Nat) => (k : Int)
theorem setN_succ (S n : Nat) : setN S (n + 1) = setN S n ++ if S.testBit n then [(n : Int)] else [] := by
  unfold setN
  rw [List.range_succ, List.filter_append, List.map_append]
  congr 1
  by_cases h : S.testBit n = true
  · simp [h]
  · simp [h]
theorem setN_len (S n : Nat) : (setN S n).length ≤ n := by
  unfold setN
  rw [List.length_map]
  exact Nat.le_trans (List.length_filter_le _ _) (by simp)
theorem setN_end (S : Nat) {n : Nat} (h : S < 2 ^ n) : ∀ d, setN S (n + d) = setN S n
  | 0 => rfl
  | d + 1 => by
    rw [← Nat.add_assoc, setN_succ, setN_end S h d, Nat.testBit_lt_two_pow (Nat.lt_of_lt_of_le h (Nat.pow_le_pow_right (by omega) (by omega)))]
    simp
set_option maxRecDepth 100000 in
set_option maxHeartbeats 2000000 in
theorem setList_any (S : Nat) (w : World) (hS : S < 1024) :
    Calls Try.prog 66 #[.int .u64 (S : Int)] w fun e w' => (∃ a c, e = .returned (.slice a (setN S 10).length c) ∧ OwnL 3 1 w.heap.size w' a c (setN S 10).length ((setN S 10).map (Value.int .i64))) ∧ Below w.heap.size w w' := by
  go_enter Try.func66, Try.ntmps66
  go_wp2
  go_loopw [2, 3] (fun u j wr => ∃ (n : Nat) (ao : Option Addr) (co : Nat), n ≤ 10 ∧ j = .int .i64 n ∧ u = .slice ao (setN S n).length co ∧ OwnL 3 1 w.heap.size wr ao co (setN S n).length ((setN S n).map (Value.int .i64)) ∧ Below w.heap.size w wr) (fun _ j _ => 10 - (intOf j).toNat)
  case atStart => exact ⟨0, none, 0, by omega, rfl, rfl, (OwnL.nil _ _ _ _ : OwnL 3 1 w.heap.size w none 0 0 []), Below.refl _ _⟩
  case round =>
    obtain ⟨n, ao, co, hn, rfl, rfl, own, hb⟩ := hrel
    have hln := setN_len S n
    obtain ⟨q, hq⟩ : ∃ q : Nat, S / 2 ^ n = q := ⟨_, rfl⟩
    have hsh : (S : Int) / 2 ^ n = (q : Int) := by rw [← hq]; push_cast; rfl
    by_cases h0 : q = 0
    · have hlt : S < 2 ^ n := by
        rw [← hq] at h0
        exact (Nat.div_eq_zero_iff_lt (Nat.two_pow_pos n)).1 h0
      have he : setN S 10 = setN S n := by
        have := setN_end S hlt (10 - n)
        rwa [show n + (10 - n) = 10 by omega] at this
      have He := Lib.hid he
      subst h0
      clear hq he hlt
      have hz : ((S : Int) / 2 ^ n != 0) = false := by rw [hsh]; rfl
      clear hsh
      go_wp2
      go_ret
      refine ⟨⟨ao, co, ?_, ?_⟩, hb⟩
      · rw [He.out]; rfl
      · rw [He.out]; exact own
    · have hn10 : n < 10 := by
        rcases Nat.lt_or_ge n 10 with h | h
        · exact h
        · exfalso
          apply h0
          rw [← hq]
          exact (Nat.div_eq_zero_iff_lt (Nat.two_pow_pos n)).2 (Nat.lt_of_lt_of_le hS (by have := Nat.pow_le_pow_right (show 0 < 2 by omega) h; omega))
      have hz : ((S : Int) / 2 ^ n != 0) = true := by rw [hsh]; simp; omega
      clear hsh hq
      have hsu := setN_succ S n
      have hs := setHas_any S n
      obtain ⟨V, hV⟩ : ∃ V, S.testBit n = V := ⟨_, rfl⟩
      rw [hV] at hsu hs
      have Hsu := Lib.hid hsu
      clear hsu hV
      cases V
      · go_wp2_with (go_at_call 79; (with_reducible refine (hs _ hS (by omega)).mono ?_); rintro e _ ⟨rfl, rfl⟩)
        go_roundw
        case rel => exact ⟨n + 1, ao, co, by omega, by go_num, by rw [Hsu.out]; simp, by rw [Hsu.out]; simpa using own, hb⟩
        case measure => simp [intOf]; omega
      · go_wp2_with (first
          | (go_at_call 79; (with_reducible refine (hs _ hS (by omega)).mono ?_); rintro e _ ⟨rfl, rfl⟩)
          | (at_builtin; refine wpList_app_lit elInt rfl _ _ rfl w.heap.size ao (setN S n).length co _ rfl own 1 1 rfl rfl (fun u hu => by simp at hu; subst hu; rfl) (by unfold maxLen; omega) (by omega) hb.size ?_; intro a9 c9 w9 own9 b9))
        go_roundw
        case rel => exact ⟨n + 1, a9, c9, by omega, by go_num, by rw [Hsu.out]; simp, by rw [Hsu.out]; simpa using own9, hb.trans b9⟩
        case measure => simp [intOf]; omega
end Go.Proofs.Ytomjlmhnjgohdaa
