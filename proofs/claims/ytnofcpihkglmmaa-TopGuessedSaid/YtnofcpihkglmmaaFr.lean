/- flash: a step of the reference, what is misread -/
import Derived.Test.YtnofcpihkglmmaaFq
namespace Go.Proofs.Ytnofcpihkglmmaa
set_option linter.unusedVariables false
set_option linter.unusedSimpArgs false
set_option linter.unnecessarySimpa false
open Go.RowKit Go.Flow
/-- What a step leaves of what is sent. -/
def StL (k : Nat) (s l : List UInt8) : Prop :=
  (k = 0 ∧ ∃ x, s = x :: l) ∨ (k = 1 ∧ ∃ x, s = x :: l) ∨ (k = 2 ∧ s = 45 :: l) ∨ (k = 3 ∧ s = 46 :: 46 :: l) ∨ (k = 4 ∧ ∃ x, s = x :: l) ∨ (k = 5 ∧ l = s)
theorem ext_data (s : ByteArray) (a : Nat) : (s.extract a s.size).data.toList = s.data.toList.drop a := by
  rw [Lib.extract_data]
  apply List.take_of_length_le
  simp
/-- What a step returns. -/
def StepR (k : Nat) (sent : ByteArray) (e : Ending) : Prop := ∃ (l r : ByteArray) (b : Bool), e = .returned (.tuple #[.string l, .string r, .bool b]) ∧ (b = true → StL k sent.data.toList l.data.toList)
theorem StepR.no (k : Nat) (sent : ByteArray) : StepR k sent (.returned (.tuple #[.string ⟨#[]⟩, .string ⟨#[]⟩, .bool false])) := ⟨_, _, false, rfl, fun h => by cases h⟩
theorem StepR.yes {k : Nat} {sent : ByteArray} (l r : ByteArray) (h : StL k sent.data.toList l.data.toList) : StepR k sent (.returned (.tuple #[.string l, .string r, .bool true])) := ⟨l, r, true, rfl, fun _ => h⟩
theorem str_nil (s : ByteArray) : (s.toList == []) = decide (s.size = 0) := by
  rw [ByteArray.toList_eq, Bool.eq_iff_iff, beq_iff_eq, decide_eq_true_iff]
  constructor
  · intro e
    have := congrArg List.length e
    rw [Array.length_toList] at this
    exact this
  · intro e
    exact List.eq_nil_of_length_eq_zero (by rw [Array.length_toList]; exact e)
theorem head_cons (s : ByteArray) (h : 0 < s.size) : s.data.toList = s[0] :: s.data.toList.drop 1 := by
  have h2 : 0 < s.data.toList.length := by rw [Array.length_toList]; exact h
  have := (List.getElem_cons_drop (i := 0) h2).symm
  rw [List.drop_zero] at this
  rw [this]
  rfl
theorem two_points (s : ByteArray) (h : 2 ≤ s.size) (hq : ((s.extract 0 2).toList == [46, 46]) = true) : s.data.toList = 46 :: 46 :: s.data.toList.drop 2 := by
  have e := beq_iff_eq.1 hq
  rw [ByteArray.toList_eq, Lib.extract_data, List.drop_zero] at e
  have := List.take_append_drop 2 s.data.toList
  rw [e] at this
  exact this.symm
section
variable (sent read : ByteArray) (w : World) (hs : sent.size ≤ 1000000)
include hs

set_option maxRecDepth 100000 in
set_option maxHeartbeats 4000000 in
theorem f2Step0 : Calls Try.prog 53 #[.int .i64 0, .string sent, .string read] w fun e w' => StepR 0 sent e ∧ Below w.heap.size w w' := by
  by_cases h0 : sent.size = 0
  · have he : (sent.toList == []) = true := by rw [str_nil]; simpa using h0
    go_enter Try.func53, Try.ntmps53
    go_wp2
    refine bodyPost_ret (results_tmp3 rfl _ _ _) rfl ?_
    exact ⟨StepR.no _ _, Below.refl _ _⟩
  · have he : (sent.toList == []) = false := by rw [str_nil]; simpa using h0
    have h1 : (1 : Int) ≤ (sent.size : Int) := by omega
    have hp : 0 < sent.size := by omega
    have hd := head_cons sent hp
    have Hd := Lib.hid hd
    clear hd
    go_enter Try.func53, Try.ntmps53
    go_upto_region 24 with fail
    obtain ⟨W, hW⟩ : ∃ W : ByteArray, sent.extract 0 1 = W := ⟨_, rfl⟩
    rw [hW]
    have hWs : W.size ≤ 1000000 := by rw [← hW]; first | (show (_ : Nat) ≤ _; decide) | (rw [ByteArray.size_extract]; omega)
    clear hW
    by_cases hrl : read.size < W.size
    · have hrI : (read.size : Int) < (W.size : Int) := by omega
      go_wp2
      refine bodyPost_ret (results_tmp3 rfl _ _ _) rfl ?_
      exact ⟨StepR.no _ _, Below.refl _ _⟩
    · have hrI : ¬ (read.size : Int) < (W.size : Int) := by omega
      have hrJ : (W.size : Int) ≤ (read.size : Int) := by omega
      have hrK : (0 : Int) ≤ (W.size : Int) := by omega
      cases hq : ((read.extract 0 W.size).toList == W.toList)
      · have hqn : ((read.extract 0 W.size).toList != W.toList) = true := by rw [bne, hq]; rfl
        go_wp2
        refine bodyPost_ret (results_tmp3 rfl _ _ _) rfl ?_
        exact ⟨StepR.no _ _, Below.refl _ _⟩
      · have hqn : ((read.extract 0 W.size).toList != W.toList) = false := by rw [bne, hq]; rfl
        have h00 : (0 : Int) ≤ (sent.size : Int) := by omega
        go_upto_region 26 with fail
        (refine wp_region_ext 10 (by kernel_rfl) (by kernel_rfl) ?_; simp only [List.take_succ_cons, List.take_zero, List.drop_succ_cons, List.drop_zero]; (repeat (go_big_quiet_step ((fail)))); refine wpQuiet_nil ?_; rintro _ ⟨ex, rfl⟩; have hex := ex.below; have hexz := ex.size; (try simp at hexz); (try (have hy0 : w.heap.size < ex.to.heap.size := by omega)); (try (have hy1 : w.heap.size + 1 < ex.to.heap.size := by omega)); (try (have hy2 : w.heap.size + 2 < ex.to.heap.size := by omega)))
        go_wp2
        refine bodyPost_ret (results_tmp3 rfl _ _ _) rfl ?_
        exact ⟨StepR.yes _ _ (by rw [ext_data]; exact .inl ⟨rfl, _, Hd.out⟩), hex⟩
set_option maxRecDepth 100000 in
set_option maxHeartbeats 4000000 in
theorem f2Step1 : Calls Try.prog 53 #[.int .i64 1, .string sent, .string read] w fun e w' => StepR 1 sent e ∧ Below w.heap.size w w' := by
  by_cases h0 : sent.size = 0
  · have he : (sent.toList == []) = true := by rw [str_nil]; simpa using h0
    go_enter Try.func53, Try.ntmps53
    go_wp2
    refine bodyPost_ret (results_tmp3 rfl _ _ _) rfl ?_
    exact ⟨StepR.no _ _, Below.refl _ _⟩
  · have he : (sent.toList == []) = false := by rw [str_nil]; simpa using h0
    have h1 : (1 : Int) ≤ (sent.size : Int) := by omega
    have hp : 0 < sent.size := by omega
    have hd := head_cons sent hp
    have Hd := Lib.hid hd
    clear hd
    cases hc : ((sent[0].toNat : Int) == 32)
    · go_enter Try.func53, Try.ntmps53
      go_upto_region 24 with fail
      obtain ⟨W, hW⟩ : ∃ W : ByteArray, (⟨#[]⟩ : ByteArray) = W := ⟨_, rfl⟩
      rw [hW]
      have hWs : W.size ≤ 1000000 := by rw [← hW]; first | (show (_ : Nat) ≤ _; decide) | (rw [ByteArray.size_extract]; omega)
      clear hW
      by_cases hrl : read.size < W.size
      · have hrI : (read.size : Int) < (W.size : Int) := by omega
        go_wp2
        refine bodyPost_ret (results_tmp3 rfl _ _ _) rfl ?_
        exact ⟨StepR.no _ _, Below.refl _ _⟩
      · have hrI : ¬ (read.size : Int) < (W.size : Int) := by omega
        have hrJ : (W.size : Int) ≤ (read.size : Int) := by omega
        have hrK : (0 : Int) ≤ (W.size : Int) := by omega
        cases hq : ((read.extract 0 W.size).toList == W.toList)
        · have hqn : ((read.extract 0 W.size).toList != W.toList) = true := by rw [bne, hq]; rfl
          go_wp2
          refine bodyPost_ret (results_tmp3 rfl _ _ _) rfl ?_
          exact ⟨StepR.no _ _, Below.refl _ _⟩
        · have hqn : ((read.extract 0 W.size).toList != W.toList) = false := by rw [bne, hq]; rfl
          have h00 : (0 : Int) ≤ (sent.size : Int) := by omega
          go_upto_region 26 with fail
          (refine wp_region_ext 10 (by kernel_rfl) (by kernel_rfl) ?_; simp only [List.take_succ_cons, List.take_zero, List.drop_succ_cons, List.drop_zero]; (repeat (go_big_quiet_step ((fail)))); refine wpQuiet_nil ?_; rintro _ ⟨ex, rfl⟩; have hex := ex.below; have hexz := ex.size; (try simp at hexz); (try (have hy0 : w.heap.size < ex.to.heap.size := by omega)); (try (have hy1 : w.heap.size + 1 < ex.to.heap.size := by omega)); (try (have hy2 : w.heap.size + 2 < ex.to.heap.size := by omega)))
          go_wp2
          refine bodyPost_ret (results_tmp3 rfl _ _ _) rfl ?_
          exact ⟨StepR.yes _ _ (by rw [ext_data]; exact .inr (.inl ⟨rfl, _, Hd.out⟩)), hex⟩
    · go_enter Try.func53, Try.ntmps53
      go_wp2
      refine bodyPost_ret (results_tmp3 rfl _ _ _) rfl ?_
      exact ⟨StepR.no _ _, Below.refl _ _⟩
set_option maxRecDepth 100000 in
set_option maxHeartbeats 4000000 in
theorem f2Step2 : Calls Try.prog 53 #[.int .i64 2, .string sent, .string read] w fun e w' => StepR 2 sent e ∧ Below w.heap.size w w' := by
  by_cases h0 : sent.size = 0
  · have he : (sent.toList == []) = true := by rw [str_nil]; simpa using h0
    go_enter Try.func53, Try.ntmps53
    go_wp2
    refine bodyPost_ret (results_tmp3 rfl _ _ _) rfl ?_
    exact ⟨StepR.no _ _, Below.refl _ _⟩
  · have he : (sent.toList == []) = false := by rw [str_nil]; simpa using h0
    have h1 : (1 : Int) ≤ (sent.size : Int) := by omega
    have hp : 0 < sent.size := by omega
    have hd := head_cons sent hp
    have Hd := Lib.hid hd
    clear hd
    cases hc : ((sent[0].toNat : Int) == 45)
    · have hn : ((sent[0].toNat : Int) != 45) = true := by rw [bne, hc]; rfl
      go_enter Try.func53, Try.ntmps53
      go_wp2
      refine bodyPost_ret (results_tmp3 rfl _ _ _) rfl ?_
      exact ⟨StepR.no _ _, Below.refl _ _⟩
    · have hn : ((sent[0].toNat : Int) != 45) = false := by rw [bne, hc]; rfl
      go_enter Try.func53, Try.ntmps53
      go_upto_region 24 with fail
      obtain ⟨W, hW⟩ : ∃ W : ByteArray, (⟨#[46, 46]⟩ : ByteArray) = W := ⟨_, rfl⟩
      rw [hW]
      have hWs : W.size ≤ 1000000 := by rw [← hW]; first | (show (_ : Nat) ≤ _; decide) | (rw [ByteArray.size_extract]; omega)
      clear hW
      by_cases hrl : read.size < W.size
      · have hrI : (read.size : Int) < (W.size : Int) := by omega
        go_wp2
        refine bodyPost_ret (results_tmp3 rfl _ _ _) rfl ?_
        exact ⟨StepR.no _ _, Below.refl _ _⟩
      · have hrI : ¬ (read.size : Int) < (W.size : Int) := by omega
        have hrJ : (W.size : Int) ≤ (read.size : Int) := by omega
        have hrK : (0 : Int) ≤ (W.size : Int) := by omega
        cases hq : ((read.extract 0 W.size).toList == W.toList)
        · have hqn : ((read.extract 0 W.size).toList != W.toList) = true := by rw [bne, hq]; rfl
          go_wp2
          refine bodyPost_ret (results_tmp3 rfl _ _ _) rfl ?_
          exact ⟨StepR.no _ _, Below.refl _ _⟩
        · have hqn : ((read.extract 0 W.size).toList != W.toList) = false := by rw [bne, hq]; rfl
          have h00 : (0 : Int) ≤ (sent.size : Int) := by omega
          go_upto_region 26 with fail
          (refine wp_region_ext 10 (by kernel_rfl) (by kernel_rfl) ?_; simp only [List.take_succ_cons, List.take_zero, List.drop_succ_cons, List.drop_zero]; (repeat (go_big_quiet_step ((fail)))); refine wpQuiet_nil ?_; rintro _ ⟨ex, rfl⟩; have hex := ex.below; have hexz := ex.size; (try simp at hexz); (try (have hy0 : w.heap.size < ex.to.heap.size := by omega)); (try (have hy1 : w.heap.size + 1 < ex.to.heap.size := by omega)); (try (have hy2 : w.heap.size + 2 < ex.to.heap.size := by omega)))
          go_wp2
          refine bodyPost_ret (results_tmp3 rfl _ _ _) rfl ?_
          exact ⟨StepR.yes _ _ (by rw [ext_data]; exact .inr (.inr (.inl ⟨rfl, by rw [Hd.out]; have := (u8_eq sent[0] 45 (by omega)).symm.trans hc; rw [show sent[0] = 45 by simpa using this]; rfl⟩))), hex⟩
set_option maxRecDepth 100000 in
set_option maxHeartbeats 4000000 in
theorem f2Step4 : Calls Try.prog 53 #[.int .i64 4, .string sent, .string read] w fun e w' => StepR 4 sent e ∧ Below w.heap.size w w' := by
  by_cases h0 : sent.size = 0
  · have he : (sent.toList == []) = true := by rw [str_nil]; simpa using h0
    go_enter Try.func53, Try.ntmps53
    go_wp2
    refine bodyPost_ret (results_tmp3 rfl _ _ _) rfl ?_
    exact ⟨StepR.no _ _, Below.refl _ _⟩
  · have he : (sent.toList == []) = false := by rw [str_nil]; simpa using h0
    have h1 : (1 : Int) ≤ (sent.size : Int) := by omega
    have hp : 0 < sent.size := by omega
    have hd := head_cons sent hp
    have Hd := Lib.hid hd
    clear hd
    cases hc : ((sent[0].toNat : Int) == 32)
    · have hn : ((sent[0].toNat : Int) != 32) = true := by rw [bne, hc]; rfl
      go_enter Try.func53, Try.ntmps53
      go_wp2
      refine bodyPost_ret (results_tmp3 rfl _ _ _) rfl ?_
      exact ⟨StepR.no _ _, Below.refl _ _⟩
    · have hn : ((sent[0].toNat : Int) != 32) = false := by rw [bne, hc]; rfl
      go_enter Try.func53, Try.ntmps53
      go_upto_region 24 with fail
      obtain ⟨W, hW⟩ : ∃ W : ByteArray, (⟨#[]⟩ : ByteArray) = W := ⟨_, rfl⟩
      rw [hW]
      have hWs : W.size ≤ 1000000 := by rw [← hW]; first | (show (_ : Nat) ≤ _; decide) | (rw [ByteArray.size_extract]; omega)
      clear hW
      by_cases hrl : read.size < W.size
      · have hrI : (read.size : Int) < (W.size : Int) := by omega
        go_wp2
        refine bodyPost_ret (results_tmp3 rfl _ _ _) rfl ?_
        exact ⟨StepR.no _ _, Below.refl _ _⟩
      · have hrI : ¬ (read.size : Int) < (W.size : Int) := by omega
        have hrJ : (W.size : Int) ≤ (read.size : Int) := by omega
        have hrK : (0 : Int) ≤ (W.size : Int) := by omega
        cases hq : ((read.extract 0 W.size).toList == W.toList)
        · have hqn : ((read.extract 0 W.size).toList != W.toList) = true := by rw [bne, hq]; rfl
          go_wp2
          refine bodyPost_ret (results_tmp3 rfl _ _ _) rfl ?_
          exact ⟨StepR.no _ _, Below.refl _ _⟩
        · have hqn : ((read.extract 0 W.size).toList != W.toList) = false := by rw [bne, hq]; rfl
          have h00 : (0 : Int) ≤ (sent.size : Int) := by omega
          go_upto_region 26 with fail
          (refine wp_region_ext 10 (by kernel_rfl) (by kernel_rfl) ?_; simp only [List.take_succ_cons, List.take_zero, List.drop_succ_cons, List.drop_zero]; (repeat (go_big_quiet_step ((fail)))); refine wpQuiet_nil ?_; rintro _ ⟨ex, rfl⟩; have hex := ex.below; have hexz := ex.size; (try simp at hexz); (try (have hy0 : w.heap.size < ex.to.heap.size := by omega)); (try (have hy1 : w.heap.size + 1 < ex.to.heap.size := by omega)); (try (have hy2 : w.heap.size + 2 < ex.to.heap.size := by omega)))
          go_wp2
          refine bodyPost_ret (results_tmp3 rfl _ _ _) rfl ?_
          exact ⟨StepR.yes _ _ (by rw [ext_data]; exact .inr (.inr (.inr (.inr (.inl ⟨rfl, _, Hd.out⟩))))), hex⟩
set_option maxRecDepth 100000 in
set_option maxHeartbeats 4000000 in
theorem f2Step5 : Calls Try.prog 53 #[.int .i64 5, .string sent, .string read] w fun e w' => StepR 5 sent e ∧ Below w.heap.size w w' := by
  go_enter Try.func53, Try.ntmps53
  go_upto_region 24 with fail
  obtain ⟨W, hW⟩ : ∃ W : ByteArray, (⟨#[32]⟩ : ByteArray) = W := ⟨_, rfl⟩
  rw [hW]
  have hWs : W.size ≤ 1000000 := by rw [← hW]; first | (show (_ : Nat) ≤ _; decide) | (rw [ByteArray.size_extract]; omega)
  clear hW
  by_cases hrl : read.size < W.size
  · have hrI : (read.size : Int) < (W.size : Int) := by omega
    go_wp2
    refine bodyPost_ret (results_tmp3 rfl _ _ _) rfl ?_
    exact ⟨StepR.no _ _, Below.refl _ _⟩
  · have hrI : ¬ (read.size : Int) < (W.size : Int) := by omega
    have hrJ : (W.size : Int) ≤ (read.size : Int) := by omega
    have hrK : (0 : Int) ≤ (W.size : Int) := by omega
    cases hq : ((read.extract 0 W.size).toList == W.toList)
    · have hqn : ((read.extract 0 W.size).toList != W.toList) = true := by rw [bne, hq]; rfl
      go_wp2
      refine bodyPost_ret (results_tmp3 rfl _ _ _) rfl ?_
      exact ⟨StepR.no _ _, Below.refl _ _⟩
    · have hqn : ((read.extract 0 W.size).toList != W.toList) = false := by rw [bne, hq]; rfl
      have h00 : (0 : Int) ≤ (sent.size : Int) := by omega
      go_upto_region 26 with fail
      (refine wp_region_ext 10 (by kernel_rfl) (by kernel_rfl) ?_; simp only [List.take_succ_cons, List.take_zero, List.drop_succ_cons, List.drop_zero]; (repeat (go_big_quiet_step ((fail)))); refine wpQuiet_nil ?_; rintro _ ⟨ex, rfl⟩; have hex := ex.below; have hexz := ex.size; (try simp at hexz); (try (have hy0 : w.heap.size < ex.to.heap.size := by omega)); (try (have hy1 : w.heap.size + 1 < ex.to.heap.size := by omega)); (try (have hy2 : w.heap.size + 2 < ex.to.heap.size := by omega)))
      go_wp2
      refine bodyPost_ret (results_tmp3 rfl _ _ _) rfl ?_
      exact ⟨StepR.yes _ _ (by first | exact .inr (.inr (.inr (.inr (.inr ⟨rfl, rfl⟩)))) | (rw [ext_data]; exact .inr (.inr (.inr (.inr (.inr ⟨rfl, rfl⟩)))))), hex⟩
set_option maxRecDepth 100000 in
set_option maxHeartbeats 4000000 in
theorem f2Step3 : Calls Try.prog 53 #[.int .i64 3, .string sent, .string read] w fun e w' => StepR 3 sent e ∧ Below w.heap.size w w' := by
  by_cases h0 : sent.size < 2
  · have hI : (sent.size : Int) < 2 := by omega
    go_enter Try.func53, Try.ntmps53
    go_wp2
    refine bodyPost_ret (results_tmp3 rfl _ _ _) rfl ?_
    exact ⟨StepR.no _ _, Below.refl _ _⟩
  · have hI : ¬ (sent.size : Int) < 2 := by omega
    have hJ : (2 : Int) ≤ (sent.size : Int) := by omega
    cases hq2 : ((sent.extract 0 2).toList == [46, 46])
    · have hn : (!((sent.extract 0 2).toList == [46, 46])) = true := by rw [hq2]; rfl
      go_enter Try.func53, Try.ntmps53
      go_wp2
      refine bodyPost_ret (results_tmp3 rfl _ _ _) rfl ?_
      exact ⟨StepR.no _ _, Below.refl _ _⟩
    · have hn : (!((sent.extract 0 2).toList == [46, 46])) = false := by rw [hq2]; rfl
      have Hq2 := Lib.hid hq2
      go_enter Try.func53, Try.ntmps53
      go_upto_region 24 with fail
      obtain ⟨W, hW⟩ : ∃ W : ByteArray, (⟨#[45]⟩ : ByteArray) = W := ⟨_, rfl⟩
      rw [hW]
      have hWs : W.size ≤ 1000000 := by rw [← hW]; first | (show (_ : Nat) ≤ _; decide) | (rw [ByteArray.size_extract]; omega)
      clear hW
      by_cases hrl : read.size < W.size
      · have hrI : (read.size : Int) < (W.size : Int) := by omega
        go_wp2
        refine bodyPost_ret (results_tmp3 rfl _ _ _) rfl ?_
        exact ⟨StepR.no _ _, Below.refl _ _⟩
      · have hrI : ¬ (read.size : Int) < (W.size : Int) := by omega
        have hrJ : (W.size : Int) ≤ (read.size : Int) := by omega
        have hrK : (0 : Int) ≤ (W.size : Int) := by omega
        cases hq : ((read.extract 0 W.size).toList == W.toList)
        · have hqn : ((read.extract 0 W.size).toList != W.toList) = true := by rw [bne, hq]; rfl
          go_wp2
          refine bodyPost_ret (results_tmp3 rfl _ _ _) rfl ?_
          exact ⟨StepR.no _ _, Below.refl _ _⟩
        · have hqn : ((read.extract 0 W.size).toList != W.toList) = false := by rw [bne, hq]; rfl
          have h00 : (0 : Int) ≤ (sent.size : Int) := by omega
          go_upto_region 26 with fail
          (refine wp_region_ext 10 (by kernel_rfl) (by kernel_rfl) ?_; simp only [List.take_succ_cons, List.take_zero, List.drop_succ_cons, List.drop_zero]; (repeat (go_big_quiet_step ((fail)))); refine wpQuiet_nil ?_; rintro _ ⟨ex, rfl⟩; have hex := ex.below; have hexz := ex.size; (try simp at hexz); (try (have hy0 : w.heap.size < ex.to.heap.size := by omega)); (try (have hy1 : w.heap.size + 1 < ex.to.heap.size := by omega)); (try (have hy2 : w.heap.size + 2 < ex.to.heap.size := by omega)))
          go_wp2
          refine bodyPost_ret (results_tmp3 rfl _ _ _) rfl ?_
          exact ⟨StepR.yes _ _ (by rw [ext_data]; exact .inr (.inr (.inr (.inl ⟨rfl, two_points sent (by omega) Hq2.out⟩)))), hex⟩
end
end Go.Proofs.Ytnofcpihkglmmaa
