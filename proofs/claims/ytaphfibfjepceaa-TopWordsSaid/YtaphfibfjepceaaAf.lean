/- pay: math/bits.Mul by one; slices.Repeat of one number -/
import Derived.Test.YtaphfibfjepceaaAa
import Derived.Laws.CopyOwn
import Derived.Deep.RegionLaw
import Derived.Laws.CopyRow
import Derived.Laws.MakeOwn
import Derived.Lib.Mul64
import Derived.Laws.Bits64b
namespace Go.Proofs.Ytaphfibfjepceaa
set_option linter.unusedVariables false
set_option linter.unusedSimpArgs false
set_option linter.unnecessarySimpa false
open Go.RowKit Go.Flow

theorem mask_small (n : Nat) (hn : n ≤ 1000) : bits .and .u64 (n : Int) 4294967295 = (n : Int) := by
  have h := bits_and_u64_nat n 4294967295 (by omega) (by omega)
  have e : n &&& 4294967295 = n % 4294967296 := Nat.and_two_pow_sub_one_eq_mod n 32
  rw [e, Nat.mod_eq_of_lt (by omega)] at h
  exact h
theorem mask_one : bits .and .u64 1 4294967295 = 1 := mask_small 1 (by omega)
theorem mask_zero : bits .and .u64 0 4294967295 = 0 := mask_small 0 (by omega)
set_option maxHeartbeats 1000000 in
theorem mul64_any (n : Nat) (hn : n ≤ 1000) (w : World) :
    Calls Try.prog 81 #[.int .u64 1, .int .u64 (n : Int)] w fun e w' => e = .returned (.tuple #[.int .u64 0, .int .u64 (n : Int)]) ∧ w = w' := by
  have h1 := mask_small n hn
  have h2 : (n : Int) / 4294967296 = 0 := by omega
  have h3 : IntKind.u64.wrap (n : Int) = (n : Int) := by rw [IntKind.wrap_u64]; omega
  have h4 : IntKind.u64.wrap 0 = 0 := rfl
  go_enter Try.func81, Try.ntmps81
  go_wp2
  go_ret2
  refine ⟨?_, rfl⟩
  simp [h1, h2, h3, h4, mask_one, mask_zero]
set_option maxHeartbeats 1000000 in
theorem mul_any (n : Nat) (hn : n ≤ 1000) (w : World) :
    Calls Try.prog 69 #[.int .u64 1, .int .u64 (n : Int)] w fun e w' => e = .returned (.tuple #[.int .u64 0, .int .u64 (n : Int)]) ∧ w = w' := by
  go_enter Try.func69, Try.ntmps69
  go_wp2_with (go_at_call 81; refine (mul64_any n hn _).mono ?_; rintro e w1 ⟨rfl, rfl⟩)
  go_ret2
  exact ⟨rfl, rfl⟩

theorem info_int : (Try.prog.info? 3).map (fun i => (i.zero, i.size, i.bytes)) = some (some (.int .i64 0), 1, 8) := by kernel_rfl
theorem elInt : Elem Try.prog 25 3 (.int .i64 0) 1 8 := ⟨Try.underlying25, info_parts info_int, rfl, by decide⟩
/-- The first m of n cells hold x. -/
def repV (x : Int) (m n : Nat) : List Value := List.replicate m (.int .i64 x) ++ List.replicate (n - m) (.int .i64 0)
theorem repV_len (x : Int) {m n : Nat} (h : m ≤ n) : (repV x m n).length = n := by simp [repV]; omega
theorem made_ints (n : Nat) : madeCells (Value.int .i64 0).cells n = (repV 0 0 n).toArray := by
  apply Array.ext
  · simp [size_madeCells, repV]
  · intro i h1 h2
    simp [madeCells, repV, Value.cells, Nat.mod_one]
theorem make_ints (n : Nat) (hn : n ≤ 1000) (W : World) : Sem.run Try.prog (Instr.makeSlice 25 (.int .i64 (n : Int)) (.int .i64 (n : Int))) W = .ok (.slice (some ⟨W.heap.size, 0, none⟩) n n) (W.alloc (.cells (repV 0 0 n).toArray 3)) := by
  obtain ⟨i, hi, h0, h1, h2⟩ := info_parts info_int
  have := run_make (P := Try.prog) W 25 3 i (.int .i64 0) Try.underlying25 hi h0 .i64 .i64 (n : Int) (n : Int) (by omega) (Int.le_refl _) (by rw [h2]; omega) (by omega)
  rw [h1] at this
  simpa [made_ints] using this
theorem repV_splice (x : Int) {m k n : Nat} (h : m + k ≤ n) : splice (repV x m n) m (List.replicate k (.int .i64 x)) = repV x (m + k) n := by
  unfold splice repV
  rw [List.take_append_of_le_length (by simp), List.take_of_length_le (by simp), List.length_replicate, List.drop_append, List.drop_of_length_le (by simp)]
  simp only [List.length_replicate, List.nil_append, List.drop_replicate]
  rw [← List.append_assoc, List.replicate_append_replicate]
  congr 2
  omega
set_option maxRecDepth 100000 in
set_option maxHeartbeats 2000000 in
theorem repeat_any (a : Option Addr) (x : Int) (c : Nat) (n : Nat) (w : World) (ha : IntsAt w a [x]) (hn1 : 1 ≤ n) (hn : n ≤ 1000) :
    Calls Try.prog 54 #[.slice a 1 c, .int .i64 (n : Int)] w fun e w' => (∃ g, e = .returned (.slice (some ⟨g, 0, none⟩) n n) ∧ w.heap.size ≤ g ∧ Cells w' g (List.replicate n (.int .i64 x)).toArray 3) ∧ Below w.heap.size w w' := by
  obtain ⟨b, off, rfl, hb, hc⟩ := ha 0 (by simp)
  simp at hc
  have hcu : IntKind.u64.wrap (n : Int) = (n : Int) := by rw [IntKind.wrap_u64]; omega
  have hci : IntKind.i64.wrap (n : Int) = (n : Int) := IntWalk.i64_in _ (by omega)
  have h9 : ¬ ((9223372036854775807 : Int) < (n : Int)) := by omega
  have h0 : ¬ ((n : Int) < 0) := by omega
  have mk := make_ints n hn w
  have t1 : Below w.heap.size w (w.alloc (.cells (repV 0 0 n).toArray 3)) := by (repeat (first | exact Below.refl _ _ | refine Below.alloc ?_ (by first | omega | (simp; done) | (simp; omega)) _ | refine Below.drew ?_ | refine Below.setCell ?_ (by first | omega | (simp; done) | (simp; omega)) _ | refine Below.trans ?_ (Below.mono (by assumption) (by first | omega | (simp; done) | (simp; omega)))))
  have C1 : Cells (w.alloc (.cells (repV 0 0 n).toArray 3)) w.heap.size (repV 0 0 n).toArray 3 := Cells.new _ _ _
  have hc1 := below_cell t1 hc
  have cp := run_copy_row (P := Try.prog) _ 25 25 3 3 w.heap.size 0 n n ⟨b, off, none⟩ 1 c (repV 0 0 n).toArray 3 [.int .i64 x] Try.underlying25 (by kernel_rfl) C1 (Nat.min_eq_left hn1).symm (fun j v hv => by
    have hj : j = 0 := by
      have := (List.getElem?_eq_some_iff.1 hv).1
      simp at this; omega
    subst hj
    simp at hv
    subst hv
    rw [addr_add]; exact hc1) (by simp [repV_len]; omega) (fun v hv => by simp at hv; subst hv; rfl)
  obtain ⟨W2, hW2⟩ : ∃ z : World, z = (w.alloc (.cells (repV 0 0 n).toArray 3)).setRow w.heap.size ((repV 0 0 n).toArray.toList.take 0 ++ [Value.int .i64 x] ++ (repV 0 0 n).toArray.toList.drop (0 + [Value.int .i64 x].length)).toArray := ⟨_, rfl⟩
  have hrep : (repV 0 0 n).toArray.toList.take 0 ++ [Value.int .i64 x] ++ (repV 0 0 n).toArray.toList.drop (0 + [Value.int .i64 x].length) = repV x 1 n := by
    have := repV_splice x (m := 0) (k := 1) (n := n) (by omega)
    simpa [splice, repV] using this
  have t2 : Below w.heap.size w W2 := by rw [hW2]; exact below_setRow t1 (Nat.le_refl _) _
  have C2 : Cells W2 w.heap.size (repV x 1 n).toArray 3 := by rw [hW2, hrep]; exact setRow_heap _ _ _ _ _ _ C1
  rw [← hW2] at cp
  clear hW2 hrep C1 hc1
  go_enter Try.func54, Try.ntmps54
  go_wp2_with (go_at_call 69; refine (mul_any n hn _).mono ?_; rintro e w1 ⟨rfl, rfl⟩)
  clear mk cp t1 hc ha hb hcu hci
  go_loopw [8] (fun v wr => ∃ m : Nat, 1 ≤ m ∧ m ≤ n ∧ v = .int .i64 m ∧ Cells wr w.heap.size (repV x m n).toArray 3 ∧ Below w.heap.size w wr) (fun v _ => n - (intOf v).toNat)
  case atStart => exact ⟨1, Nat.le_refl _, hn1, rfl, C2, t2⟩
  case round =>
    obtain ⟨m, hm1, hm, rfl, C, hb⟩ := hrel
    by_cases hlt : m < n
    · have hmI : (m : Int) < (n : Int) := by omega
      obtain ⟨k, hk⟩ : ∃ k, Nat.min m (n - m) = k := ⟨_, rfl⟩
      have hk1 : k ≤ n - m ∧ k ≤ m ∧ 1 ≤ k := by
        rw [← hk]
        refine ⟨Nat.min_le_right _ _, Nat.min_le_left _ _, ?_⟩
        exact Nat.le_min.2 ⟨hm1, by omega⟩
      have hsl := repV_splice x (m := m) (k := k) (n := n) (by omega)
      have hs1 : ∀ (j : Nat) (v : Value), (List.replicate k (Value.int .i64 x))[j]? = some v → wr.cell? ((⟨w.heap.size, 0, none⟩ : Addr).add j) = some v := fun j v hv => by
        have hj : j < k := by have := (List.getElem?_eq_some_iff.1 hv).1; simpa using this
        simp [hj] at hv
        subst hv
        rw [addr_add, Nat.zero_add, C.cell]
        have hjm : j < m := by omega
        simp [repV, List.getElem?_append, hjm]
      have hwa : IntKind.i64.wrap ((m : Int) + (k : Int)) = ((m + k : Nat) : Int) := by rw [IntWalk.i64_in _ (by omega)]; omega
      have hkl : (List.replicate k (Value.int .i64 x)).length = Nat.min m (n - m) := by rw [hk]; simp
      have hft : m + (List.replicate k (Value.int .i64 x)).length ≤ (repV x m n).length := by rw [repV_len x hm]; simp; omega
      have h1c : ∀ v ∈ List.replicate k (Value.int .i64 x), v.oneCell' = true := fun v hv => by rw [List.eq_of_mem_replicate hv]; rfl
      go_wp2
      go_region_law (refine step_copy_splice rfl (.tmp 41) (.tmp 44) 25 25 rfl 3 Try.underlying25 (by kernel_rfl) (some ⟨w.heap.size, m, none⟩) (some ⟨w.heap.size, 0, none⟩) (n - m) (n - m) m n (by simp [Act.eval, Act.put]; omega) (by simp [Act.eval, Act.put]) w.heap.size m (repV x m n) 3 C (List.replicate k (Value.int .i64 x)) hkl (fun _ => ⟨rfl, _, rfl, hs1⟩) hft h1c w.heap.size w (by repeat (first | exact hb | refine Below.drew ?_)) (Nat.le_refl _) ?_; intro w4 hg4 hb4)
      all_goals (rw [hsl] at hg4)
      all_goals go_wp2
      all_goals go_roundw
      case rel => exact ⟨m + k, by omega, by omega, by omega, hg4⟩
      case measure => simp [intOf]; omega
    · obtain rfl : m = n := by omega
      have e : repV x m m = List.replicate m (.int .i64 x) := by simp [repV]
      rw [e] at C
      go_wp2
      go_ret
      exact ⟨⟨w.heap.size, rfl, Nat.le_refl _, C⟩, hb⟩
end Go.Proofs.Ytaphfibfjepceaa
