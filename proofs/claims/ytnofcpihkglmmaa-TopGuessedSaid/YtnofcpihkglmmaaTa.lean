/- TopGuessed: places, spelt, meant · TopGuessed: meant, spelt · TopGuessed: spelt -/
import Derived.Test.YtnofcpihkglmmaaFa
import Derived.Deep.DeepCutAuto
import Derived.Laws.Rows
import Derived.Laws.CopyOwn
import Derived.Laws.Tables
import Derived.Deep.RegionHeld3
import Derived.Laws.MakeOwn
namespace Go.Proofs.Ytnofcpihkglmmaa
set_option linter.unusedVariables false
set_option linter.unusedSimpArgs false
set_option linter.unnecessarySimpa false
open Go.RowKit Go.Flow
theorem pow_bound {n k : Nat} (h3 : 3 ≤ n) (h : n ^ k < 41) : k ≤ 3 := by
  rcases Nat.lt_or_ge k 4 with h1 | h1
  · omega
  · have h2 : 3 ^ 4 ≤ n ^ k := Nat.le_trans (Nat.pow_le_pow_left h3 4) (Nat.pow_le_pow_right (by omega) h1)
    omega
set_option maxRecDepth 100000 in
set_option maxHeartbeats 2000000 in
theorem places_any (a : Option Addr) (n c : Nat) (s wo : Int) (ks ds : Value) (w : World) (h3 : 3 ≤ n) (h6 : n ≤ 6) (s0 : 13 ≤ s) (s1 : s ≤ 41) :
    Calls Try.prog 24 #[.agg #[.slice a n c], .agg #[.int .i64 s, .int .i64 wo, ks, ds]] w fun e w' => (∃ P : Nat, e = .returned (.int .i64 (P : Int)) ∧ P ≤ 4 ∧ s ≤ ((n ^ P : Nat) : Int)) ∧ Below w.heap.size w w' := by
  have hb : Below w.heap.size w ((w.alloc (.cells #[.slice a n c] 24)).alloc (.cells #[.int .i64 s, .int .i64 wo, ks, ds] 28)) := by (repeat (first | exact Below.refl _ _ | refine Below.alloc ?_ (by first | omega | (simp; done) | (simp; omega)) _ | refine Below.drew ?_ | refine Below.setCell ?_ (by first | omega | (simp; done) | (simp; omega)) _ | refine Below.trans ?_ (Below.mono (by assumption) (by first | omega | (simp; done) | (simp; omega)))))
  have C0 : Cells ((w.alloc (.cells #[.slice a n c] 24)).alloc (.cells #[.int .i64 s, .int .i64 wo, ks, ds] 28)) w.heap.size #[.slice a n c] 24 := (Cells.new _ _ _).alloc _
  have D0 : Cells ((w.alloc (.cells #[.slice a n c] 24)).alloc (.cells #[.int .i64 s, .int .i64 wo, ks, ds] 28)) (w.heap.size + 1) #[.int .i64 s, .int .i64 wo, ks, ds] 28 := Cells.new' _ _ _ _ (by simp)
  obtain ⟨W, hW⟩ : ∃ z : World, z = (w.alloc (.cells #[.slice a n c] 24)).alloc (.cells #[.int .i64 s, .int .i64 wo, ks, ds] 28) := ⟨_, rfl⟩
  rw [← hW] at hb C0 D0
  have q0 := C0.cell 0
  have p0 := D0.cell 0
  simp at q0 p0
  have lq := D0.lt
  have HW := Lib.hid hW
  have h2 : (2 : Int) < (n : Int) := by omega
  clear hW C0 D0
  go_enter Try.func24, Try.ntmps24
  go_upto_region 2 with fail
  rw [← HW.out]
  go_loopw [5, 6] (fun i v X => ∃ k : Nat, i = .int .i64 (k : Int) ∧ v = .int .i64 ((n ^ k : Nat) : Int) ∧ k ≤ 4 ∧ Below w.heap.size w X ∧ Below W.heap.size W X) (fun u _ _ => 4 - (intOf u).toNat)
  case atStart => exact ⟨0, rfl, by simp, by omega, hb, Below.refl _ _⟩
  case round =>
    obtain ⟨k, rfl, rfl, hk4, hX, hWX⟩ := hrel
    rename World => X
    have q0 := below_cell hWX q0
    have p0 := below_cell hWX p0
    have lX : w.heap.size + 1 < X.heap.size := Nat.lt_of_lt_of_le lq hWX.size
    have lY : w.heap.size < X.heap.size := by omega
    obtain ⟨M, hM⟩ : ∃ M, n ^ k = M := ⟨_, rfl⟩
    have hpb := pow_bound (k := k) h3
    have hps : n ^ (k + 1) = M * n := by rw [Nat.pow_succ, hM]
    rw [hM] at hpb
    rw [hM]
    by_cases hlt : (M : Int) < s
    · have hk3 : k ≤ 3 := hpb (by omega)
      have hmn : M * n ≤ 41 * 6 := Nat.mul_le_mul (by omega) h6
      have wm : IntKind.i64.wrap ((M : Int) * (n : Int)) = ((M * n : Nat) : Int) := by rw [Int.natCast_mul]; exact IntWalk.i64_in _ (by rw [← Int.natCast_mul]; omega)
      have Hps := Lib.hid hps
      clear hps hmn hM
      go_wp2
      (refine wp_region_ext 9 (by kernel_rfl) (by kernel_rfl) ?_; simp only [List.take_succ_cons, List.take_zero, List.drop_succ_cons, List.drop_zero]; (repeat (go_big_quiet_step ((fail)))); refine wpQuiet_nil ?_; rintro _ ⟨ex, rfl⟩; have hex := ex.below; have hexz := ex.size; (try simp at hexz); (try (have hy0 : w.heap.size < ex.to.heap.size := by omega)); (try (have hy1 : w.heap.size + 1 < ex.to.heap.size := by omega)); (try (have hy2 : w.heap.size + 2 < ex.to.heap.size := by omega)))
      go_wp2
      go_roundw
      case rel => exact ⟨k + 1, by go_num, by rw [Hps.out, Int.natCast_mul], by omega, hX.trans (hex.mono hX.size), hWX.trans (hex.mono hWX.size)⟩
      case measure => simp [intOf]; omega
    · go_wp2
      go_ret
      exact ⟨⟨k, rfl, hk4, by first | (rw [hM]; omega) | (rw [show ((n : Int)) ^ k = (M : Int) by rw [← hM]; simp]; omega)⟩, hX⟩
/-- The last j digits of a number. -/
def lowF (n m : Nat) : Nat → List Int
  | 0 => []
  | j + 1 => ((m / n ^ j % n : Nat) : Int) :: lowF n m j
theorem lowF_len (n m : Nat) : ∀ j, (lowF n m j).length = j
  | 0 => rfl
  | j + 1 => by rw [lowF, List.length_cons, lowF_len n m j]
theorem lowF_b (n m : Nat) (hn : 0 < n) : ∀ j, ∀ x ∈ lowF n m j, 0 ≤ x ∧ x < (n : Int)
  | 0, x, hx => by cases hx
  | j + 1, x, hx => by
    rw [lowF] at hx
    rcases List.mem_cons.1 hx with rfl | h
    · have := Nat.mod_lt (m / n ^ j) hn
      omega
    · exact lowF_b n m hn j x h
/-- What a text of digits means. -/
def meantF (n : Nat) (t : List Int) : Int := t.foldl (fun a x => a * (n : Int) + x) 0
theorem meant_low (n m : Nat) : ∀ (j : Nat) (a : Int), (lowF n m j).foldl (fun a x => a * (n : Int) + x) a = a * ((n ^ j : Nat) : Int) + ((m % n ^ j : Nat) : Int)
  | 0, a => by simp [lowF, Nat.mod_one]
  | j + 1, a => by
    rw [lowF, List.foldl_cons, meant_low n m j, Nat.pow_succ, Nat.mod_mul, Int.natCast_add, Int.natCast_mul, Int.natCast_mul, Int.add_mul, Int.mul_assoc]
    rw [Int.mul_comm (n : Int) ((n ^ j : Nat) : Int), Int.mul_comm ((m / n ^ j % n : Nat) : Int)]
    omega
theorem meant_of {n m P : Nat} (h : m < n ^ P) : meantF n (lowF n m P) = (m : Int) := by
  rw [meantF, meant_low, Nat.mod_eq_of_lt h]; omega
theorem meant_b {n : Nat} (h6 : n ≤ 6) : ∀ (t : List Int), (∀ x ∈ t, 0 ≤ x ∧ x < (n : Int)) → ∀ (a : Int) (B : Int), 0 ≤ a → a ≤ B → 0 ≤ t.foldl (fun a x => a * (n : Int) + x) a ∧ t.foldl (fun a x => a * (n : Int) + x) a ≤ (B + 1) * 7 ^ t.length
  | [], _, a, B, h0, h1 => by simp; omega
  | x :: t, h, a, B, h0, h1 => by
    have hx := h x (List.mem_cons_self ..)
    have e0 : 0 ≤ a * (n : Int) := Int.mul_nonneg h0 (by omega)
    have e1 : a * (n : Int) ≤ B * 6 := Int.mul_le_mul h1 (by omega) (by omega) (by omega)
    have ih := meant_b h6 t (fun y hy => h y (List.mem_cons_of_mem _ hy)) (a * (n : Int) + x) (B * 6 + 6) (by omega) (by omega)
    rw [List.foldl_cons, List.length_cons, Int.pow_succ]
    refine ⟨ih.1, Int.le_trans ih.2 ?_⟩
    have h7 : (0 : Int) ≤ 7 ^ t.length := Int.le_of_lt (Int.pow_pos (by omega))
    have : (B * 6 + 6 + 1) * 7 ^ t.length ≤ ((B + 1) * 7) * 7 ^ t.length := Int.mul_le_mul_of_nonneg_right (by omega) h7
    rw [Int.mul_comm (7 ^ t.length) 7, ← Int.mul_assoc]
    exact this
end Go.Proofs.Ytnofcpihkglmmaa

namespace Go.Proofs.Ytnofcpihkglmmaa
set_option linter.unusedVariables false
set_option linter.unusedSimpArgs false
set_option linter.unnecessarySimpa false
open Go.RowKit Go.Flow
theorem meant_take {n : Nat} (h6 : n ≤ 6) (t : List Int) (hb : ∀ x ∈ t, 0 ≤ x ∧ x < (n : Int)) (k : Nat) (hk : k ≤ 4) : 0 ≤ meantF n (t.take k) ∧ meantF n (t.take k) ≤ 2401 := by
  have h := meant_b h6 (t.take k) (fun x hx => hb x (List.mem_of_mem_take hx)) 0 0 (by omega) (by omega)
  refine ⟨h.1, Int.le_trans h.2 ?_⟩
  have hl : (t.take k).length ≤ 4 := by rw [List.length_take]; omega
  have : (7 : Nat) ^ (t.take k).length ≤ 7 ^ 4 := Nat.pow_le_pow_right (by omega) hl
  have h2 : ((7 : Int)) ^ (t.take k).length = ((7 ^ (t.take k).length : Nat) : Int) := by rw [Int.natCast_pow]; rfl
  rw [h2]; omega
theorem meant_snoc (n : Nat) (t : List Int) (k : Nat) (h : k < t.length) : meantF n (t.take (k + 1)) = meantF n (t.take k) * (n : Int) + t.getD k 0 := by
  rw [List.take_succ_eq_append_getElem h, meantF, List.foldl_append, List.foldl_cons, List.foldl_nil, List.getD_eq_getElem?_getD, List.getElem?_eq_getElem h]
  rfl
set_option maxRecDepth 100000 in
set_option maxHeartbeats 2000000 in
theorem meant_any (a : Option Addr) (n c : Nat) (at0 : Option Addr) (t : List Int) (ct P : Nat) (w : World) (ht : IntsAt w at0 t) (h6 : n ≤ 6) (hl : t.length ≤ 1000) (hP : P ≤ 4) (hb : ∀ x ∈ t, 0 ≤ x ∧ x < (n : Int)) :
    Calls Try.prog 29 #[.agg #[.slice a n c], .slice at0 t.length ct, .int .i64 (P : Int)] w fun e w' => e = .returned (.int .i64 (if t.length = P then meantF n t else -1)) ∧ Below w.heap.size w w' := by
  have hbA : Below w.heap.size w (w.alloc (.cells #[.slice a n c] 24)) := by (repeat (first | exact Below.refl _ _ | refine Below.alloc ?_ (by first | omega | (simp; done) | (simp; omega)) _ | refine Below.drew ?_ | refine Below.setCell ?_ (by first | omega | (simp; done) | (simp; omega)) _ | refine Below.trans ?_ (Below.mono (by assumption) (by first | omega | (simp; done) | (simp; omega)))))
  have C0 := Cells.new w #[.slice a n c] 24
  obtain ⟨W, hW⟩ : ∃ z : World, z = w.alloc (.cells #[.slice a n c] 24) := ⟨_, rfl⟩
  rw [← hW] at hbA C0
  have q0 := C0.cell 0
  simp at q0
  have lq := C0.lt
  have ht1 := ht.below hbA
  by_cases hne : t.length = P
  · have f1 : ((t.length : Int) != (P : Int)) = false := by simp [hne]
    rw [if_pos hne]
    have hmt := meant_take h6 t hb
    have hms := meant_snoc n t
    have Hb := Lib.hid hb
    have HW := Lib.hid hW
    have Hmt := Lib.hid hmt
    have Hms := Lib.hid hms
    have Hne := Lib.hid hne
    clear hW C0 ht hb hmt hms hne
    go_enter Try.func29, Try.ntmps29
    go_upto_region 1 with fail
    rw [← HW.out]
    go_upto_region 5 with fail
    go_loopw [7, 8] (fun v i X => ∃ k : Nat, i = .int .i64 (k : Int) ∧ v = .int .i64 (meantF n (t.take k)) ∧ k ≤ P ∧ Below w.heap.size w X ∧ Below W.heap.size W X) (fun _ u _ => P - (intOf u).toNat)
    case atStart => exact ⟨0, rfl, rfl, by omega, hbA, Below.refl _ _⟩
    case round =>
      obtain ⟨k, rfl, rfl, hk, hX, hWX⟩ := hrel
      rename World => X
      have q0 := below_cell hWX q0
      have lX : w.heap.size < X.heap.size := Nat.lt_of_lt_of_le lq hWX.size
      by_cases hlt : k < P
      · have hltI : (k : Int) < (P : Int) := by omega
        have htk : k < t.length := by rw [Hne.out]; exact hlt
        have htkI : (k : Int) < (t.length : Int) := by omega
        have h1 := Hmt.out k (by omega)
        have h2 := Hmt.out (k + 1) (by omega)
        have h3 := Hms.out k htk
        obtain ⟨b, off, rfl, bl, hc⟩ := ht1.below hWX k htk
        have hxb := Hb.out t[k] (List.getElem_mem htk)
        have hg : t.getD k 0 = t[k] := by rw [List.getD_eq_getElem?_getD, List.getElem?_eq_getElem htk]; rfl
        rw [hg] at hc h3
        obtain ⟨x, hx⟩ : ∃ x, t[k] = x := ⟨_, rfl⟩
        rw [hx] at hc h3 hxb
        obtain ⟨M, hM⟩ : ∃ M, meantF n (t.take k) = M := ⟨_, rfl⟩
        rw [hM] at h1 h3 ⊢
        rw [h3] at h2
        have hmn : M * (n : Int) ≤ 2401 * 6 := Int.mul_le_mul h1.2 (by omega) (by omega) (by omega)
        have hmn0 : 0 ≤ M * (n : Int) := Int.mul_nonneg h1.1 (by omega)
        have w1 : IntKind.i64.wrap (M * (n : Int)) = M * (n : Int) := IntWalk.i64_in _ (by omega)
        have w2 : IntKind.i64.wrap (M * (n : Int) + x) = M * (n : Int) + x := IntWalk.i64_in _ (by omega)
        have H3 := Lib.hid h3
        clear h3 h2 hM hx hg
        go_wp2
        (refine wp_region_ext 10 (by kernel_rfl) (by kernel_rfl) ?_; simp only [List.take_succ_cons, List.take_zero, List.drop_succ_cons, List.drop_zero]; (repeat (go_big_quiet_step ((fail)))); refine wpQuiet_nil ?_; rintro _ ⟨ex, rfl⟩; have hex := ex.below; have hexz := ex.size; (try simp at hexz); (try (have hy0 : w.heap.size < ex.to.heap.size := by omega)); (try (have hy1 : w.heap.size + 1 < ex.to.heap.size := by omega)); (try (have hy2 : w.heap.size + 2 < ex.to.heap.size := by omega)))
        go_wp2
        go_roundw
        case rel => exact ⟨k + 1, by go_num, by rw [H3.out], by omega, hX.trans (hex.mono hX.size), hWX.trans (hex.mono hWX.size)⟩
        case measure => simp [intOf]; omega
      · obtain rfl : k = P := by omega
        have he : t.take k = t := List.take_of_length_le (by rw [Hne.out]; exact Nat.le_refl _)
        have He := Lib.hid he
        clear he
        go_wp2
        go_ret
        first | exact ⟨rfl, hX⟩ | exact ⟨by rw [He.out]; rfl, hX⟩
  · have f1 : ((t.length : Int) != (P : Int)) = true := by simp; omega
    rw [if_neg hne]
    have HW := Lib.hid hW
    clear hW C0 hne hb
    go_enter Try.func29, Try.ntmps29
    go_upto_region 1 with fail
    rw [← HW.out]
    go_wp2
    go_ret
    exact ⟨rfl, hbA⟩
end Go.Proofs.Ytnofcpihkglmmaa

namespace Go.Proofs.Ytnofcpihkglmmaa
set_option linter.unusedVariables false
set_option linter.unusedSimpArgs false
set_option linter.unnecessarySimpa false
open Go.RowKit Go.Flow
theorem info_intT : (Try.prog.info? 3).map (fun i => (i.zero, i.size, i.bytes)) = some (some (.int .i64 0), 1, 8) := by kernel_rfl
/-- Some zeros ahead of the last j digits. -/
def spR (n m P j : Nat) : List Value := (List.replicate (P - j) 0 ++ lowF n m j).map (Value.int .i64)
theorem made_intsT (P n m : Nat) : madeCells (Value.int .i64 0).cells P = (spR n m P 0).toArray := by
  apply Array.ext
  · simp [size_madeCells, spR, lowF]
  · intro i h1 h2
    simp [madeCells, spR, lowF, Value.cells, Nat.mod_one]
theorem make_intsT (P n m : Nat) (hn : P ≤ 1000) (W : World) : Sem.run Try.prog (Instr.makeSlice 26 (.int .i64 (P : Int)) (.int .i64 (P : Int))) W = .ok (.slice (some ⟨W.heap.size, 0, none⟩) P P) (W.alloc (.cells (spR n m P 0).toArray 3)) := by
  obtain ⟨i, hi, h0, h1, h2⟩ := info_parts info_intT
  have := run_make (P := Try.prog) W 26 3 i (.int .i64 0) Try.underlying26 hi h0 .i64 .i64 (P : Int) (P : Int) (by omega) (Int.le_refl _) (by rw [h2]; omega) (by omega)
  rw [h1] at this
  simpa [made_intsT P n m] using this
theorem spR_set (n m P j r : Nat) (hj : r + 1 + j = P) : (spR n m P j).set r (.int .i64 ((m / n ^ j % n : Nat) : Int)) = spR n m P (j + 1) := by
  have e1 : P - j = r + 1 := by omega
  have e2 : P - (j + 1) = r := by omega
  unfold spR
  rw [e1, e2, ← List.map_set, List.set_append_left _ _ (by simp), List.replicate_succ', List.set_append_right _ _ (by simp)]
  simp [lowF]
theorem spR_len (n m P j : Nat) (hj : j ≤ P) : (spR n m P j).length = P := by
  unfold spR
  rw [List.length_map, List.length_append, List.length_replicate, lowF_len]; omega
set_option maxRecDepth 100000 in
set_option maxHeartbeats 4000000 in
theorem spelt_any (a : Option Addr) (n c m P : Nat) (w : World) (h3 : 3 ≤ n) (h6 : n ≤ 6) (hm : m ≤ 1000) (hP : P ≤ 4) :
    Calls Try.prog 27 #[.agg #[.slice a n c], .int .i64 (m : Int), .int .i64 (P : Int)] w fun e w' => (∃ g, e = .returned (.slice (some ⟨g, 0, none⟩) P P) ∧ IntsAt w' (some ⟨g, 0, none⟩) (lowF n m P)) ∧ Below w.heap.size w w' := by
  have hbA : Below w.heap.size w ((w.alloc (.cells #[.slice a n c] 24)).alloc (.cells (spR n m P 0).toArray 3)) := by (repeat (first | exact Below.refl _ _ | refine Below.alloc ?_ (by first | omega | (simp; done) | (simp; omega)) _ | refine Below.drew ?_ | refine Below.setCell ?_ (by first | omega | (simp; done) | (simp; omega)) _ | refine Below.trans ?_ (Below.mono (by assumption) (by first | omega | (simp; done) | (simp; omega)))))
  have C0 : Cells ((w.alloc (.cells #[.slice a n c] 24)).alloc (.cells (spR n m P 0).toArray 3)) w.heap.size #[.slice a n c] 24 := (Cells.new _ _ _).alloc _
  have D0 : Cells ((w.alloc (.cells #[.slice a n c] 24)).alloc (.cells (spR n m P 0).toArray 3)) (w.heap.size + 1) (spR n m P 0).toArray 3 := Cells.new' _ _ _ _ (by simp)
  have mk := make_intsT P n m (by omega) (w.alloc (.cells #[.slice a n c] 24))
  obtain ⟨W, hW⟩ : ∃ z : World, z = (w.alloc (.cells #[.slice a n c] 24)).alloc (.cells (spR n m P 0).toArray 3) := ⟨_, rfl⟩
  rw [← hW] at hbA C0 D0
  have q0 := C0.cell 0
  simp at q0
  have lq := D0.lt
  have HW := Lib.hid hW
  have wP : IntKind.i64.wrap ((P : Int) - 1) = (P : Int) - 1 := IntWalk.i64_in _ (by omega)
  have hn0 : ¬ ((n : Int) = 0) := by omega
  have hn1 : ((n : Int) == 0) = false := by simpa using hn0
  have hnN : ¬ n = 0 := by omega
  clear hW C0
  go_enter Try.func27, Try.ntmps27
  go_upto_region 2 with fail
  rw [← HW.out]
  clear mk HW
  go_upto_region 3 with fail
  go_loopw [1, 8] (fun x i X => ∃ j : Nat, x = .int .i64 ((m / n ^ j : Nat) : Int) ∧ i = .int .i64 ((P : Int) - 1 - (j : Int)) ∧ j ≤ P ∧ Below w.heap.size w X ∧ Cells X (w.heap.size + 1) (spR n m P j).toArray 3 ∧ X.cell? ⟨w.heap.size, 0, none⟩ = some (.slice a n c)) (fun _ u _ => (intOf u + 1).toNat)
  case atStart => exact ⟨0, by simp, by go_num, by omega, hbA, D0, q0⟩
  case round =>
    obtain ⟨j, rfl, rfl, hj, hX, hC, q0⟩ := hrel
    rename World => X
    have lX := hC.lt
    have lY : w.heap.size < X.heap.size := by omega
    by_cases hlt : j < P
    · obtain ⟨r, hr⟩ : ∃ r : Nat, r + 1 + j = P := ⟨P - 1 - j, by omega⟩
      have hrI : (P : Int) - 1 - (j : Int) = (r : Int) := by omega
      have hnx : IntKind.i64.wrap ((r : Int) - 1) = (P : Int) - 1 - ((j + 1 : Nat) : Int) := by rw [IntWalk.i64_in _ (by omega)]; omega
      have hst := spR_set n m P j r hr
      have hdd : m / n ^ (j + 1) = m / n ^ j / n := by rw [Nat.pow_succ, Nat.div_div_eq_div_mul]
      have hqm : m / n ^ j ≤ m := Nat.div_le_self _ _
      obtain ⟨q, hq⟩ : ∃ q, m / n ^ j = q := ⟨_, rfl⟩
      rw [hq] at hst hdd hqm ⊢
      rw [hrI]
      have e1 : (q : Int).tmod (n : Int) = ((q % n : Nat) : Int) := by rw [Int.ofNat_tmod]
      have e2 : (q : Int).tdiv (n : Int) = ((q / n : Nat) : Int) := by rw [Int.ofNat_tdiv]
      have hqn : q % n < n := Nat.mod_lt _ (by omega)
      have hqd : q / n ≤ q := Nat.div_le_self _ _
      obtain ⟨x, hx⟩ : ∃ x, q % n = x := ⟨_, rfl⟩
      obtain ⟨y, hy⟩ : ∃ y, q / n = y := ⟨_, rfl⟩
      rw [hx] at e1 hst hqn
      rw [hy] at e2 hdd hqd
      have w1 : IntKind.i64.wrap (x : Int) = (x : Int) := IntWalk.i64_in _ (by omega)
      have w2 : IntKind.i64.wrap (y : Int) = (y : Int) := IntWalk.i64_in _ (by omega)
      have hrP : (r : Int) < (P : Int) := by omega
      have hr0 : (0 : Int) ≤ (r : Int) := by omega
      have Hst := Lib.hid hst
      have Hdd := Lib.hid hdd
      have Hqx := Lib.hid hx
      have Hqy := Lib.hid hy
      clear hst hdd hx hy hq hr
      have e3 : (q : Int) % (n : Int) = (x : Int) := by rw [← Int.natCast_emod, Hqx.out]
      have e4 : (q : Int) / (n : Int) = (y : Int) := by rw [← Int.natCast_ediv, Hqy.out]
      have fz := hC.frozen r
      have cz := hC.cell r
      have hrl : r < (spR n m P j).length := by rw [spR_len n m P j hj]; omega
      obtain ⟨v0, hv0⟩ : ∃ v, (spR n m P j)[r] = v := ⟨_, rfl⟩
      rw [show (spR n m P j).toArray[r]? = some v0 by simp [hrl, hv0]] at cz
      clear hv0 hrl
      go_upto_region 5 with fail
      have cS := hC.set r (.int .i64 (x : Int))
      have qS : (X.setCell ⟨w.heap.size + 1, r, none⟩ (.int .i64 (x : Int))).cell? ⟨w.heap.size, 0, none⟩ = some (.slice a n c) := (World.cell?_setCell_other _ _ _ _ (fun e => by simp only [Addr.mk.injEq] at e; omega)).trans q0
      have bS : Below w.heap.size w (X.setCell ⟨w.heap.size + 1, r, none⟩ (.int .i64 (x : Int))) := hX.setCell (p := ⟨w.heap.size + 1, r, none⟩) (Nat.le_succ _) _
      go_region_held3 (fun w' => w'.cell? ⟨w.heap.size, 0, none⟩ = some (.slice a n c)) (first | exact q0 | exact qS) (fail)
      have dr : ∀ V : World, Below V.heap.size V V.drew := fun V => (Below.refl _ _).drew
      have cS2 := cS.below (dr _)
      have qS2 := below_cell (dr _) qS
      have bS2 := bS.drew
      rw [show (spR n m P j).toArray.setIfInBounds r (.int .i64 (x : Int)) = (spR n m P (j + 1)).toArray by rw [← Hst.out]; simp] at cS2
      go_wp2
      go_roundw
      case rel => exact ⟨j + 1, by rw [Hdd.out], by first | rw [hnx] | rfl, by omega, bS2, cS2, qS2⟩
      case measure => simp [intOf]; omega
    · obtain rfl : j = P := by omega
      have hneg : ¬ (0 : Int) ≤ (j : Int) - 1 - (j : Int) := by omega
      have hL : spR n m j j = (lowF n m j).map (Value.int .i64) := by simp [spR]
      have HL := Lib.hid hL
      clear hL
      go_wp2
      go_ret
      refine ⟨⟨_, rfl, ?_⟩, hX⟩
      intro k hk
      refine ⟨_, 0, rfl, lX, ?_⟩
      rw [Nat.zero_add, hC.cell, HL.out]
      simp [hk]
end Go.Proofs.Ytnofcpihkglmmaa
