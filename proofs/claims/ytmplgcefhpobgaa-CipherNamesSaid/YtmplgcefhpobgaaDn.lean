/- cipher: the reference's Changes, before -/
import Derived.Test.YtmplgcefhpobgaaDh
namespace Go.Proofs.Ytmplgcefhpobgaa
set_option linter.unusedVariables false
set_option linter.unusedSimpArgs false
set_option linter.unnecessarySimpa false
open Go.RowKit Go.Flow

/-- The changes among the first numbers. -/
def chK (l : List Int) : Nat → Int
  | 0 => 0
  | 1 => 0
  | k + 2 => chK l (k + 1) + if l.getD (k + 1) 0 ≠ l.getD k 0 then 1 else 0
def chgs (l : List Int) : Int := chK l l.length
theorem chK_b (l : List Int) : ∀ k, 0 ≤ chK l k ∧ chK l k ≤ k
  | 0 => by simp [chK]
  | 1 => by simp [chK]
  | k + 2 => by have := chK_b l (k + 1); simp only [chK]; split <;> omega

set_option maxHeartbeats 2000000 in
theorem changes_any (a : Option Addr) (l : List Int) (c : Nat) (w : World) (hl : IntsAt w a l) (ll : l.length ≤ 1000) :
    Calls Try.prog 37 #[.slice a l.length c] w fun e w' => e = .returned (.int .i64 (chgs l)) ∧ Below w.heap.size w w' := by
  go_enter Try.func37, Try.ntmps37
  go_wp2
  go_loopw [3, 4] (fun n i wr => ∃ k : Nat, (k + 1 ≤ l.length ∨ k = 0) ∧ i = .int .i64 ((k + 1 : Nat) : Int) ∧ n = .int .i64 (chK l (k + 1)) ∧ Below w.heap.size w wr) (fun _ i _ => l.length - (intOf i).toNat)
  case atStart => exact ⟨0, .inr rfl, rfl, rfl, Below.refl _ _⟩
  case round =>
    obtain ⟨k, hk, rfl, rfl, bR⟩ := hrel
    have hb := chK_b l (k + 1)
    by_cases hlt : k + 1 < l.length
    · obtain ⟨b, off, rfl, hbl, c0⟩ := (hl.below bR) k (by omega)
      obtain ⟨b', off', he, _, c1⟩ := (hl.below bR) (k + 1) hlt
      simp only [Option.some.injEq, Addr.mk.injEq] at he
      obtain ⟨rfl, rfl, _⟩ := he
      have hltI : ((k + 1 : Nat) : Int) < (l.length : Int) := by omega
      have hst : chK l (k + 1 + 1) = chK l (k + 1) + if l.getD (k + 1) 0 ≠ l.getD k 0 then 1 else 0 := rfl
      obtain ⟨x, hx⟩ : ∃ x, l.getD k 0 = x := ⟨_, rfl⟩
      obtain ⟨y, hy⟩ : ∃ x, l.getD (k + 1) 0 = x := ⟨_, rfl⟩
      rw [hx, hy] at hst
      rw [hx] at c0
      rw [hy] at c1
      obtain ⟨C, hC⟩ : ∃ C, chK l (k + 1) = C := ⟨_, rfl⟩
      rw [hC] at hst hb ⊢
      have Hst := Lib.hid hst
      have i1 : IntKind.i64.wrap (((k + 1 : Nat) : Int) - 1) = (k : Int) := by rw [show ((k + 1 : Nat) : Int) - 1 = (k : Int) by omega]; exact IntWalk.i64_in _ (by omega)
      have hkl : (k : Int) < (l.length : Int) := by omega
      have Hb := Lib.hid hb
      clear hx hy hst hC
      cases hn : (y != x)
      · have Hn := Lib.hid hn
        go_wp2_with fail
        (refine wp_region_ext 10 (by kernel_rfl) (by kernel_rfl) ?_; simp only [List.take_succ_cons, List.take_zero, List.drop_succ_cons, List.drop_zero]; (repeat (go_big_quiet_step ((fail)))); refine wpQuiet_nil ?_; rintro _ ⟨ex, rfl⟩; have hex := ex.below; have hexz := ex.size; (try simp at hexz); (try (have hy0 : w.heap.size < ex.to.heap.size := by omega)); (try (have hy1 : w.heap.size + 1 < ex.to.heap.size := by omega)); (try (have hy2 : w.heap.size + 2 < ex.to.heap.size := by omega)))
        have bE := ex.below
        clear i1 hn
        go_wp2_with fail
        go_roundw
        case rel => exact ⟨k + 1, .inl (by omega), by go_num, by rw [Hst.out, if_neg (by have := Hn.out; simpa using this)]; simp, bR.trans (bE.mono bR.size)⟩
        case measure => simp [intOf]; omega
      · have Hn := Lib.hid hn
        go_wp2_with fail
        (refine wp_region_ext 10 (by kernel_rfl) (by kernel_rfl) ?_; simp only [List.take_succ_cons, List.take_zero, List.drop_succ_cons, List.drop_zero]; (repeat (go_big_quiet_step ((fail)))); refine wpQuiet_nil ?_; rintro _ ⟨ex, rfl⟩; have hex := ex.below; have hexz := ex.size; (try simp at hexz); (try (have hy0 : w.heap.size < ex.to.heap.size := by omega)); (try (have hy1 : w.heap.size + 1 < ex.to.heap.size := by omega)); (try (have hy2 : w.heap.size + 2 < ex.to.heap.size := by omega)))
        have bE := ex.below
        have hb := Hb.out
        clear i1 hn
        go_wp2_with fail
        go_roundw
        case rel => exact ⟨k + 1, .inl (by omega), by go_num, by rw [Hst.out, if_pos (by have := Hn.out; simpa using this)], bR.trans (bE.mono bR.size)⟩
        case measure => simp [intOf]; omega
    · have hch : chK l (k + 1) = chgs l := by
        unfold chgs
        rcases hk with hk | hk
        · rw [show l.length = k + 1 by omega]
        · subst hk
          rcases Nat.lt_or_ge 0 l.length with h | h
          · rw [show l.length = 1 by omega]
          · rw [show l.length = 0 by omega]; rfl
      rw [hch] at hb ⊢
      clear hch
      go_wp2_with fail
      go_ret
      exact ⟨rfl, bR⟩

/-- Whether a list is lexicographically before another one. -/
def lexB : List Int → List Int → Bool
  | [], b => decide (0 < b.length)
  | _ :: _, [] => false
  | x :: a, y :: b => if x = y then lexB a b else decide (x < y)
theorem lexB_drop (a b : List Int) (k : Nat) (ha : k < a.length) (hb : k < b.length) : lexB (a.drop k) (b.drop k) = if a[k] = b[k] then lexB (a.drop (k + 1)) (b.drop (k + 1)) else decide (a[k] < b[k]) := by
  rw [List.drop_eq_getElem_cons ha, List.drop_eq_getElem_cons hb]; rfl
theorem lexB_end (a b : List Int) (k : Nat) (h : a.length ≤ k ∨ b.length ≤ k) (hk : k ≤ a.length ∧ k ≤ b.length) : lexB (a.drop k) (b.drop k) = decide (a.length < b.length) := by
  rcases Nat.lt_or_ge k a.length with h1 | h1
  · have h2 : b.drop k = [] := List.drop_eq_nil_of_le (by omega)
    rw [List.drop_eq_getElem_cons h1, h2]
    simp only [lexB]
    symm; simp; omega
  · rw [List.drop_eq_nil_of_le h1]
    simp only [lexB, List.length_drop]
    congr 1
    exact propext ⟨fun h => by omega, fun h => by omega⟩
set_option maxHeartbeats 4000000 in
theorem before_any (a : Option Addr) (l : List Int) (c : Nat) (a2 : Option Addr) (l2 : List Int) (c2 : Nat) (w : World) (hl : IntsAt w a l) (ll : l.length ≤ 1000) (hl2 : IntsAt w a2 l2) (ll2 : l2.length ≤ 1000) :
    Calls Try.prog 39 #[.slice a l.length c, .slice a2 l2.length c2] w fun e w' => e = .returned (.bool (lexB l l2)) ∧ Below w.heap.size w w' := by
  go_enter Try.func39, Try.ntmps39
  go_wp2
  go_loopw [5] (fun i wr => ∃ k : Nat, k ≤ l.length ∧ k ≤ l2.length ∧ i = .int .i64 k ∧ Hid (lexB (l.drop k) (l2.drop k) = lexB l l2) ∧ Below w.heap.size w wr) (fun i _ => l.length - (intOf i).toNat)
  case atStart => exact ⟨0, Nat.zero_le _, Nat.zero_le _, rfl, Lib.hid rfl, Below.refl _ _⟩
  case round =>
    obtain ⟨k, hk, hk2, rfl, Hr, bR⟩ := hrel
    by_cases hlt : k < l.length
    · by_cases hlt2 : k < l2.length
      · obtain ⟨b, off, rfl, hbl, c0⟩ := (hl.below bR) k hlt
        obtain ⟨b', off', rfl, hbl', c1⟩ := (hl2.below bR) k hlt2
        have hst := lexB_drop l l2 k hlt hlt2
        have hltI : (k : Int) < (l.length : Int) := by omega
        have hltI2 : (k : Int) < (l2.length : Int) := by omega
        replace c0 := c0.trans (by rw [List.getD_eq_getElem?_getD, List.getElem?_eq_getElem hlt]; rfl : _ = some (Value.int .i64 l[k]))
        replace c1 := c1.trans (by rw [List.getD_eq_getElem?_getD, List.getElem?_eq_getElem hlt2]; rfl : _ = some (Value.int .i64 l2[k]))
        obtain ⟨x, hx⟩ : ∃ x, l[k] = x := ⟨_, rfl⟩
        obtain ⟨y, hy⟩ : ∃ x, l2[k] = x := ⟨_, rfl⟩
        rw [hx, hy] at hst
        rw [hx] at c0
        rw [hy] at c1
        have Hst := Lib.hid hst
        clear hx hy hst
        cases hn : (x != y)
        · have Hn := Lib.hid hn
          go_wp2_with fail
          (refine wp_region_ext 9 (by kernel_rfl) (by kernel_rfl) ?_; simp only [List.take_succ_cons, List.take_zero, List.drop_succ_cons, List.drop_zero]; (repeat (go_big_quiet_step ((fail)))); refine wpQuiet_nil ?_; rintro _ ⟨ex, rfl⟩; have hex := ex.below; have hexz := ex.size; (try simp at hexz); (try (have hy0 : w.heap.size < ex.to.heap.size := by omega)); (try (have hy1 : w.heap.size + 1 < ex.to.heap.size := by omega)); (try (have hy2 : w.heap.size + 2 < ex.to.heap.size := by omega)))
          have bE := ex.below
          clear hn
          go_wp2_with fail
          go_roundw
          case rel => exact ⟨k + 1, by omega, by omega, by go_num, Lib.hid (by rw [← Hr.out, Hst.out, if_pos (by have := Hn.out; simpa using this)]), bR.trans (bE.mono bR.size)⟩
          case measure => simp [intOf]; omega
        · have Hn := Lib.hid hn
          go_wp2_with fail
          (refine wp_region_ext 9 (by kernel_rfl) (by kernel_rfl) ?_; simp only [List.take_succ_cons, List.take_zero, List.drop_succ_cons, List.drop_zero]; (repeat (go_big_quiet_step ((fail)))); refine wpQuiet_nil ?_; rintro _ ⟨ex, rfl⟩; have hex := ex.below; have hexz := ex.size; (try simp at hexz); (try (have hy0 : w.heap.size < ex.to.heap.size := by omega)); (try (have hy1 : w.heap.size + 1 < ex.to.heap.size := by omega)); (try (have hy2 : w.heap.size + 2 < ex.to.heap.size := by omega)))
          have bE := ex.below
          have c0' := below_cell bE c0
          have c1' := below_cell bE c1
          have z1 := bE.size
          have hbb : b < ex.to.heap.size := by omega
          have hbb' : b' < ex.to.heap.size := by omega
          obtain ⟨x2, hx2⟩ : ∃ z : World, z = ex.to := ⟨_, rfl⟩
          rw [← hx2] at bE c0' c1' hbb hbb' ⊢
          clear hx2 hn c0 c1 hex hexz
          go_wp2_with fail
          (refine wp_region_ext 9 (by kernel_rfl) (by kernel_rfl) ?_; simp only [List.take_succ_cons, List.take_zero, List.drop_succ_cons, List.drop_zero]; (repeat (go_big_quiet_step ((fail)))); refine wpQuiet_nil ?_; rintro _ ⟨ex, rfl⟩; have hex := ex.below; have hexz := ex.size; (try simp at hexz); (try (have hy0 : w.heap.size < ex.to.heap.size := by omega)); (try (have hy1 : w.heap.size + 1 < ex.to.heap.size := by omega)); (try (have hy2 : w.heap.size + 2 < ex.to.heap.size := by omega)))
          have bE2 := ex.below
          go_wp2_with fail
          go_ret
          rw [← Hr.out, Hst.out, if_neg (by have := Hn.out; simpa using this)]
          exact ⟨rfl, (bR.trans (bE.mono bR.size)).trans (bE2.mono (by have := bR.size; have := bE.size; omega))⟩
      · have hkl2 : k = l2.length := by omega
        have Hf : Hid (lexB l l2 = decide (l.length < l2.length)) := Lib.hid (by rw [← Hr.out, lexB_end l l2 k (.inr (by omega)) ⟨hk, hk2⟩])
        subst hkl2
        go_wp2_with fail
        go_ret
        rw [Hf.out]
        exact ⟨rfl, bR⟩
    · have hkl : k = l.length := by omega
      have Hf : Hid (lexB l l2 = decide (l.length < l2.length)) := Lib.hid (by rw [← Hr.out, lexB_end l l2 k (.inl (by omega)) ⟨hk, hk2⟩])
      subst hkl
      go_wp2_with fail
      go_ret
      rw [Hf.out]
      exact ⟨rfl, bR⟩
end Go.Proofs.Ytmplgcefhpobgaa
