/- pay: ends of ranges; the error of balances -/
import Derived.Test.YtomjlmhnjgohdaaAa
namespace Go.Proofs.Ytomjlmhnjgohdaa
set_option linter.unusedVariables false
set_option linter.unusedSimpArgs false
set_option linter.unnecessarySimpa false
open Go.RowKit Go.Flow

def lowF (lo hi : Int) (pays : Bool) : Int := if pays then hi else lo
set_option maxHeartbeats 400000 in
theorem low_any (lo hi : Int) (b : Bool) (w : World) :
    Calls Try.prog 74 #[.agg #[.int .i64 lo, .int .i64 hi], .bool b] w fun e w' => e = .returned (.int .i64 (lowF lo hi b)) ∧ Below w.heap.size w w' := by
  cases b
  · go_enter Try.func74, Try.ntmps74
    go_wp2
    go_ret
    exact ⟨rfl, (Below.refl _ _).alloc (Nat.le_refl _) _⟩
  · go_enter Try.func74, Try.ntmps74
    go_wp2
    go_ret
    exact ⟨rfl, (Below.refl _ _).alloc (Nat.le_refl _) _⟩
set_option maxHeartbeats 400000 in
theorem high_any (lo hi : Int) (b : Bool) (w : World) :
    Calls Try.prog 75 #[.agg #[.int .i64 lo, .int .i64 hi], .bool b] w fun e w' => e = .returned (.int .i64 (lowF lo hi (!b))) ∧ Below w.heap.size w w' := by
  go_enter Try.func75, Try.ntmps75
  go_wp2_with (go_at_call 74; refine (low_any lo hi (!b) _).mono ?_; rintro e w1 ⟨rfl, hb1⟩; obtain ⟨hc1, hf1, hz1⟩ := bcell hb1; (try simp at hz1); (try (have hy0 : w.heap.size < w1.heap.size := by omega)); (try (have hy1 : w.heap.size + 1 < w1.heap.size := by omega)); (try (have hy2 : w.heap.size + 2 < w1.heap.size := by omega)))
  go_ret
  exact ⟨rfl, by (repeat (first | exact Below.refl _ _ | refine Below.alloc ?_ (by first | omega | (simp; done) | (simp; omega)) _ | refine Below.drew ?_ | refine Below.setCell ?_ (by first | omega | (simp; done) | (simp; omega)) _ | refine Below.trans ?_ (Below.mono (by assumption) (by first | omega | (simp; done) | (simp; omega)))))⟩

def debtB (n : Int) : Bool := inR n (-100000) 100000
def balsErr (l : List Int) : Int := if 7 < l.length then 3 else if l = [] ∨ l.all debtB = false then 1 else if l.sum ≠ 0 then 1 else 0
theorem sum_bd : ∀ (l : List Int), l.all debtB = true → -100000 * (l.length : Int) ≤ l.sum ∧ l.sum ≤ 100000 * (l.length : Int)
  | [], _ => by simp
  | x :: l, h => by
    simp only [List.all_cons, Bool.and_eq_true] at h
    have := sum_bd l h.2
    have hx := inR_iff.1 h.1
    simp only [List.sum_cons, List.length_cons]
    push_cast
    omega
theorem sum_take (l : List Int) {k : Nat} (hk : k < l.length) : (l.take (k + 1)).sum = (l.take k).sum + l[k] := by
  rw [List.take_succ_eq_append_getElem hk, List.sum_append]; simp
set_option maxRecDepth 100000 in
set_option maxHeartbeats 2000000 in
theorem checkBalances_any (a : Option Addr) (l : List Int) (c : Nat) (w : World) (hx : IntsAt w a l) (hl : l.length ≤ 1000) :
    Calls Try.prog 64 #[.slice a l.length c] w fun e w' => e = .returned (.int .i64 (balsErr l)) ∧ Below w.heap.size w w' := by
  have al := fun W (b : Below w.heap.size w W) => all_int a l c 57 #[.agg #[.int .i64 (-100000), .int .i64 100000]] #[] debtB W (by omega) (hx.below b) (enters Try.func57 (by kernel_rfl) rfl) (fun x _ W' _ => has_any (-100000) 100000 x W')
  obtain ⟨E, hE⟩ : ∃ E, balsErr l = E := ⟨_, rfl⟩
  rw [hE]
  unfold balsErr at hE
  have HE := Lib.hid hE
  clear hE
  by_cases c1 : (7 : Int) < (l.length : Int)
  · have : E = 3 := by rw [← HE.out, if_pos (by omega)]
    subst this
    clear HE
    go_enter Try.func64, Try.ntmps64
    go_wp2
    go_ret
    exact ⟨rfl, Below.refl _ _⟩
  cases hn : ((l.length : Int) == 0)
  · have hne : ¬ (l = []) := fun h => by subst h; simp at hn
    cases hA : l.all debtB
    · have : E = 1 := by rw [← HE.out, if_neg (by omega), if_pos (.inr hA)]
      subst this
      rw [hA] at al
      clear HE
      go_enter Try.func64, Try.ntmps64
      go_wp2_with (go_at_call 71; (with_reducible refine (al _ (by (repeat (first | exact Below.refl _ _ | refine Below.alloc ?_ (by first | omega | (simp; done) | (simp; omega)) _ | refine Below.drew ?_ | refine Below.setCell ?_ (by first | omega | (simp; done) | (simp; omega)) _ | refine Below.trans ?_ (Below.mono (by assumption) (by first | omega | (simp; done) | (simp; omega))))))).mono ?_); rintro e w1 ⟨rfl, hb1⟩)
      go_ret
      exact ⟨rfl, hb1⟩
    · rw [hA] at al
      have hE2 : E = if l.sum ≠ 0 then 1 else 0 := by rw [← HE.out, if_neg (by omega), if_neg (by simp [hne, hA])]
      have HE2 := Lib.hid hE2
      have HA := Lib.hid hA
      clear HE hE2 hA
      go_enter Try.func64, Try.ntmps64
      go_wp2_with (go_at_call 71; (with_reducible refine (al _ (by (repeat (first | exact Below.refl _ _ | refine Below.alloc ?_ (by first | omega | (simp; done) | (simp; omega)) _ | refine Below.drew ?_ | refine Below.setCell ?_ (by first | omega | (simp; done) | (simp; omega)) _ | refine Below.trans ?_ (Below.mono (by assumption) (by first | omega | (simp; done) | (simp; omega))))))).mono ?_); rintro e w1 ⟨rfl, hb1⟩)
      clear al
      go_loopw [3, 5, 23] (fun s _ j wr => ∃ k : Nat, k ≤ l.length ∧ j = .int .i64 k ∧ s = .int .i64 (l.take k).sum ∧ wr = w1) (fun _ _ j _ => l.length - (intOf j).toNat)
      case atStart => exact ⟨0, Nat.zero_le _, rfl, rfl, rfl⟩
      case round =>
        obtain ⟨k, hk, rfl, rfl, rfl⟩ := hrel
        by_cases hlt : k < l.length
        · have hkI : (k : Int) < (l.length : Int) := by omega
          obtain ⟨b, off, rfl, hbl, hc⟩ := (hx.below hb1) k hlt
          replace hc := hc.trans (show some (Value.int .i64 (l.getD k 0)) = some (.int .i64 l[k]) by simp [hlt])
          have hsu := sum_take l hlt
          have hal := List.all_eq_true.1 HA.out
          have hb2 := sum_bd (l.take k) (List.all_eq_true.2 fun x hx => hal x (List.mem_of_mem_take hx))
          have hxk := inR_iff.1 (hal _ (List.getElem_mem hlt))
          have htl : (l.take k).length = k := by simp; omega
          rw [htl] at hb2
          obtain ⟨x, hxe⟩ : ∃ x, l[k] = x := ⟨_, rfl⟩
          obtain ⟨s, hse⟩ : ∃ s, (l.take k).sum = s := ⟨_, rfl⟩
          rw [hxe] at hc hsu hxk
          rw [hse] at hsu hb2 ⊢
          have wS : IntKind.i64.wrap (s + x) = s + x := IntWalk.i64_in _ (by omega)
          have Hsu := Lib.hid hsu
          clear hsu hxe hse hal htl
          go_wp2
          go_roundw
          case rel => exact ⟨k + 1, by omega, by go_num, by rw [Hsu.out], by trivial⟩
          case measure => simp [intOf]; omega
        · obtain rfl : k = l.length := by omega
          rw [List.take_length]
          obtain ⟨s, hse⟩ : ∃ s, l.sum = s := ⟨_, rfl⟩
          have h2 := HE2.out
          rw [hse] at h2 ⊢
          by_cases h0 : s = 0
          · subst h0
            obtain rfl : E = 0 := by rw [h2]; rfl
            clear h2
            go_wp2
            go_ret
            exact ⟨rfl, hb1⟩
          · have hb0 : (s != 0) = true := by simpa using h0
            obtain rfl : E = 1 := by rw [h2, if_pos h0]
            clear h2
            go_wp2
            go_ret
            exact ⟨rfl, hb1⟩
  · have hz : (l.length : Int) = 0 := by simpa using hn
    have he : l = [] := List.eq_nil_of_length_eq_zero (by omega)
    have : E = 1 := by rw [← HE.out, if_neg (by omega), if_pos (.inl he)]
    subst this
    clear HE he hz
    go_enter Try.func64, Try.ntmps64
    go_wp2
    go_ret
    exact ⟨rfl, Below.refl _ _⟩
end Go.Proofs.Ytomjlmhnjgohdaa
