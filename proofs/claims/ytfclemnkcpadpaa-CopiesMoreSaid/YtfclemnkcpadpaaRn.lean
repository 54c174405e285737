/- copies' law: inside -/
import Derived.Test.YtfclemnkcpadpaaRl
namespace Go.Proofs.Ytfclemnkcpadpaa
set_option linter.unusedVariables false
set_option linter.unusedSimpArgs false
set_option linter.unnecessarySimpa false
open Go.RowKit Go.Flow

def hasL (ys : List Int) (x : Int) : Bool := ys.any fun y => y == x
theorem hasL_succ (ys : List Int) (x : Int) {k : Nat} (h : k < ys.length) : (ys.take (k + 1)).any (fun y => y == x) = ((ys.take k).any (fun y => y == x) || (ys[k] == x)) := by
  rw [List.take_succ_eq_append_getElem h, List.any_append]; simp
def insideB (xs ys : List Int) : Bool := xs.all (hasL ys)
theorem inside_no {xs ys : List Int} {k : Nat} (h : k < xs.length) (hn : hasL ys xs[k] = false) : insideB xs ys = false := by
  unfold insideB; rw [List.all_eq_false]; exact ⟨_, List.getElem_mem h, by rw [hn]; simp⟩
set_option maxHeartbeats 4000000 in
theorem inside_any (a : Option Addr) (xs : List Int) (c : Nat) (b : Option Addr) (ys : List Int) (d : Nat) (w : World) (hx : IntsAt w a xs) (hy : IntsAt w b ys) (lx : xs.length ≤ 1000000) (ly : ys.length ≤ 1000000) :
    Calls Try.prog 45 #[.slice a xs.length c, .slice b ys.length d] w fun e w' => e = .returned (.bool (insideB xs ys)) ∧ Below w.heap.size w w' := by
  go_enter Try.func45, Try.ntmps45
  go_wp2
  go_loopw [5] (fun i wr => ∃ k : Nat, k ≤ xs.length ∧ i = .int .i64 k ∧ (xs.take k).all (hasL ys) = true ∧ Below w.heap.size w wr) (fun i _ => xs.length - (intOf i).toNat)
  case atStart => exact ⟨0, Nat.zero_le _, rfl, rfl, Below.refl _ _⟩
  case round =>
    obtain ⟨k, hk, rfl, hpre, hb⟩ := hrel
    have Hp := Lib.hid hpre
    clear hpre
    by_cases hlt : k < xs.length
    · obtain ⟨b1, off1, rfl, hbl1, hc1⟩ := (hx.below hb) k hlt
      have hc1' : wr.cell? ⟨b1, off1 + k, none⟩ = some (.int .i64 xs[k]) := hc1.trans (by simp [hlt])
      have Hn0 : Hid (hasL ys xs[k] = false → insideB xs ys = false) := Lib.hid (fun h => inside_no hlt h)
      have Hs0 : Hid (hasL ys xs[k] = true → (xs.take (k + 1)).all (hasL ys) = true) := Lib.hid (fun h => all_take_succ hlt Hp.out h)
      obtain ⟨x, hxe⟩ : ∃ x, xs[k] = x := ⟨_, rfl⟩
      rw [hxe] at hc1' Hn0 Hs0
      have l1 : (k : Int) < (xs.length : Int) := by omega
      clear hc1 hxe
      go_wp2
      obtain ⟨wo, hwo⟩ : ∃ z : World, z = wr := ⟨_, rfl⟩
      subst hwo
      go_loopw [6, 7] (fun q j wr => ∃ m : Nat, m ≤ ys.length ∧ j = .int .i64 m ∧ q = .bool ((ys.take m).any (fun y => y == x)) ∧ Below wo.heap.size wo wr) (fun _ j _ => ys.length - (intOf j).toNat)
      case atStart => exact ⟨0, Nat.zero_le _, rfl, rfl, Below.refl _ _⟩
      case round =>
        obtain ⟨m, hm, rfl, rfl, hb2⟩ := hrel
        by_cases hml : m < ys.length
        · obtain ⟨b2, off2, rfl, hbl2, hc2⟩ := ((hy.below hb).below hb2) m hml
          have hc2' : wr.cell? ⟨b2, off2 + m, none⟩ = some (.int .i64 ys[m]) := hc2.trans (by simp [hml])
          have hc3 := below_cell hb2 hc1'
          have lc3 := cell_ltK hc3
          have Hs := Lib.hid (hasL_succ ys x hml)
          obtain ⟨y, hye⟩ : ∃ y, ys[m] = y := ⟨_, rfl⟩
          rw [hye] at hc2' Hs
          have l2 : (m : Int) < (ys.length : Int) := by omega
          clear hc2 hye
          cases hq : (ys.take m).any (fun y => y == x)
          all_goals
            rw [hq] at Hs
            clear hq
            go_wp2
            (refine wp_region_ext 12 (by kernel_rfl) (by kernel_rfl) ?_; simp only [List.take_succ_cons, List.take_zero, List.drop_succ_cons, List.drop_zero]; (repeat (go_big_quiet_step ((fail)))); refine wpQuiet_nil ?_; rintro _ ⟨ex, rfl⟩; have hex := ex.below; have hexz := ex.size; (try simp at hexz); (try (have hy0 : w.heap.size < ex.to.heap.size := by omega)); (try (have hy1 : w.heap.size + 1 < ex.to.heap.size := by omega)); (try (have hy2 : w.heap.size + 2 < ex.to.heap.size := by omega)))
            go_wp2
            go_roundw
            case rel => exact ⟨m + 1, by omega, by go_num, by rw [Hs.out]; rfl, hb2.trans (ex.below.mono hb2.size)⟩
            case measure => simp [intOf]; omega
        · obtain rfl : m = ys.length := by omega
          have hbb := hb.trans (hb2.mono hb.size)
          rw [List.take_length]
          cases hA : ys.any (fun y => y == x)
          · have Hn := Lib.hid (Hn0.out hA)
            clear hA
            go_wp2
            go_ret
            rw [Hn.out]
            exact ⟨rfl, hbb⟩
          · have Hn := Lib.hid (Hs0.out hA)
            clear hA
            go_wp2
            go_roundw
            case rel => exact ⟨k + 1, by omega, by go_num, Hn.out, hbb⟩
            case measure => simp [intOf]; omega
    · obtain rfl : k = xs.length := by omega
      have Hn : Hid (insideB xs ys = true) := Lib.hid (by have := Hp.out; rw [List.take_length] at this; exact this)
      go_wp2
      go_ret
      rw [Hn.out]
      exact ⟨rfl, hb⟩
end Go.Proofs.Ytfclemnkcpadpaa
