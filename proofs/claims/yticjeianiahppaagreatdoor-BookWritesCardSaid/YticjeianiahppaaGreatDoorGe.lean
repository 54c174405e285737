/- book: slices.Equal of bytes -/
import Derived.Test.YticjeianiahppaaGreatDoorBZ
namespace Go.Proofs.YticjeianiahppaaGreatDoor
set_option linter.unusedVariables false
set_option linter.unusedSimpArgs false
set_option linter.unnecessarySimpa false
open Go.RowKit Go.Flow
theorem src_byte {w : World} {a : Option Addr} {x : List UInt8} (h : SrcAt w a (zDB x)) (k : Nat) (hk : k < x.length) : ∃ b off, a = some ⟨b, off, none⟩ ∧ w.cell? ⟨b, off + k, none⟩ = some (.int .u8 ((x[k]).toNat : Int)) := by
  obtain ⟨b, off, ha, hc⟩ := h k (.int .u8 ((x[k]).toNat : Int)) (by unfold zDB; simp [hk])
  exact ⟨b, off, ha, hc⟩
set_option maxRecDepth 100000 in
set_option maxHeartbeats 4000000 in
theorem equalB_any (a b : Option Addr) (c d : Nat) (x y : List UInt8) (w : World) (hx : SrcAt w a (zDB x)) (hy : SrcAt w b (zDB y)) (h : x.length ≤ 100000) :
    Calls Tryz.prog 183 #[.slice a x.length c, .slice b y.length d] w fun e w' => e = .returned (.bool (decide (x = y))) ∧ Below w.heap.size w w' := by
  have gx := fun W (b : Below w.heap.size w W) k hk => src_byte (zAO hx b) k hk
  have gy := fun W (b : Below w.heap.size w W) k hk => src_byte (zAO hy b) k hk
  clear hx hy
  by_cases hl : x.length = y.length
  · have hlI : ((x.length : Int) != (y.length : Int)) = false := by simp; omega
    replace hl := Lib.hid hl
    go_enter Tryz.func183, Tryz.ntmps183
    go_wp2_with fail
    go_loopw [13] (fun i X => ∃ k : Nat, k ≤ x.length ∧ i = .int .i64 k ∧ (∀ j, j < k → x[j]? = y[j]?) ∧ Below w.heap.size w X) (fun i _ => x.length - (intOf i).toNat)
    case atStart => exact ⟨0, Nat.zero_le _, rfl, fun j hj => absurd hj (Nat.not_lt_zero _), Below.refl _ _⟩
    case round =>
      obtain ⟨k, hk, rfl, he, hb⟩ := hrel
      replace he := Lib.hid he
      by_cases hlt : k < x.length
      · have hlt2 : k < y.length := by have := hl.out; omega
        have hkI : (k : Int) < (x.length : Int) := by omega
        have hkI2 : (k : Int) < (y.length : Int) := by omega
        have hk0 : (0 : Int) ≤ (k : Int) := by omega
        have iw : IntKind.i64.wrap ((k : Int) + 1) = (k : Int) + 1 := IntWalk.i64_in _ (by omega)
        obtain ⟨b1, f1, rfl, c1⟩ := gx _ hb k hlt
        obtain ⟨b2, f2, rfl, c2⟩ := gy _ hb k hlt2
        have l1 := zBl c1
        have l2 := zBl c2
        obtain ⟨u, hu⟩ : ∃ u : Int, ((x[k]).toNat : Int) = u := ⟨_, rfl⟩
        obtain ⟨v, hv⟩ : ∃ v : Int, ((y[k]).toNat : Int) = v := ⟨_, rfl⟩
        rw [hu] at c1
        rw [hv] at c2
        replace hu := Lib.hid hu
        replace hv := Lib.hid hv
        clear gx gy
        go_upto_region 6 with fail
        (refine zAC 9 (by kernel_rfl) (by kernel_rfl) ?_; simp only [List.take_succ_cons, List.take_zero, List.drop_succ_cons, List.drop_zero]; (repeat (go_big_quiet_step ((fail)))); refine wpQuiet_nil ?_; rintro _ ⟨ex, rfl⟩; have hex := ex.below; have hexz := ex.size; (try simp at hexz); (try (have hy0 : w.heap.size < ex.to.heap.size := by omega)); (try (have hy1 : w.heap.size + 1 < ex.to.heap.size := by omega)); (try (have hy2 : w.heap.size + 2 < ex.to.heap.size := by omega)))
        obtain ⟨w1, hX⟩ : ∃ z : World, z = ex.to := ⟨_, rfl⟩
        rw [← hX] at hex ⊢
        clear hX hexz
        have hb1 := hb.trans (hex.mono hb.size)
        obtain ⟨q, hq⟩ : ∃ q, (u != v) = q := ⟨_, rfl⟩
        rw [hq]
        cases q
        · have huv : u = v := by simpa using hq
          have hxy : x[k]? = y[k]? := by
            rw [List.getElem?_eq_getElem hlt, List.getElem?_eq_getElem hlt2]
            congr 1
            exact UInt8.toNat_inj.1 (by have := hu.out; have := hv.out; omega)
          replace hxy := Lib.hid hxy
          go_wp2_with fail
          go_round
          case rel => exact ⟨k + 1, by omega, by go_num, fun j hj => by
            by_cases e : j = k
            · subst e; exact hxy.out
            · exact he.out j (by omega), hb1⟩
          case measure => simp [intOf]; omega
        · have huv : u ≠ v := by simpa using hq
          have hne : x ≠ y := fun e => huv (by rw [← hu.out, ← hv.out]; subst e; rfl)
          go_wp2_with fail
          go_ret
          exact ⟨by simp [hne], hb1⟩
      · obtain rfl : k = x.length := by omega
        have e : x = y := List.ext_getElem? fun j => by
          by_cases hj : j < x.length
          · exact he.out j hj
          · rw [List.getElem?_eq_none (by omega), List.getElem?_eq_none (by have := hl.out; omega)]
        go_wp2_with fail
        go_ret
        exact ⟨by simp [e], hb⟩
  · have hlI : ((x.length : Int) != (y.length : Int)) = true := by simp; omega
    have hne : x ≠ y := fun e => hl (by rw [e])
    clear gx gy
    replace hl := Lib.hid hl
    go_enter Tryz.func183, Tryz.ntmps183
    go_wp2_with fail
    go_ret
    exact ⟨by simp [hne], Below.refl _ _⟩
end Go.Proofs.YticjeianiahppaaGreatDoor
