/- flash: the reference's In, Cost, Fault, IsText, Signs; the law's Thin, Code, word -/
import Derived.Test.YtnofcpihkglmmaaFn
namespace Go.Proofs.Ytnofcpihkglmmaa
set_option linter.unusedVariables false
set_option linter.unusedSimpArgs false
set_option linter.unnecessarySimpa false
open Go.RowKit Go.Flow
theorem f2In (a b c : Int) (w : World) :
    Calls Try.prog 15 #[.int .i64 a, .int .i64 b, .int .i64 c] w fun e w' => e = .returned (.bool (decide (b ≤ a) && decide (a ≤ c))) ∧ w = w' := by
  by_cases h : b ≤ a
  · have h1 : decide (b ≤ a) = true := by simpa using h
    go_enter Try.func15, Try.ntmps15
    go_wp2
    go_ret
    exact ⟨by rw [h1]; rfl, rfl⟩
  · have h1 : decide (b ≤ a) = false := by simpa using h
    go_enter Try.func15, Try.ntmps15
    go_wp2
    go_ret
    first | exact ⟨rfl, rfl⟩ | exact ⟨by rw [h1]; rfl, rfl⟩
theorem f2Cost (a : Int) (w : World) :
    Calls Try.prog 54 #[.int .i64 a] w fun e w' => e = .returned (.int .i64 (if a = 0 then 0 else 1)) ∧ w = w' := by
  by_cases h : a = 0
  · subst h
    go_enter Try.func54, Try.ntmps54
    go_wp2
    go_ret
    exact ⟨rfl, rfl⟩
  · have h1 : (a == 0) = false := by simpa using h
    go_enter Try.func54, Try.ntmps54
    go_wp2
    go_ret
    first | exact ⟨rfl, rfl⟩ | exact ⟨by rw [if_neg h]; rfl, rfl⟩
/-- Words in a slice. -/
def W16At (w : World) (a : Option Addr) (xs : List Int) : Prop :=
  ∀ k (h : k < xs.length), ∃ b off, a = some ⟨b, off, none⟩ ∧ b < w.heap.size ∧ w.cell? ⟨b, off + k, none⟩ = some (.int .u16 (xs.getD k 0))
theorem W16At.below {w w' : World} {a : Option Addr} {xs : List Int} (h : W16At w a xs) (hb : Below w.heap.size w w') : W16At w' a xs := fun k hk =>
  let ⟨b, off, ha, hlt, hc⟩ := h k hk
  ⟨b, off, ha, Nat.lt_of_lt_of_le hlt hb.size, (hb.cell (p := ⟨b, off + k, none⟩) hlt).trans hc⟩
set_option maxHeartbeats 1000000 in
theorem f2word (a : Option Addr) (ws : List Int) (c k : Nat) (w : World) (hw : W16At w a ws) (hu : ∀ x ∈ ws, 0 ≤ x ∧ x ≤ 65535) (hl : ws.length ≤ 9223372036854775807) (hk : k ≤ 1000) :
    Calls Try.prog 52 #[.slice a ws.length c, .int .i64 (k : Int)] w fun e w' => ∃ v : Int, e = .returned (.int .i64 v) ∧ 0 ≤ v ∧ v ≤ 65535 ∧ w = w' := by
  rcases Nat.eq_zero_or_pos ws.length with e | e
  · have he : ((ws.length : Int) == 0) = true := by simp [e]
    clear e
    go_enter Try.func52, Try.ntmps52
    go_wp2
    go_ret
    exact ⟨0, rfl, by omega, by omega, rfl⟩
  · have he : ((ws.length : Int) == 0) = false := by rw [beq_eq_false_iff_ne]; omega
    have hne : ¬ ((ws.length : Int) = 0) := by omega
    have hkk : k % ws.length < ws.length := Nat.mod_lt _ e
    obtain ⟨j, hj⟩ : ∃ j, k % ws.length = j := ⟨_, rfl⟩
    rw [hj] at hkk
    have hmod : (k : Int).tmod (ws.length : Int) = (j : Int) := by rw [← hj, Int.ofNat_tmod]
    obtain ⟨b0, o0, rfl, lb, hc⟩ := hw j hkk
    have hxb : 0 ≤ ws.getD j 0 ∧ ws.getD j 0 ≤ 65535 := by
      rw [List.getD_eq_getElem?_getD, List.getElem?_eq_getElem hkk]
      exact hu _ (List.getElem_mem hkk)
    obtain ⟨x, hx⟩ : ∃ x, ws.getD j 0 = x := ⟨_, rfl⟩
    rw [hx] at hc hxb
    have wx : IntKind.i64.wrap x = x := IntWalk.i64_in _ (by omega)
    have hjI : (j : Int) < (ws.length : Int) := by omega
    have wj : IntKind.i64.wrap (j : Int) = (j : Int) := IntWalk.i64_in _ (by omega)
    clear hx hj e hw hu
    go_enter Try.func52, Try.ntmps52
    go_wp2
    go_ret
    exact ⟨x, rfl, hxb.1, hxb.2, rfl⟩
def thinS (ss : List ByteArray) : Bool := decide (ss.length ≤ 9) && ss.all fun x => decide (x.size ≤ 9)
set_option maxRecDepth 100000 in
set_option maxHeartbeats 2000000 in
theorem f2Thin (a : Option Addr) (ss : List ByteArray) (c : Nat) (w : World) (hx : StrsAt w a ss) (hl : ss.length ≤ 9223372036854775807) :
    Calls Try.prog 4 #[.agg #[.slice a ss.length c], .string ⟨#[]⟩] w fun e w' => e = .returned (.bool (thinS ss)) ∧ Below w.heap.size w w' := by
  obtain ⟨R, hR⟩ : ∃ R, thinS ss = R := ⟨_, rfl⟩
  rw [hR]
  have HR := Lib.hid hR
  clear hR
  have hb : Below w.heap.size w (w.alloc (.cells #[.slice a ss.length c] 24)) := by (repeat (first | exact Below.refl _ _ | refine Below.alloc ?_ (by first | omega | (simp; done) | (simp; omega)) _ | refine Below.drew ?_ | refine Below.setCell ?_ (by first | omega | (simp; done) | (simp; omega)) _ | refine Below.trans ?_ (Below.mono (by assumption) (by first | omega | (simp; done) | (simp; omega)))))
  have C0 := Cells.new w #[.slice a ss.length c] 24
  have hx1 := hx.below hb
  obtain ⟨W, hW⟩ : ∃ z : World, z = w.alloc (.cells #[.slice a ss.length c] 24) := ⟨_, rfl⟩
  rw [← hW] at hb C0 hx1
  have q0 := C0.cell 0
  simp at q0
  have lq := C0.lt
  have HW := Lib.hid hW
  clear hW C0
  go_enter Try.func4, Try.ntmps4
  go_upto_region 2 with fail
  rw [← HW.out]
  go_loopw [5] (fun i X => ∃ k : Nat, k ≤ ss.length ∧ k ≤ 10 ∧ i = .int .i64 k ∧ X = W ∧ ∀ j (h : j < ss.length), j < k → ss[j].size ≤ 9) (fun u _ => ss.length - (intOf u).toNat)
  case atStart => exact ⟨0, by omega, by omega, rfl, rfl, fun j _ h => absurd h (by omega)⟩
  case round =>
    obtain ⟨k, hk, hk10, rfl, rfl, hall⟩ := hrel
    have Hall := Lib.hid hall
    clear hall
    by_cases hlt : k < ss.length ∧ k < 10
    · obtain ⟨h1, h2⟩ := hlt
      have hkI : (k : Int) < (ss.length : Int) := by omega
      have hkI2 : (k : Int) < 10 := by omega
      obtain ⟨b0, o0, rfl, lb, hc⟩ := hx1 k h1
      obtain ⟨x, hxe⟩ : ∃ x, ss[k] = x := ⟨_, rfl⟩
      rw [hxe] at hc
      have Hxe := Lib.hid hxe
      clear hxe
      by_cases h9 : 9 < x.size
      · have h9I : (9 : Int) < (x.size : Int) := by omega
        have hR : R = false := by
          rw [← HR.out]
          unfold thinS
          rw [Bool.and_eq_false_iff, List.all_eq_false]
          exact .inr ⟨x, by rw [← Hxe.out]; exact List.getElem_mem h1, by simpa using h9⟩
        subst hR
        go_wp2
        go_ret
        exact ⟨rfl, hb⟩
      · have h9I : ¬ (9 : Int) < (x.size : Int) := by omega
        go_wp2
        go_roundw
        case rel => exact ⟨k + 1, by omega, by omega, by go_num, by trivial, fun j hj hjk => by
          rcases Nat.lt_or_ge j k with h | h
          · exact Hall.out j hj h
          · obtain rfl : j = k := by omega
            rw [Hxe.out]; omega⟩
        case measure => simp [intOf]; omega
    · by_cases h9 : ss.length ≤ 9
      · have hkI : ¬ (k : Int) < (ss.length : Int) := by omega
        have h9I : (ss.length : Int) ≤ 9 := by omega
        have hend : thinS ss = true := by
          unfold thinS
          rw [Bool.and_eq_true, List.all_eq_true]
          refine ⟨by simpa using h9, fun x hxm => ?_⟩
          obtain ⟨j, hj, rfl⟩ := List.getElem_of_mem hxm
          have := Hall.out j hj (by omega)
          simpa using this
        have hR : R = true := HR.out.symm.trans hend
        subst hR
        clear hend
        go_wp2
        go_ret
        exact ⟨rfl, hb⟩
      · obtain rfl : k = 10 := by omega
        have h9I : ¬ (ss.length : Int) ≤ 9 := by omega
        have hR : R = false := by
          rw [← HR.out]
          unfold thinS
          rw [decide_eq_false h9]
          rfl
        subst hR
        by_cases h10 : ss.length = 10
        · have hkI : ¬ ((10 : Nat) : Int) < (ss.length : Int) := by omega
          have hkJ : ¬ (10 : Int) < (ss.length : Int) := by omega
          clear h10
          go_wp2
          go_ret
          exact ⟨rfl, hb⟩
        · have hkI : ((10 : Nat) : Int) < (ss.length : Int) := by omega
          have hkJ : (10 : Int) < (ss.length : Int) := by omega
          go_wp2
          go_ret
          exact ⟨rfl, hb⟩
end Go.Proofs.Ytnofcpihkglmmaa
