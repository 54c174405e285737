/- pay: groups -/
import Derived.Test.YtomjlmhnjgohdaaAw
import Derived.Test.YtomjlmhnjgohdaaAr
namespace Go.Proofs.Ytomjlmhnjgohdaa
set_option linter.unusedVariables false
set_option linter.unusedSimpArgs false
set_option linter.unnecessarySimpa false
open Go.RowKit Go.Flow Go.Shelf

theorem maskOf_step (l : List Int) (n : Nat) : maskOf (nzB l) (n + 1) = if nzB l n = true then maskOf (nzB l) n ||| 2 ^ n else maskOf (nzB l) n := rfl
set_option maxRecDepth 100000 in
set_option maxHeartbeats 4000000 in
theorem groups_any (a : Option Addr) (l : List Int) (c : Nat) (w : World) (hx : IntsAt w a l) (hl : l.length ≤ 7) (hd : l.all debtB = true) (hz : l.sum = 0) :
    Calls Try.prog 65 #[.slice a l.length c] w fun e w' => RetS w.heap.size e w' (grpL l) ∧ Below w.heap.size w w' := by
  have hsm := sumsOf_any a l c w hx hl hd
  have hlt : leftM l < 2 ^ l.length := maskOf_lt _ _
  have hlm : leftM l = maskOf (nzB l) l.length := rfl
  have hgz : sumM l (leftM l) = 0 := by rw [leftM_sum, hz]
  have hgl : grpL l = grpF l (leftM l) := rfl
  obtain ⟨A, hA⟩ : ∃ A, sumA l (2 ^ l.length) = A := ⟨_, rfl⟩
  rw [hA] at hsm
  have hAs : A.size = 128 := by rw [← hA]; exact sumA_size _ _
  have HA := Lib.hid hA
  have Hlm := Lib.hid hlm
  have Hgl := Lib.hid hgl
  have Hlt := Lib.hid hlt
  have Hgz := Lib.hid hgz
  have HAs := Lib.hid hAs
  clear hA hlm hgl hlt hgz hz hAs
  go_enter Try.func65, Try.ntmps65
  go_wp2_with fail
  go_at_call 87
  refine hsm.mono ?_
  rintro e w1 ⟨rfl, b1⟩
  have hz1 : Try.zeroCells135.size = 128 := by kernel_rfl
  have hAo : (A.all fun x => x.oneCell') = true := by rw [← HA.out]; exact sumA_oneCell _ _
  have hAi : (Try.prog.info? 135).map (·.size) = some A.size := by rw [HAs.out]; kernel_rfl
  have hA1 : Try.zeroCells135.size = A.size := by rw [HAs.out, hz1]
  have hAi2 := Lib.hid hAi
  have hA2 := Lib.hid hA1
  have hAo2 := Lib.hid hAo
  clear hz1 hAo hAi hA1
  go_wp2_with (refine wpList_store_row rfl 135 (.tmp 3) (.tmp 10) rfl w1.heap.size A rfl rfl 135 Try.zeroCells135 (Cells.new _ _ _) hAi2.out hA2.out hAo2.out ?_)
  obtain ⟨W2, hW2⟩ : ∃ z : World, z = (w1.alloc (.cells Try.zeroCells135 135)).setRow w1.heap.size A := ⟨_, rfl⟩
  have b2 : Below w1.heap.size w1 W2 := by rw [hW2]; exact below_setRow ((Below.refl _ _).alloc (Nat.le_refl _) _) (Nat.le_refl _) _
  have C2 : Cells W2 w1.heap.size A 135 := by rw [hW2]; exact setRow_heap _ _ _ _ _ _ (Cells.new _ _ _)
  rw [← hW2]
  clear hW2 hsm hAi2 hA2 hAo2
  have t2 : Below w.heap.size w W2 := b1.trans (b2.mono b1.size)
  go_loopw [4, 5, 6, 13] (fun u _ _ j X => ∃ i : Nat, i ≤ l.length ∧ j = .int .i64 i ∧ u = .int .u64 ((maskOf (nzB l) i : Nat) : Int) ∧ X = W2) (fun _ _ _ j _ => l.length - (intOf j).toNat)
  case atStart => exact ⟨0, Nat.zero_le _, rfl, rfl, rfl⟩
  case round =>
    obtain ⟨i, hi, rfl, rfl, rfl⟩ := hrel
    by_cases hlt : i < l.length
    · have hiI : (i : Int) < (l.length : Int) := by omega
      obtain ⟨b, off, rfl, hbl, hc⟩ := (hx.below t2) i hlt
      replace hc := hc.trans (show some (Value.int .i64 (l.getD i 0)) = some (.int .i64 l[i]) by simp [hlt])
      have hst := maskOf_step l i
      have hnz : nzB l i = (l[i] != 0) := by simp [nzB, hlt]
      have hml : maskOf (nzB l) i < 128 := Nat.lt_of_lt_of_le (maskOf_lt _ _) (Nat.pow_le_pow_right (n := 2) (by omega) (show i ≤ 7 by omega))
      obtain ⟨p, hpe⟩ : ∃ p, 2 ^ i = p := ⟨_, rfl⟩
      have hp128 : p ≤ 128 := by rw [← hpe]; have : 2 ^ i ≤ 2 ^ 7 := Nat.pow_le_pow_right (by omega) (by omega); omega
      have wsf : IntKind.u64.wrap (2 ^ i) = (p : Int) := pow_wrap hpe (by omega)
      rw [hpe] at hst
      obtain ⟨m, hm⟩ : ∃ m, maskOf (nzB l) i = m := ⟨_, rfl⟩
      rw [hm] at hst hml ⊢
      have wor := bits_or_u64_nat m p (by omega) (by omega)
      obtain ⟨x, hxe⟩ : ∃ x, l[i] = x := ⟨_, rfl⟩
      rw [hxe] at hc hnz
      cases hV : x != 0
      · rw [hV] at hnz
        rw [hnz] at hst
        simp only [Bool.false_eq_true, if_false] at hst
        have Hst := Lib.hid hst
        clear hst hnz hxe hm hpe
        go_wp2
        go_roundw
        case rel => exact ⟨i + 1, by omega, by go_num, by rw [Hst.out], by trivial⟩
        case measure => simp [intOf]; omega
      · rw [hV] at hnz
        rw [hnz] at hst
        simp only [if_true] at hst
        have Hst := Lib.hid hst
        clear hst hnz hxe hm hpe
        go_wp2
        go_roundw
        case rel => exact ⟨i + 1, by omega, by go_num, by rw [Hst.out], by trivial⟩
        case measure => simp [intOf]; omega
    · obtain rfl : i = l.length := by omega
      have hmk : ∀ W, Sem.run Try.prog (Instr.makeMap 137 none) W = .ok (.map (some W.heap.size)) (W.alloc (.map #[] 0)) := fun W => by kernel_rfl
      rw [← Hlm.out]
      go_wp2_with fail
      have m1 := MemoS.made wr w.heap.size (grpF l)
      have bA : Below (wr.alloc (.map #[] 0)).heap.size (wr.alloc (.map #[] 0)) ((wr.alloc (.map #[] 0)).alloc (.cells #[.map (some wr.heap.size)] 137)) := (Below.refl _ _).alloc (Nat.le_refl _) _
      have m2 := m1.below bA
      have cK : Cells ((wr.alloc (.map #[] 0)).alloc (.cells #[.map (some wr.heap.size)] 137)) (wr.heap.size + 1) #[.map (some wr.heap.size)] 137 := Cells.new' _ _ _ _ (by simp)
      obtain ⟨W3, hW3⟩ : ∃ z : World, z = (wr.alloc (.map #[] 0)).alloc (.cells #[.map (some wr.heap.size)] 137) := ⟨_, rfl⟩
      have z3 : W3.heap.size = wr.heap.size + 1 + 1 := by rw [hW3]; simp
      have b3 : Below wr.heap.size wr W3 := by rw [hW3]; exact ((Below.refl _ _).alloc (Nat.le_refl _) _).alloc (by simp) _
      rw [← hW3] at m2 cK ⊢
      have cD : Cells (W3.alloc (.cells #[.func (.func 88) #[] #[.pointer (some ⟨wr.heap.size + 1, 0, none⟩), .pointer (some ⟨w1.heap.size, 0, none⟩), .pointer (some ⟨wr.heap.size + 1 + 1, 0, none⟩)]] 138)) (wr.heap.size + 1 + 1) #[.func (.func 88) #[] #[.pointer (some ⟨wr.heap.size + 1, 0, none⟩), .pointer (some ⟨w1.heap.size, 0, none⟩), .pointer (some ⟨wr.heap.size + 1 + 1, 0, none⟩)]] 138 := Cells.new' _ _ _ _ z3.symm
      have b4 : Below W3.heap.size W3 (W3.alloc (.cells #[.func (.func 88) #[] #[.pointer (some ⟨wr.heap.size + 1, 0, none⟩), .pointer (some ⟨w1.heap.size, 0, none⟩), .pointer (some ⟨wr.heap.size + 1 + 1, 0, none⟩)]] 138)) := (Below.refl _ _).alloc (Nat.le_refl _) _
      have m4 := m2.below b4
      have t4 : Below wr.heap.size wr _ := b3.trans (b4.mono b3.size)
      have D4 : DvAt _ (wr.heap.size + 1) w1.heap.size (wr.heap.size + 1 + 1) wr.heap.size l := ⟨(cK.below b4).cell 0, fun S hS => by
        have h128 : 2 ^ l.length ≤ 2 ^ 7 := Nat.pow_le_pow_right (by omega) hl
        rw [(C2.below t4).cell S, ← HA.out, sumA_get _ _ _ (by omega), if_pos hS], cD.cell 0⟩
      clear hW3 bA b3 b4 m1 m2 cK
      refine (divide_any _ _ _ _ _ l hl _ Hlt.out Hgz.out _ D4 m4 (by have := t2.size; have := t4.size; omega)).mono ?_
      rintro e w5 ⟨⟨a5, c5, rfl, hI, hf⟩, k5, M5⟩
      have hbw := below_keep (t2.trans (t4.mono t2.size)) k5 t2.size
      have hI2 := Lib.hid hI
      have hf2 := Lib.hid hf
      clear hI hf
      go_wp2
      go_ret
      exact ⟨⟨a5, c5, rfl, hI2.out, hf2.out⟩, hbw⟩
end Go.Proofs.Ytomjlmhnjgohdaa
