/- pay: the reference's balances -/
import Derived.Test.YtomjlmhnjgohdaaBp
import Derived.Test.YtomjlmhnjgohdaaAz
namespace Go.Proofs.Ytomjlmhnjgohdaa
set_option linter.unusedVariables false
set_option linter.unusedSimpArgs false
set_option linter.unnecessarySimpa false
open Go.RowKit Go.Flow Go.Shelf

section
variable (a : Option Addr) (l : List Int) (c : Nat) (w : World) (hx : IntsAt w a l)
include hx
set_option maxRecDepth 100000 in
set_option maxHeartbeats 4000000 in
theorem rBals_any (hl : l.length ≤ 1000) : Calls Try.prog 34 #[.slice a l.length c] w fun e w' => e = .returned (.int .i64 (balsErr l)) ∧ w = w' := by
  obtain ⟨E, hE⟩ : ∃ E, balsErr l = E := ⟨_, rfl⟩
  rw [hE]
  unfold balsErr at hE
  have HE := Lib.hid hE
  clear hE
  by_cases c1 : (7 : Int) < (l.length : Int)
  · obtain rfl : E = 3 := by rw [← HE.out, if_pos (by omega)]
    clear HE
    go_enter Try.func34, Try.ntmps34
    go_wp2
    go_ret
    exact ⟨rfl, rfl⟩
  · go_enter Try.func34, Try.ntmps34
    go_wp2
    go_loopw [3, 4] (fun s j wr => ∃ k : Nat, k ≤ l.length ∧ j = .int .i64 k ∧ s = .int .i64 (l.take k).sum ∧ wr = w ∧ (l.take k).all debtB = true) (fun _ j _ => l.length - (intOf j).toNat)
    case atStart => exact ⟨0, Nat.zero_le _, rfl, rfl, rfl, rfl⟩
    case round =>
      obtain ⟨k, hk, rfl, rfl, rfl, hal⟩ := hrel
      by_cases hlt : k < l.length
      · have hkI : (k : Int) < (l.length : Int) := by omega
        obtain ⟨b, off, rfl, hbl, hc⟩ := hx k hlt
        replace hc := hc.trans (show some (Value.int .i64 (l.getD k 0)) = some (.int .i64 l[k]) by simp [hlt])
        have hsu := sum_take l hlt
        have hb2 := sum_bd (l.take k) hal
        have htl : (l.take k).length = k := by simp; omega
        rw [htl] at hb2
        have htk : (l.take (k + 1)).all debtB = ((l.take k).all debtB && debtB l[k]) := by rw [List.take_succ_eq_append_getElem hlt, List.all_append]; simp
        have hbad : debtB l[k] = false → E = 1 := fun h => by
          rw [← HE.out, if_neg (by omega), if_pos (.inr (List.all_eq_false.2 ⟨l[k], List.getElem_mem hlt, by simp [h]⟩))]
        obtain ⟨x, hxe⟩ : ∃ x, l[k] = x := ⟨_, rfl⟩
        obtain ⟨s, hse⟩ : ∃ s, (l.take k).sum = s := ⟨_, rfl⟩
        rw [hxe] at hc hsu htk hbad
        rw [hse] at hsu hb2 ⊢
        have i1 := rin_any x (-100000) 100000
        rw [show inR x (-100000) 100000 = debtB x from rfl] at i1
        cases hd : debtB x
        · rw [hd] at i1
          obtain rfl : E = 1 := hbad hd
          clear hsu hxe hse hal htl htk hbad HE hd
          go_wp2_with (go_at_call 24; (with_reducible refine (i1 _).mono ?_); rintro e _ ⟨rfl, rfl⟩)
          go_ret
          exact ⟨rfl, rfl⟩
        · rw [hd] at i1
          have hxk := inR_iff.1 (show inR x (-100000) 100000 = true from hd)
          have wS : IntKind.i64.wrap (s + x) = s + x := IntWalk.i64_in _ (by omega)
          have Hsu := Lib.hid hsu
          have Htk : Hid ((l.take (k + 1)).all debtB = true) := Lib.hid (by rw [htk, hal, hd]; rfl)
          clear hsu hxe hse hal htl htk hbad hd
          go_wp2_with (go_at_call 24; (with_reducible refine (i1 _).mono ?_); rintro e _ ⟨rfl, rfl⟩)
          go_roundw
          case rel => exact ⟨k + 1, by omega, by go_num, by rw [Hsu.out], by trivial, Htk.out⟩
          case measure => simp [intOf]; omega
      · obtain rfl : k = l.length := by omega
        rw [List.take_length] at hal ⊢
        have hE2 : E = if l = [] then 1 else if l.sum ≠ 0 then 1 else 0 := by
          rw [← HE.out, if_neg (by omega), hal]
          simp
        obtain ⟨s, hse⟩ : ∃ s, l.sum = s := ⟨_, rfl⟩
        rw [hse] at hE2 ⊢
        clear hal HE hse
        by_cases h0 : l = []
        · have hb0 : ((l.length : Int) == 0) = true := by rw [h0]; rfl
          obtain rfl : E = 1 := by rw [hE2, if_pos h0]
          clear hE2 h0
          go_wp2
          go_ret
          exact ⟨rfl, rfl⟩
        · have hb0 : ((l.length : Int) == 0) = false := by have := List.length_pos_iff.2 h0; rw [beq_eq_false_iff_ne]; omega
          rw [if_neg h0] at hE2
          by_cases hs : s = 0
          · subst hs
            obtain rfl : E = 0 := by rw [hE2]; rfl
            clear hE2 h0
            go_wp2
            go_ret
            exact ⟨rfl, rfl⟩
          · have hsb : (s != 0) = true := by simpa using hs
            obtain rfl : E = 1 := by rw [hE2, if_pos hs]
            clear hE2 h0 hs
            go_wp2
            go_ret
            exact ⟨rfl, rfl⟩

/-! ### Best, Fewest -/
set_option maxHeartbeats 400000 in
theorem rBest_any (h0 : balsErr l = 0) : Calls Try.prog 49 #[.slice a l.length c] w fun e w' => e = .returned (.int .i64 ((grpL l).length : Int)) ∧ Below w.heap.size w w' := by
  obtain ⟨hl, hne, hd, hz⟩ := balsErr_ok h0
  have hb := best_any a l c hl (debts hd) l.length 0 (by omega) [] none 0 w hx (IntsAt.nil _ _) (fun _ => ⟨rfl, rfl⟩) (Nat.le_refl _) (fun y hy => by simp at hy)
  rw [best_eq l (by omega) hz] at hb
  simp only [List.length_nil, show ((0 : Nat) : Int) = 0 from rfl] at hb
  obtain ⟨n, hn⟩ : ∃ n, (grpL l).length = n := ⟨_, rfl⟩
  rw [hn] at hb ⊢
  clear hn
  go_enter Try.func49, Try.ntmps49
  go_wp2_with (go_at_call 80; (with_reducible refine hb.mono ?_); rintro e w1 ⟨rfl, b1⟩)
  go_ret
  exact ⟨rfl, b1⟩
set_option maxRecDepth 100000 in
set_option maxHeartbeats 1000000 in
theorem rFewest_any (h0 : balsErr l = 0) : Calls Try.prog 36 #[.slice a l.length c] w fun e w' => e = .returned (.int .i64 ((settleL l).length : Int)) ∧ Below w.heap.size w w' := by
  have hbe := fun W (b : Below w.heap.size w W) => rBest_any a l c W (hx.below b) h0
  obtain ⟨hl, hne, hd, hz⟩ := balsErr_ok h0
  have hq := (settleL_ok (by omega) hz (debts hd)).2
  have hcb := cntP_bound (nzB l) l.length
  obtain ⟨n, hn⟩ : ∃ n, (grpL l).length = n := ⟨_, rfl⟩
  obtain ⟨m, hm⟩ : ∃ m, (settleL l).length = m := ⟨_, rfl⟩
  rw [hm, hn] at hq
  rw [hm]
  simp only [hn] at hbe
  clear hn hm hd hz hne h0
  go_enter Try.func36, Try.ntmps36
  go_wp2
  go_loopw [3, 4] (fun u v X => ∃ k : Nat, k ≤ l.length ∧ v = .int .i64 k ∧ u = .int .i64 (cntP (nzB l) k : Nat) ∧ X = w) (fun _ v _ => l.length - (intOf v).toNat)
  case atStart => exact ⟨0, Nat.zero_le _, rfl, rfl, rfl⟩
  case round =>
    obtain ⟨k, hk, rfl, rfl, rfl⟩ := hrel
    by_cases hlt : k < l.length
    · have hkI : (k : Int) < (l.length : Int) := by omega
      obtain ⟨b, off, rfl, hbl, hc⟩ := hx k hlt
      have hck := cntP_bound (nzB l) k
      have hcs : cntP (nzB l) (k + 1) = cntP (nzB l) k + if nzB l k = true then 1 else 0 := rfl
      have hnz : nzB l k = (l.getD k 0 != 0) := rfl
      obtain ⟨x, hxe⟩ : ∃ x, l.getD k 0 = x := ⟨_, rfl⟩
      rw [hxe] at hc hnz
      obtain ⟨q, hqe⟩ : ∃ q, cntP (nzB l) k = q := ⟨_, rfl⟩
      rw [hqe] at hcs hck ⊢
      have wS : IntKind.i64.wrap ((q : Int) + 1) = ((q + 1 : Nat) : Int) := by rw [IntWalk.i64_in _ (by omega)]; push_cast; rfl
      obtain ⟨q1, hq1⟩ : ∃ q1, q + 1 = q1 := ⟨_, rfl⟩
      rw [hq1] at wS
      have hb0 : (x != 0) = nzB l k := hnz.symm
      cases hv : nzB l k
      · rw [hv] at hcs hb0
        have Hcs := Lib.hid (show cntP (nzB l) (k + 1) = q by simpa using hcs)
        clear hcs hnz hxe hqe hv
        go_wp2
        go_roundw
        case rel => exact ⟨k + 1, by omega, by go_num, by rw [Hcs.out], by trivial⟩
        case measure => simp [intOf]; omega
      · rw [hv] at hcs hb0
        have Hcs := Lib.hid (show cntP (nzB l) (k + 1) = q1 by rw [hcs, ← hq1]; rfl)
        clear hcs hnz hxe hqe hv hq1
        go_wp2
        go_roundw
        case rel => exact ⟨k + 1, by omega, by go_num, by rw [Hcs.out], by trivial⟩
        case measure => simp [intOf]; omega
    · obtain rfl : k = l.length := by omega
      rw [← hq]
      have wS : IntKind.i64.wrap (((m + n : Nat) : Int) - (n : Int)) = (m : Int) := by rw [IntWalk.i64_in _ (by omega)]; omega
      obtain ⟨T, hT⟩ : ∃ T, m + n = T := ⟨_, rfl⟩
      rw [hT] at wS ⊢
      clear hq hT hcb
      go_wp2_with (go_at_call 49; (with_reducible refine (hbe _ (Below.refl _ _)).mono ?_); rintro e w1 ⟨rfl, b1⟩)
      go_ret
      exact ⟨rfl, b1⟩
end
end Go.Proofs.Ytomjlmhnjgohdaa
