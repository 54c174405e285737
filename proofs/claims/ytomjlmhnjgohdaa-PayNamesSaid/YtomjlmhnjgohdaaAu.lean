/- pay: the sums of all sets -/
import Derived.Test.YtomjlmhnjgohdaaAo
import Derived.Test.YtomjlmhnjgohdaaAn
import Derived.Test.YtomjlmhnjgohdaaCep
import Derived.Test.YtomjlmhnjgohdaaBb
import Derived.Test.YtomjlmhnjgohdaaFlo
import Derived.Laws.Rows
import Derived.Laws.Tables
namespace Go.Proofs.Ytomjlmhnjgohdaa
set_option linter.unusedVariables false
set_option linter.unusedSimpArgs false
set_option linter.unnecessarySimpa false
open Go.RowKit Go.Flow Go.Shelf

/-- The sums of the first s sets. -/
def sumA (l : List Int) (s : Nat) : Array Value := ((List.range 128).map fun k => Value.int .i64 (if k < s then sumM l k else 0)).toArray
theorem sumA_size (l : List Int) (s : Nat) : (sumA l s).size = 128 := by simp [sumA]
theorem sumA_get (l : List Int) (s k : Nat) (hk : k < 128) : (sumA l s)[k]? = some (.int .i64 (if k < s then sumM l k else 0)) := by simp [sumA, hk]
theorem sumA_step (l : List Int) (s : Nat) (hs : s < 128) : (sumA l s).setIfInBounds s (.int .i64 (sumM l s)) = sumA l (s + 1) := by
  apply Array.ext_getElem?
  intro k
  rw [Array.getElem?_setIfInBounds, sumA_size]
  by_cases h : s = k
  · subst h
    rw [if_pos rfl, if_pos hs, sumA_get _ _ _ hs, if_pos (by omega)]
  · rw [if_neg h]
    by_cases hk : k < 128
    · rw [sumA_get _ _ _ hk, sumA_get _ _ _ hk]
      by_cases h2 : k < s
      · rw [if_pos h2, if_pos (by omega)]
      · rw [if_neg h2, if_neg (by omega)]
    · rw [Array.getElem?_eq_none (by rw [sumA_size]; omega), Array.getElem?_eq_none (by rw [sumA_size]; omega)]
theorem sumM_zero (l : List Int) : sumM l 0 = 0 := sumP_none _ fun i _ h => by simp at h
theorem sumA_one (l : List Int) : sumA l 1 = Array.replicate 128 (.int .i64 0) := by
  apply Array.ext_getElem?
  intro k
  by_cases hk : k < 128
  · rw [sumA_get _ _ _ hk]
    have : (if k < 1 then sumM l k else 0) = 0 := by
      split
      · obtain rfl : k = 0 := by omega
        exact sumM_zero l
      · rfl
    rw [this]; simp [hk]
  · rw [Array.getElem?_eq_none (by rw [sumA_size]; omega), Array.getElem?_eq_none (by simp; omega)]
theorem sumA_oneCell (l : List Int) (s : Nat) : ((sumA l s).all fun x => x.oneCell') = true := by
  rw [← Array.all_toList, List.all_eq_true]
  intro v hv
  simp only [sumA, List.mem_map] at hv
  obtain ⟨k, _, rfl⟩ := hv
  rfl
theorem two_pow_bit (f i : Nat) : (2 ^ f).testBit i = decide (f = i) := Nat.testBit_two_pow
theorem single_sub {s f : Nat} (h : s.testBit f = true) : 2 ^ f &&& s = 2 ^ f := sub_of_bit fun i hi => by
  rw [two_pow_bit] at hi
  obtain rfl : f = i := by simpa using hi
  exact h
theorem sumM_single (l : List Int) {f : Nat} (hf : f < l.length) : sumM l (2 ^ f) = l[f] := by
  have e : sumM l (2 ^ f) = sumP l (fun i => i == f) l.length := sumP_congr _ fun i _ => by
    rw [two_pow_bit]
    by_cases h : f = i
    · simp [h]
    · simp [h, Ne.symm h]
  rw [e, sumP_one, if_pos hf]; simp [hf]
theorem sumM_first {l : List Int} {s f : Nat} (h : s.testBit f = true) (hf : f < l.length) : sumM l s = sumM l (s ^^^ 2 ^ f) + l[f] := by
  rw [sumM_xor (single_sub h), sumM_single l hf]; omega
theorem bits_andNot_nat (a b : Nat) (ha : a < 1024) (hs : b &&& a = b) : bits .andNot .u64 (a : Int) (b : Int) = ((a ^^^ b : Nat) : Int) := by
  have hb : b < 1024 := by
    have : b &&& a ≤ a := Nat.and_le_right
    omega
  have hle := sub_xor a b hs
  have h1 : (BitVec.ofInt 64 (a : Int)).toNat = a := by
    rw [BitVec.ofInt_natCast, BitVec.toNat_ofNat]; exact Nat.mod_eq_of_lt (by omega)
  have h2 : (BitVec.ofInt 64 (b : Int)).toNat = b := by
    rw [BitVec.ofInt_natCast, BitVec.toNat_ofNat]; exact Nat.mod_eq_of_lt (by omega)
  show IntKind.u64.wrap ((BitVec.ofInt 64 (a : Int) &&& ~~~ BitVec.ofInt 64 (b : Int)).toNat : Int) = _
  have e : a &&& (2 ^ 64 - 1 - b) = a ^^^ b := by
    apply Nat.eq_of_testBit_eq
    intro i
    rw [Nat.testBit_and, Nat.testBit_xor, show 2 ^ 64 - 1 - b = 2 ^ 64 - (b + 1) by omega, Nat.testBit_two_pow_sub_succ (show b < 2 ^ 64 by omega)]
    cases hb : b.testBit i
    · cases hA : a.testBit i
      · rfl
      · have : i < 64 := by
          rcases Nat.lt_or_ge i 64 with h | h
          · exact h
          · rw [Nat.testBit_lt_two_pow (Nat.lt_of_lt_of_le ha (by have := Nat.pow_le_pow_right (n := 2) (by omega) h; omega))] at hA
            cases hA
        simp [this]
    · simp [sub_bit hs hb]
  rw [BitVec.toNat_and, BitVec.toNat_not, h1, h2, e, IntKind.wrap_u64]
  omega
theorem sumP_bd {l : List Int} (h : ∀ x ∈ l, -100000 ≤ x ∧ x ≤ 100000) (p : Nat → Bool) : ∀ n, n ≤ l.length → -100000 * (n : Int) ≤ sumP l p n ∧ sumP l p n ≤ 100000 * (n : Int)
  | 0, _ => by simp [sumP]
  | n + 1, hn => by
    have ih := sumP_bd h p n (by omega)
    have hx := h (l.getD n 0) (by rw [List.getD_eq_getElem?_getD, List.getElem?_eq_getElem (by omega)]; exact List.getElem_mem _)
    rw [sumP]
    push_cast
    split <;> omega
theorem sumM_bd {l : List Int} (hl : l.length ≤ 7) (h : ∀ x ∈ l, -100000 ≤ x ∧ x ≤ 100000) (S : Nat) : -700000 ≤ sumM l S ∧ sumM l S ≤ 700000 := by
  have := sumP_bd h S.testBit l.length (Nat.le_refl _)
  unfold sumM
  omega
theorem debts {l : List Int} (hd : l.all debtB = true) : ∀ x ∈ l, -100000 ≤ x ∧ x ≤ 100000 := fun x hx => inR_iff.1 (List.all_eq_true.1 hd x hx)
theorem pow_wrap {n p : Nat} (h : 2 ^ n = p) (hp : p ≤ 1000) : IntKind.u64.wrap (2 ^ n) = (p : Int) := by
  have e : ((2 : Int) ^ n) = ((2 ^ n : Nat) : Int) := by push_cast; rfl
  rw [e, h]
  exact IntWalk.u64_in _ (by omega)
theorem setN_first {S : Nat} (h0 : S ≠ 0) (hS : S < 1024) : 0 < (setN S 10).length ∧ (setN S 10).getD 0 0 = (fstB S : Int) := by
  have hf := fstB_bit h0 hS
  have hm : (List.range 10).filter S.testBit ≠ [] := by
    obtain ⟨i, hi⟩ := bit_of_ne h0
    have hi10 : i < 10 := by
      rcases Nat.lt_or_ge i 10 with h | h
      · exact h
      · rw [Nat.testBit_lt_two_pow (Nat.lt_of_lt_of_le hS (Nat.pow_le_pow_right (n := 2) (by omega) h))] at hi
        cases hi
    intro e
    have : i ∈ (List.range 10).filter S.testBit := List.mem_filter.2 ⟨List.mem_range.2 hi10, hi⟩
    rw [e] at this; simp at this
  unfold setN fstB
  cases hf : (List.range 10).filter S.testBit with
  | nil => exact absurd hf hm
  | cons x t => simp
set_option maxRecDepth 100000 in
set_option maxHeartbeats 2000000 in
theorem sumsOf_any (a : Option Addr) (l : List Int) (c : Nat) (w : World) (hx : IntsAt w a l) (hl : l.length ≤ 7) (hd : l.all debtB = true) :
    Calls Try.prog 87 #[.slice a l.length c] w fun e w' => e = .returned (.agg (sumA l (2 ^ l.length))) ∧ Below w.heap.size w w' := by
  have h128 : 2 ^ l.length ≤ 128 := Nat.pow_le_pow_right (n := 2) (by omega) hl
  have hpos : 1 ≤ 2 ^ l.length := Nat.two_pow_pos _
  obtain ⟨M, hM⟩ : ∃ M, 2 ^ l.length = M := ⟨_, rfl⟩
  rw [hM] at h128 hpos ⊢
  have HM := Lib.hid hM
  clear hM
  go_enter Try.func87, Try.ntmps87
  go_wp2
  have hZ : Try.zeroCells135 = sumA l 1 := by rw [sumA_one]; kernel_rfl
  obtain ⟨W0, hW0⟩ : ∃ z : World, z = w.alloc (.cells Try.zeroCells135 135) := ⟨_, rfl⟩
  have b0 : Below w.heap.size w W0 := by rw [hW0]; exact (Below.refl _ _).alloc (Nat.le_refl _) _
  have C0 : Cells W0 w.heap.size (sumA l 1) 135 := by rw [hW0, hZ]; exact Cells.new _ _ _
  rw [← hW0]
  clear hW0 hZ
  go_loopw [3, 4] (fun u _ X => ∃ s : Nat, 1 ≤ s ∧ s ≤ M ∧ u = .int .u64 (s : Int) ∧ Below w.heap.size w X ∧ Cells X w.heap.size (sumA l s) 135) (fun u _ _ => M - (intOf u).toNat)
  case atStart => exact ⟨1, Nat.le_refl _, hpos, rfl, b0, C0⟩
  case round =>
    obtain ⟨s, h1, hs, rfl, hb, CS⟩ := hrel
    have wsh : IntKind.u64.wrap (2 ^ l.length) = (M : Int) := pow_wrap HM.out (by omega)
    by_cases hlt : s < M
    · have hsI : (s : Int) < (M : Int) := by omega
      have hf := fstB_bit (S := s) (by omega) (by omega)
      obtain ⟨hp, hg⟩ := setN_first (S := s) (by omega) (by omega)
      obtain ⟨f, hfe⟩ : ∃ f, fstB s = f := ⟨_, rfl⟩
      rw [hfe] at hf hg
      have hfl : f < l.length := by
        rcases Nat.lt_or_ge f l.length with h | h
        · exact h
        · have := HM.out
          rw [Nat.testBit_lt_two_pow (Nat.lt_of_lt_of_le (show s < 2 ^ l.length by omega) (Nat.pow_le_pow_right (n := 2) (by omega) h))] at hf
          cases hf
      have hsub := single_sub hf
      have hsm := sumM_first hf hfl
      obtain ⟨p, hpe⟩ : ∃ p, 2 ^ f = p := ⟨_, rfl⟩
      have hp128 : p ≤ 128 := by rw [← hpe]; have : 2 ^ f ≤ 2 ^ 7 := Nat.pow_le_pow_right (by omega) (by omega); omega
      have wsf : IntKind.u64.wrap (2 ^ f) = (p : Int) := pow_wrap hpe (by omega)
      rw [hpe] at hsub hsm
      have hr := sub_xor s p hsub
      have hp0 : p ≠ 0 := by rw [← hpe]; exact Nat.ne_of_gt (Nat.two_pow_pos f)
      have wan := bits_andNot_nat s p (by omega) hsub
      obtain ⟨r, hre⟩ : ∃ r, s ^^^ p = r := ⟨_, rfl⟩
      rw [hre] at hr hsm wan
      have cr := CS.cell r
      rw [sumA_get _ _ _ (by omega), if_pos (by omega)] at cr
      have hrb := sumM_bd hl (debts hd) r
      have hsb := sumM_bd hl (debts hd) s
      obtain ⟨b, off, rfl, hbl, hc⟩ := (hx.below hb) f hfl
      replace hc := hc.trans (show some (Value.int .i64 (l.getD f 0)) = some (.int .i64 l[f]) by simp [hfl])
      have hst := sumA_step l s (by omega)
      obtain ⟨x, hxe⟩ : ∃ x, l[f] = x := ⟨_, rfl⟩
      obtain ⟨v, hve⟩ : ∃ v, sumM l r = v := ⟨_, rfl⟩
      rw [hxe] at hc hsm
      rw [hve] at cr hsm hrb
      have wS : IntKind.i64.wrap (v + x) = v + x := IntWalk.i64_in _ (by omega)
      have hlo := setList_any s wr (by omega)
      obtain ⟨q, hq⟩ : ∃ q, setN s 10 = q := ⟨_, rfl⟩
      rw [hq] at hlo hp hg
      have Hst := Lib.hid hst
      have Hsm := Lib.hid hsm
      have Hg := Lib.hid hg
      have hfI : (f : Int) < (l.length : Int) := by omega
      have hrI : (r : Int) < 128 := by omega
      have hs128 : (s : Int) < 128 := by omega
      have hwlt := CS.lt
      have hqI : (0 : Int) < (q.length : Int) := by omega
      have hr128 : r < 128 := by omega
      have hsN128 : s < 128 := by omega
      clear hst hsm hg hq hxe hve hre hpe hfe hf hsub
      go_wp2_with fail
      go_at_call 66
      refine hlo.mono ?_
      rintro e w2 ⟨⟨ar, cr2, rfl, own⟩, b2⟩
      obtain ⟨hi, _⟩ := own.ints
      obtain ⟨b3, o3, h3, l3, c3⟩ := hi 0 hp
      rw [Hg.out, Nat.add_zero] at c3
      subst h3
      replace cr := below_cell b2 cr
      replace hc := below_cell b2 hc
      have C2 := CS.below b2
      have cs := C2.cell s
      have l2 := C2.lt
      have hbl2 := Nat.lt_of_lt_of_le hbl b2.size
      rw [sumA_get _ _ _ (by omega)] at cs
      have ff := C2.frozen s
      have bb := hb.trans (b2.mono hb.size)
      go_wp2
      (refine wp_region_seq 17 [] [17] 32 [true, true, true, true, true, true, true, true, true, true, true, true, true, true, true, true, true] [] (by kernel_rfl) (by kernel_rfl) rfl mono_nil ?_; simp only [pickOps, List.filterMap_cons, List.filterMap_nil, List.getElem?_toArray, List.getElem?_cons_succ, List.getElem?_cons_zero]; (repeat (refine wpFl_step _ rfl (fun w => (by go_simp; rfl)) ?_)); refine wpFl_nil ?_; simp only [maskOps, dummy, Act.put, List.setIfInBounds_toArray, List.set_cons_zero, List.set_cons_succ, List.take_succ_cons, List.take_zero, List.drop_succ_cons, List.drop_zero]; (repeat (refine wpQB_step (fun K hK => ?_); go_simp; first | (refine hK _ ?_; clear hK K) | (apply Exists.intro; refine ⟨fun ex => ?_, hK _ ?_⟩; (fail); clear hK K))); refine wpQB_nil ?_; simp only [relObl2, under, relEnd, and_true, List.nil_append, List.cons_append])
      refine ⟨trivial, fun e => ?_⟩
      have b5 := e.below
      obtain ⟨w5, hw5⟩ : ∃ x : World, x = e.to := ⟨_, rfl⟩
      rw [← hw5] at b5 ⊢
      clear hw5 e
      have C5 := C2.below b5
      have cs5 := C5.cell s
      rw [sumA_get _ _ _ hsN128] at cs5
      have ff5 := C5.frozen s
      have l5 := C5.lt
      have bb5 := bb.trans (b5.mono bb.size)
      clear cr hc c3 cs ff l3 hbl2
      go_wp2
      go_roundw
      case rel => exact ⟨s + 1, by omega, by omega, by go_num, bb5.setCell (p := ⟨w.heap.size, s, none⟩) (Nat.le_refl _) _, by rw [← Hst.out, Hsm.out]; exact C5.set s _⟩
      case measure => simp [intOf]; omega
    · obtain rfl : s = M := by omega
      go_wp2
      refine wp_load_row 135 (.tmp 2) rfl w.heap.size rfl 135 _ (0, 0) _ CS Try.underlying135 rfl (by rw [sumA_size]; kernel_rfl) ?_
      go_step
      go_step
      refine wp_store_row 135 (.tmp 2) (.tmp 31) rfl w.heap.size _ rfl rfl 135 _ CS (by rw [sumA_size]; kernel_rfl) (by rw [sumA_size]) (sumA_oneCell l s) ?_
      go_wp2
      refine bodyPost_ret (v := .agg (sumA l s)) ?_ rfl ⟨rfl, below_setRow hb (Nat.le_refl _) _⟩
      exact results_cell_row rfl _ _ w.heap.size 135 _ (0, 0) _ rfl (setRow_heap _ _ _ _ _ _ CS) Try.underlying135 rfl (by rw [sumA_size]; kernel_rfl)
end Go.Proofs.Ytomjlmhnjgohdaa
