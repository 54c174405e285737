/- flash: the reference's Fault, IsText, Signs; the law's Code -/
import Derived.Test.YtnofcpihkglmmaaFo
namespace Go.Proofs.Ytnofcpihkglmmaa
set_option linter.unusedVariables false
set_option linter.unusedSimpArgs false
set_option linter.unnecessarySimpa false
open Go.RowKit Go.Flow
def okL (ss : List ByteArray) (s : ByteArray) (i : Nat) : Bool := ((decide ((1 : Int) ≤ (s.size : Int)) && decide ((s.size : Int) ≤ 4)) && s.data.toList.all fun b => b == 46 || b == 45) && !((ss.take i).any fun y => y.toList == s.toList)
def okS (ss : List ByteArray) : Bool := (List.range ss.length).all fun i => okL ss (ss.getD i ⟨#[]⟩) i
def faultS (ss : List ByteArray) : Int := if 6 < ss.length then 3 else if okS ss = true then (if ss.length = 0 then 1 else 0) else 1
theorem codeOk_of {ss : List ByteArray} (h : faultS ss = 0) : CodeOk ss := by
  unfold faultS at h
  split at h
  · cases h
  · rename_i h6
    split at h
    · rename_i hok
      split at h
      · cases h
      · rename_i h0
        have hk : ∀ i (hi : i < ss.length), okL ss ss[i] i = true := fun i hi => by
          have := List.all_eq_true.1 hok i (List.mem_range.2 hi)
          rwa [List.getD_eq_getElem?_getD, List.getElem?_eq_getElem hi] at this
        have hk2 : ∀ s ∈ ss, ∃ i, okL ss s i = true := fun s hs => by
          obtain ⟨i, hi, rfl⟩ := List.getElem_of_mem hs
          exact ⟨i, hk i hi⟩
        refine ⟨by omega, by omega, fun s hs => ?_, fun s hs => ?_, fun k hlt => ?_⟩
        · obtain ⟨i, hi⟩ := hk2 s hs
          simp only [okL, Bool.and_eq_true] at hi
          unfold letterB
          rw [Bool.and_eq_true, Bool.and_eq_true]
          refine ⟨hi.1.1, List.all_eq_true.2 fun b hb => ?_⟩
          have := List.all_eq_true.1 hi.1.2 b hb
          simp at this ⊢
          exact this
        · obtain ⟨i, hi⟩ := hk2 s hs
          simp only [okL, Bool.and_eq_true, decide_eq_true_eq] at hi
          omega
        · have := hk k hlt
          simp only [okL, Bool.and_eq_true, Bool.not_eq_true'] at this
          rw [List.any_eq_false] at *
          intro y hy
          have := this.2 y hy
          rw [Bool.beq_comm]
          exact this
    · cases h
section
variable (a : Option Addr) (ss : List ByteArray) (c : Nat) (w : World) (hx : StrsAt w a ss) (hl : ss.length ≤ 1000) (hz : ∀ x ∈ ss, x.size ≤ 1000000)
include hx hl hz
set_option maxRecDepth 100000 in
set_option maxHeartbeats 4000000 in
theorem f2Fault : Calls Try.prog 5 #[.agg #[.slice a ss.length c]] w fun e w' => e = .returned (.int .i64 (faultS ss)) ∧ Below w.heap.size w w' := by
  have hb : Below w.heap.size w (w.alloc (.cells #[.slice a ss.length c] 24)) := by (repeat (first | exact Below.refl _ _ | refine Below.alloc ?_ (by first | omega | (simp; done) | (simp; omega)) _ | refine Below.drew ?_ | refine Below.setCell ?_ (by first | omega | (simp; done) | (simp; omega)) _ | refine Below.trans ?_ (Below.mono (by assumption) (by first | omega | (simp; done) | (simp; omega)))))
  have C0 := Cells.new w #[.slice a ss.length c] 24
  have hx1 := hx.below hb
  obtain ⟨W, hW⟩ : ∃ z : World, z = w.alloc (.cells #[.slice a ss.length c] 24) := ⟨_, rfl⟩
  rw [← hW] at hb C0 hx1
  have q0 := C0.cell 0
  simp at q0
  have lq := C0.lt
  have hin := fun x => f2In x 1 4 W
  obtain ⟨R, hR⟩ : ∃ R, faultS ss = R := ⟨_, rfl⟩
  rw [hR]
  have HR := Lib.hid hR
  have HW := Lib.hid hW
  have Hz := Lib.hid hz
  clear hW C0 hR hx hz
  by_cases h6 : 6 < ss.length
  · have h6I : (6 : Int) < (ss.length : Int) := by omega
    have hR : R = 3 := by rw [← HR.out, faultS, if_pos h6]
    subst hR
    go_enter Try.func5, Try.ntmps5
    go_upto_region 1 with fail
    rw [← HW.out]
    go_wp2
    go_ret
    exact ⟨rfl, hb⟩
  · have h6I : ¬ (6 : Int) < (ss.length : Int) := by omega
    go_enter Try.func5, Try.ntmps5
    go_upto_region 1 with fail
    rw [← HW.out]
    go_upto_region 4 with fail
    go_loopw [3] (fun i X => ∃ k : Nat, k ≤ ss.length ∧ i = .int .i64 k ∧ X = W ∧ ∀ j, j < k → okL ss (ss.getD j ⟨#[]⟩) j = true) (fun u _ => ss.length - (intOf u).toNat)
    case atStart => exact ⟨0, by omega, rfl, rfl, fun j h => absurd h (by omega)⟩
    case round =>
      obtain ⟨k, hk, rfl, rfl, hall⟩ := hrel
      have Hall := Lib.hid hall
      clear hall
      by_cases hlt : k < ss.length
      · have hkI : (k : Int) < (ss.length : Int) := by omega
        obtain ⟨b0, o0, rfl, lb, hc⟩ := hx1 k hlt
        have hxs := Hz.out ss[k] (List.getElem_mem hlt)
        obtain ⟨x, hxe⟩ : ∃ x, ss[k] = x := ⟨_, rfl⟩
        rw [hxe] at hc hxs
        have Hxe : Hid (ss.getD k ⟨#[]⟩ = x) := Lib.hid (by rw [List.getD_eq_getElem?_getD, List.getElem?_eq_getElem hlt]; exact hxe)
        clear hxe
        -- a letter that is wrong
        have hbad : okL ss x k = false → R = 1 := fun h => by
          rw [← HR.out, faultS, if_neg h6, if_neg]
          rw [Bool.not_eq_true]
          exact List.all_eq_false.2 ⟨k, List.mem_range.2 hlt, by rw [Hxe.out, h]; simp⟩
        have Hbad := Lib.hid hbad
        clear hbad
        have hi := hin (x.size : Int)
        obtain ⟨q, hq⟩ : ∃ q, (decide ((1 : Int) ≤ (x.size : Int)) && decide ((x.size : Int) ≤ 4)) = q := ⟨_, rfl⟩
        rw [hq] at hi
        have Hq := Lib.hid hq
        clear hq
        cases q
        · have hR : R = 1 := Hbad.out (by unfold okL; rw [Hq.out]; rfl)
          subst hR
          go_wp2_with (go_at_call 15; refine hi.mono ?_; rintro _ _ ⟨rfl, rfl⟩)
          go_ret
          exact ⟨rfl, hb⟩
        · go_upto_region 10 with (go_at_call 15; refine hi.mono ?_; rintro _ _ ⟨rfl, rfl⟩)
          clear hi hin
          have hby : ∀ j, (hj : j < x.size) → x.data.toList.getD j 0 = x[j] := fun j hj => by
            rw [List.getD_eq_getElem?_getD, List.getElem?_eq_getElem (by simp; exact hj)]
            simp
            rfl
          have Hby := Lib.hid hby
          clear hby
          go_loopw [5] (fun i X => ∃ j : Nat, j ≤ x.size ∧ i = .int .i64 j ∧ X = wr ∧ ∀ t, t < j → (x.data.toList.getD t 0 == 46 || x.data.toList.getD t 0 == 45) = true) (fun u _ => x.size - (intOf u).toNat)
          case atStart => exact ⟨0, by omega, rfl, rfl, fun j h => absurd h (by omega)⟩
          case round =>
            obtain ⟨j, hj, rfl, hwr, hal2⟩ := hrel
            subst hwr
            have Hal2 := Lib.hid hal2
            clear hal2
            by_cases hjl : j < x.size
            · have hjI : (j : Int) < (x.size : Int) := by omega
              have hj0 : (0 : Int) ≤ (j : Int) := by omega
              have hy := Hby.out j hjl
              have e46 := u8_eq x[j] 46 (by omega)
              have e45 := u8_eq x[j] 45 (by omega)
              cases h46 : ((x[j].toNat : Int) == 46)
              · cases h45 : ((x[j].toNat : Int) == 45)
                · have hR : R = 1 := Hbad.out (by
                    unfold okL
                    have : (x.data.toList.all fun b => b == 46 || b == 45) = false := List.all_eq_false.2 ⟨x[j], by
                      rw [← hy, List.getD_eq_getElem?_getD, List.getElem?_eq_getElem (by simp; exact hjl)]
                      exact List.getElem_mem _, by
                      rw [show (x[j] == 46) = false from e46.symm.trans h46, show (x[j] == 45) = false from e45.symm.trans h45]; simp⟩
                    rw [this, Bool.and_false, Bool.false_and])
                  subst hR
                  have n46 : ((x[j].toNat : Int) != 46) = true := by rw [bne, h46]; rfl
                  have n45 : ((x[j].toNat : Int) != 45) = true := by rw [bne, h45]; rfl
                  clear e46 e45 hy h46 h45
                  go_wp2
                  go_ret
                  exact ⟨rfl, hb⟩
                · have hok : (x.data.toList.getD j 0 == 46 || x.data.toList.getD j 0 == 45) = true := by rw [hy, show (x[j] == 45) = true from e45.symm.trans h45, Bool.or_true]
                  have Hok := Lib.hid hok
                  have n46 : ((x[j].toNat : Int) != 46) = true := by rw [bne, h46]; rfl
                  have n45 : ((x[j].toNat : Int) != 45) = false := by rw [bne, h45]; rfl
                  clear e46 e45 hy hok h46 h45
                  go_wp2
                  go_roundw
                  case rel => exact ⟨j + 1, by omega, by go_num, by trivial, fun t ht => by
                    rcases Nat.lt_or_ge t j with h | h
                    · exact Hal2.out t h
                    · obtain rfl : t = j := by omega
                      exact Hok.out⟩
                  case measure => simp [intOf]; omega
              · have hok : (x.data.toList.getD j 0 == 46 || x.data.toList.getD j 0 == 45) = true := by rw [hy, show (x[j] == 46) = true from e46.symm.trans h46, Bool.true_or]
                have Hok := Lib.hid hok
                have n46 : ((x[j].toNat : Int) != 46) = false := by rw [bne, h46]; rfl
                clear e46 e45 hy hok h46
                go_wp2
                go_roundw
                case rel => exact ⟨j + 1, by omega, by go_num, by trivial, fun t ht => by
                  rcases Nat.lt_or_ge t j with h | h
                  · exact Hal2.out t h
                  · obtain rfl : t = j := by omega
                    exact Hok.out⟩
                case measure => simp [intOf]; omega
            · obtain rfl : j = x.size := by omega
              have hjI : ¬ (x.size : Int) < (x.size : Int) := by omega
              have hall1 : (x.data.toList.all fun b => b == 46 || b == 45) = true := List.all_eq_true.2 fun b hb => by
                obtain ⟨t, ht, rfl⟩ := List.getElem_of_mem hb
                have := Hal2.out t (by simpa using ht)
                rwa [List.getD_eq_getElem?_getD, List.getElem?_eq_getElem ht] at this
              have Hall1 := Lib.hid hall1
              clear hall1
              go_upto_region 15 with fail
              go_loopw [6] (fun i X => ∃ j : Nat, j ≤ k ∧ i = .int .i64 j ∧ X = wr ∧ ∀ t, t < j → ((ss.getD t ⟨#[]⟩).toList == x.toList) = false) (fun u _ => k - (intOf u).toNat)
              case atStart => exact ⟨0, by omega, rfl, rfl, fun j h => absurd h (by omega)⟩
              case round =>
                obtain ⟨j, hj, rfl, hwr, hal3⟩ := hrel
                subst hwr
                have Hal3 := Lib.hid hal3
                clear hal3
                by_cases hjk : j < k
                · have hjkI : (j : Int) < (k : Int) := by omega
                  have hjl : j < ss.length := by omega
                  have hjlI : (j : Int) < (ss.length : Int) := by omega
                  obtain ⟨b1, o1, e1, lb1, hc1⟩ := hx1 j hjl
                  obtain ⟨rfl, rfl⟩ : b0 = b1 ∧ o0 = o1 := by simpa using e1
                  obtain ⟨y, hye⟩ : ∃ y, ss[j] = y := ⟨_, rfl⟩
                  rw [hye] at hc1
                  have Hye : Hid (ss.getD j ⟨#[]⟩ = y) := Lib.hid (by rw [List.getD_eq_getElem?_getD, List.getElem?_eq_getElem hjl]; exact hye)
                  have Hym : Hid (y ∈ ss.take k) := Lib.hid (by rw [← hye]; exact List.mem_take_iff_getElem.2 ⟨j, by omega, rfl⟩)
                  clear hye e1
                  cases hyx : (y.toList == x.toList)
                  · go_wp2
                    go_roundw
                    case rel => exact ⟨j + 1, by omega, by go_num, by trivial, fun t ht => by
                      rcases Nat.lt_or_ge t j with h | h
                      · exact Hal3.out t h
                      · obtain rfl : t = j := by omega
                        rw [Hye.out]; exact hyx⟩
                    case measure => simp [intOf]; omega
                  · have hR : R = 1 := Hbad.out (by
                      unfold okL
                      rw [show ((ss.take k).any fun y => y.toList == x.toList) = true from List.any_eq_true.2 ⟨y, Hym.out, hyx⟩]
                      simp)
                    subst hR
                    go_wp2
                    go_ret
                    exact ⟨rfl, hb⟩
                · obtain rfl : j = k := by omega
                  have hjkI : ¬ (j : Int) < (j : Int) := by omega
                  have hok : okL ss x j = true := by
                    unfold okL
                    rw [Hq.out, Hall1.out, show ((ss.take j).any fun y => y.toList == x.toList) = false from List.any_eq_false.2 fun y hy => by
                      obtain ⟨t, ht, rfl⟩ := List.mem_take_iff_getElem.1 hy
                      have := Hal3.out t (by omega)
                      rw [List.getD_eq_getElem?_getD, List.getElem?_eq_getElem (by omega)] at this
                      simpa using this]
                    rfl
                  have Hok := Lib.hid hok
                  clear hok
                  go_wp2
                  go_roundw
                  case rel => exact ⟨j + 1, by omega, by go_num, by trivial, fun t ht => by
                    rcases Nat.lt_or_ge t j with h | h
                    · exact Hall.out t h
                    · obtain rfl : t = j := by omega
                      rw [Hxe.out]; exact Hok.out⟩
                  case measure => simp [intOf]; omega
      · obtain rfl : k = ss.length := by omega
        have hkI : ¬ (ss.length : Int) < (ss.length : Int) := by omega
        have hok : okS ss = true := List.all_eq_true.2 fun i hi => Hall.out i (List.mem_range.1 hi)
        cases h0 : ((ss.length : Int) == 0)
        · have hR : R = 0 := by
            rw [← HR.out, faultS, if_neg h6, if_pos hok, if_neg]
            intro e
            rw [e] at h0
            cases h0
          subst hR
          go_wp2
          go_ret
          exact ⟨rfl, hb⟩
        · have hR : R = 1 := by
            rw [← HR.out, faultS, if_neg h6, if_pos hok, if_pos (by simpa using h0)]
          subst hR
          go_wp2
          go_ret
          exact ⟨rfl, hb⟩
end
end Go.Proofs.Ytnofcpihkglmmaa
