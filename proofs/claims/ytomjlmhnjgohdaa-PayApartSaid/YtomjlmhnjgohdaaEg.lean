/- PayApart: the walk -/
import Derived.Test.YtomjlmhnjgohdaaIb
namespace Go.Proofs.Ytomjlmhnjgohdaa
set_option linter.unusedVariables false
set_option linter.unusedSimpArgs false
set_option linter.unnecessarySimpa false
open Go.RowKit Go.Flow Go.Shelf

set_option maxRecDepth 100000 in
set_option maxHeartbeats 8000000 in
theorem apart_a (aw1 : Option Addr) (ws1 : List Int) (cw1 : Nat) (aw2 : Option Addr) (ws2 : List Int) (cw2 : Nat) (mv1 mv2 : Int) (w : World) (hw1 : U16At w aw1 ws1) (nw1 : aw1 = none → cw1 = 0) (lw1 : ws1.length ≤ cw1) (mw1 : cw1 ≤ maxLen) (hu1 : ∀ n ∈ ws1, 0 ≤ n ∧ n ≤ 65535) (hw2 : U16At w aw2 ws2) (nw2 : aw2 = none → cw2 = 0) (lw2 : ws2.length ≤ cw2) (mw2 : cw2 ≤ maxLen) (hu2 : ∀ n ∈ ws2, 0 ≤ n ∧ n ≤ 65535) (hmv1 : 0 ≤ mv1 ∧ mv1 ≤ 255) (hmv2 : 0 ≤ mv2 ∧ mv2 ≤ 255) (hne : balsErr (owedL ws1 mv1.toNat ++ owedL ws2 mv2.toNat) ≠ 0) :
    Calls Try.prog 10 #[.slice aw1 ws1.length cw1, .slice aw2 ws2.length cw2, .int .u8 mv1, .int .u8 mv2] w fun e w' => e = .returned (.bool true) ∧ Below w.heap.size w w' := by
  have HU1 : Hid (U16s ws1) := Lib.hid hu1
  have hwl1 : ws1.length ≤ 9223372036854775807 := by unfold maxLen at mw1; omega
  obtain ⟨m1, rfl⟩ : ∃ m : Nat, mv1 = (m : Int) := ⟨mv1.toNat, by omega⟩
  have hmy1 : m1 ≤ 255 := by omega
  obtain ⟨L1, hL1⟩ : ∃ L, owedL ws1 m1 = L := ⟨_, rfl⟩
  have hLl1 := owed_len ws1 m1
  have h01 := owed_err ws1 m1
  rw [hL1] at hLl1 h01
  have HL1 := Lib.hid hL1
  have H01 := Lib.hid h01
  have lL1 : L1.length ≤ 1000 := by omega
  have HU2 : Hid (U16s ws2) := Lib.hid hu2
  have hwl2 : ws2.length ≤ 9223372036854775807 := by unfold maxLen at mw2; omega
  obtain ⟨m2, rfl⟩ : ∃ m : Nat, mv2 = (m : Int) := ⟨mv2.toNat, by omega⟩
  have hmy2 : m2 ≤ 255 := by omega
  obtain ⟨L2, hL2⟩ : ∃ L, owedL ws2 m2 = L := ⟨_, rfl⟩
  have hLl2 := owed_len ws2 m2
  have h02 := owed_err ws2 m2
  rw [hL2] at hLl2 h02
  have HL2 := Lib.hid hL2
  have H02 := Lib.hid h02
  have lL2 : L2.length ≤ 1000 := by omega
  obtain ⟨J, hJ⟩ : ∃ J, L1 ++ L2 = J := ⟨_, rfl⟩
  have hJl : L1.length + L2.length = J.length := by rw [← hJ, List.length_append]
  have lJ : J.length ≤ 1000 := by omega
  have HJ := Lib.hid hJ
  have HJl := Lib.hid hJl
  obtain ⟨E, hE⟩ : ∃ E, balsErr J = E := ⟨_, rfl⟩
  have HE := Lib.hid hE
  simp only [Int.toNat_natCast, hL1, hL2, hJ, hE] at hne
  have hne1 : (E != 0) = true := by simpa using hne
  clear hu1 lw1 mw1 hmv1 hu2 lw2 mw2 hmv2 hL1 hL2 h01 h02 hJ hJl hE hne
  go_enter Try.func10, Try.ntmps10
  go_wp2_with fail
  go_at_call 41
  refine (owed_eq aw1 ws1 cw1 m1 L1 HL1 _ (hw1.below (by (repeat (first | exact Below.refl _ _ | refine Below.alloc ?_ (by first | omega | (simp; done) | (simp; omega)) _ | refine Below.drew ?_ | refine Below.setCell ?_ (by first | omega | (simp; done) | (simp; omega)) _ | refine Below.trans ?_ (Below.mono (by assumption) (by first | omega | (simp; done) | (simp; omega))))))) HU1 hwl1 hmy1).mono ?_
  rintro e w1 ⟨⟨a1, c1, rfl, i1, n1⟩, b1⟩
  have t1 : Below w.heap.size w w1 := by (repeat (first | exact Below.refl _ _ | refine Below.alloc ?_ (by first | omega | (simp; done) | (simp; omega)) _ | refine Below.drew ?_ | refine Below.setCell ?_ (by first | omega | (simp; done) | (simp; omega)) _ | refine Below.trans ?_ (Below.mono (by assumption) (by first | omega | (simp; done) | (simp; omega)))))
  replace hw1 := hw1.below t1
  replace hw2 := hw2.below t1
  go_wp2_with fail
  go_at_call 41
  refine (owed_eq aw2 ws2 cw2 m2 L2 HL2 _ hw2 HU2 hwl2 hmy2).mono ?_
  rintro e w2 ⟨⟨a2, c2, rfl, i2, n2⟩, b2⟩
  have j2 : Below w1.heap.size w1 w2 := by (repeat (first | exact Below.refl _ _ | refine Below.alloc ?_ (by first | omega | (simp; done) | (simp; omega)) _ | refine Below.drew ?_ | refine Below.setCell ?_ (by first | omega | (simp; done) | (simp; omega)) _ | refine Below.trans ?_ (Below.mono (by assumption) (by first | omega | (simp; done) | (simp; omega)))))
  have t2 : Below w.heap.size w w2 := t1.trans (j2.mono t1.size)
  replace hw1 := hw1.below j2
  replace hw2 := hw2.below j2
  replace i1 := i1.below j2
  clear hw1 hw2
  have k1 := i1
  have k2 := i2
  go_wp2_with fail
  go_at_call 22
  refine (list_own a1 L1 c1 _ i1 lL1 n1).mono ?_
  rintro e w3 ⟨⟨a3, c3, rfl, o3⟩, b3⟩
  have j3 : Below w2.heap.size w2 w3 := by (repeat (first | exact Below.refl _ _ | refine Below.alloc ?_ (by first | omega | (simp; done) | (simp; omega)) _ | refine Below.drew ?_ | refine Below.setCell ?_ (by first | omega | (simp; done) | (simp; omega)) _ | refine Below.trans ?_ (Below.mono (by assumption) (by first | omega | (simp; done) | (simp; omega)))))
  have t3 : Below w.heap.size w w3 := t2.trans (j3.mono t2.size)
  replace i1 := i1.below j3
  replace i2 := i2.below j3
  go_wp2_with (at_builtin; refine wpList_app elInt rfl _ _ rfl w2.heap.size _ _ _ _ rfl o3 a2 L2.length c2 _ rfl (srcNone (none_nil i2 n2)) (by simp) (SrcAt.ints i2) (fun u hu => by obtain ⟨z, _, rfl⟩ := List.mem_map.1 hu; rfl) (by unfold maxLen; omega) (by omega) b3.size ?_; intro a9 c9 X9 o9 b9)
  rw [HJl.out] at o9 ⊢
  rw [← List.map_append, HJ.out] at o9
  have tt := t3.trans (b9.mono t2.size)
  replace i1 := k1.below (b3.trans b9)
  replace i2 := k2.below (b3.trans b9)
  have i9 := o9.ints.1
  have n9 : a9 = none → c9 = 0 := fun h => by subst h; exact o9.isnil.2
  clear o9 o3 k1 k2
  go_wp2_with fail
  go_at_call 34
  refine (rBals_eq a1 L1 c1 _ 0 H01 i1 lL1).mono ?_
  rintro e _ ⟨rfl, rfl⟩
  go_wp2_with fail
  go_at_call 34
  refine (rBals_eq a2 L2 c2 _ 0 H02 i2 lL2).mono ?_
  rintro e _ ⟨rfl, rfl⟩
  go_wp2_with fail
  go_at_call 34
  refine (rBals_eq a9 J c9 _ E HE i9 lJ).mono ?_
  rintro e _ ⟨rfl, rfl⟩
  go_wp2_with fail
  go_at_call 17
  refine (awake_any _).mono ?_
  rintro e y1 ⟨rfl, e1⟩
  have s1 : Below X9.heap.size X9 y1 := by (repeat (first | exact Below.refl _ _ | refine Below.alloc ?_ (by first | omega | (simp; done) | (simp; omega)) _ | refine Below.drew ?_ | refine Below.setCell ?_ (by first | omega | (simp; done) | (simp; omega)) _ | refine Below.trans ?_ (Below.mono (by assumption) (by first | omega | (simp; done) | (simp; omega)))))
  replace i1 := i1.below s1
  replace i2 := i2.below s1
  replace i9 := i9.below s1
  go_wp2_with fail
  go_ret
  exact ⟨rfl, tt.trans (s1.mono tt.size)⟩
set_option maxRecDepth 100000 in
set_option maxHeartbeats 8000000 in
theorem apart_b (aw1 : Option Addr) (ws1 : List Int) (cw1 : Nat) (aw2 : Option Addr) (ws2 : List Int) (cw2 : Nat) (mv1 mv2 : Int) (w : World) (hw1 : U16At w aw1 ws1) (nw1 : aw1 = none → cw1 = 0) (lw1 : ws1.length ≤ cw1) (mw1 : cw1 ≤ maxLen) (hu1 : ∀ n ∈ ws1, 0 ≤ n ∧ n ≤ 65535) (hw2 : U16At w aw2 ws2) (nw2 : aw2 = none → cw2 = 0) (lw2 : ws2.length ≤ cw2) (mw2 : cw2 ≤ maxLen) (hu2 : ∀ n ∈ ws2, 0 ≤ n ∧ n ≤ 65535) (hmv1 : 0 ≤ mv1 ∧ mv1 ≤ 255) (hmv2 : 0 ≤ mv2 ∧ mv2 ≤ 255) (h0 : balsErr (owedL ws1 mv1.toNat ++ owedL ws2 mv2.toNat) = 0) :
    Calls Try.prog 10 #[.slice aw1 ws1.length cw1, .slice aw2 ws2.length cw2, .int .u8 mv1, .int .u8 mv2] w fun e w' => e = .returned (.bool true) ∧ Below w.heap.size w w' := by
  have HU1 : Hid (U16s ws1) := Lib.hid hu1
  have hwl1 : ws1.length ≤ 9223372036854775807 := by unfold maxLen at mw1; omega
  obtain ⟨m1, rfl⟩ : ∃ m : Nat, mv1 = (m : Int) := ⟨mv1.toNat, by omega⟩
  have hmy1 : m1 ≤ 255 := by omega
  obtain ⟨L1, hL1⟩ : ∃ L, owedL ws1 m1 = L := ⟨_, rfl⟩
  have hLl1 := owed_len ws1 m1
  have h01 := owed_err ws1 m1
  rw [hL1] at hLl1 h01
  have HL1 := Lib.hid hL1
  have H01 := Lib.hid h01
  have lL1 : L1.length ≤ 1000 := by omega
  have HU2 : Hid (U16s ws2) := Lib.hid hu2
  have hwl2 : ws2.length ≤ 9223372036854775807 := by unfold maxLen at mw2; omega
  obtain ⟨m2, rfl⟩ : ∃ m : Nat, mv2 = (m : Int) := ⟨mv2.toNat, by omega⟩
  have hmy2 : m2 ≤ 255 := by omega
  obtain ⟨L2, hL2⟩ : ∃ L, owedL ws2 m2 = L := ⟨_, rfl⟩
  have hLl2 := owed_len ws2 m2
  have h02 := owed_err ws2 m2
  rw [hL2] at hLl2 h02
  have HL2 := Lib.hid hL2
  have H02 := Lib.hid h02
  have lL2 : L2.length ≤ 1000 := by omega
  obtain ⟨J, hJ⟩ : ∃ J, L1 ++ L2 = J := ⟨_, rfl⟩
  have hJl : L1.length + L2.length = J.length := by rw [← hJ, List.length_append]
  have lJ : J.length ≤ 1000 := by omega
  have HJ := Lib.hid hJ
  have HJl := Lib.hid hJl
  obtain ⟨E, hE⟩ : ∃ E, balsErr J = E := ⟨_, rfl⟩
  have HE := Lib.hid hE
  simp only [Int.toNat_natCast, hL1, hL2, hJ] at h0
  obtain rfl : E = 0 := by rw [← hE, h0]
  obtain ⟨NL, hNL⟩ : ∃ N, negL L1 = N := ⟨_, rfl⟩
  have hLm : ∀ k, -100000 ≤ L1.getD k 0 ∧ L1.getD k 0 ≤ 100000 := by
    intro k
    obtain ⟨_, _, hd, _⟩ := balsErr_ok h01
    by_cases hk : k < L1.length
    · have := debts hd _ (List.getElem_mem hk)
      rw [show L1.getD k 0 = L1[k] by simp [hk]]; exact this
    · rw [show L1.getD k 0 = 0 by rw [List.getD_eq_getElem?_getD, List.getElem?_eq_none (by omega)]; rfl]; omega
  have hN0 : balsErr NL = 0 := by
    obtain ⟨l7, ne, hd, hz⟩ := balsErr_ok h01
    rw [← hNL]
    refine balsErr_of (by rw [negL_len]; exact l7) (fun e => ne (by rw [← negL_negL L1, e]; rfl)) (fun x hx => ?_) ?_
    · obtain ⟨y, hy, rfl⟩ := List.mem_map.1 hx
      have := debts hd _ hy
      omega
    · have hs : ∀ l : List Int, (negL l).sum = - l.sum := fun l => by
        induction l with
        | nil => rfl
        | cons x t ih => simp only [negL, List.map_cons, List.sum_cons] at ih ⊢; rw [ih]; omega
      rw [hs, hz]; rfl
  have sj := settle_join h01 h02 (by rw [hJ]; exact h0)
  have sn := settle_neg h01 (by rw [hNL]; exact hN0)
  rw [hJ] at sj
  rw [hNL] at sn
  obtain ⟨SX, hX⟩ : ∃ S, settleL L1 = S := ⟨_, rfl⟩
  obtain ⟨SY, hY⟩ : ∃ S, settleL L2 = S := ⟨_, rfl⟩
  obtain ⟨SZ, hZ⟩ : ∃ S, settleL J = S := ⟨_, rfl⟩
  obtain ⟨SW, hW⟩ : ∃ S, settleL NL = S := ⟨_, rfl⟩
  have hbd : ∀ l : List Int, balsErr l = 0 → (settleL l).length ≤ 7 := fun l h => by
    obtain ⟨l1, _, d1, z1⟩ := balsErr_ok h
    have s1 := (settleL_ok (by omega) z1 (debts d1)).2
    have := cntP_bound (nzB l) l.length
    omega
  have bX1 := hbd _ h01
  have bX2 := hbd _ h02
  rw [hX, hY, hZ] at sj
  rw [hX, hW] at sn
  rw [hX] at bX1
  rw [hY] at bX2
  have wA1 : IntKind.i64.wrap ((SX.length : Int) + (SY.length : Int)) = (SX.length : Int) + (SY.length : Int) := IntWalk.i64_in _ (by omega)
  have f1 : decide ((SZ.length : Int) ≤ (SX.length : Int) + (SY.length : Int)) = true := by simp; omega
  have f2 : ((SW.length : Int) == (SX.length : Int)) = true := by simp; omega
  have HX := Lib.hid hX
  have HY := Lib.hid hY
  have HZ := Lib.hid hZ
  have HW := Lib.hid hW
  have HN0 := Lib.hid hN0
  have HN := Lib.hid hNL
  have HNl : Hid (L1.length = NL.length) := Lib.hid (by rw [← hNL, negL_len])
  have HLm := Lib.hid hLm
  clear hX hY hZ hW hN0 hNL sj sn hbd bX1 bX2 hLm
  clear hu1 lw1 mw1 hmv1 hu2 lw2 mw2 hmv2 hL1 hL2 h01 h02 hJ hJl hE h0
  go_enter Try.func10, Try.ntmps10
  go_wp2_with fail
  go_at_call 41
  refine (owed_eq aw1 ws1 cw1 m1 L1 HL1 _ (hw1.below (by (repeat (first | exact Below.refl _ _ | refine Below.alloc ?_ (by first | omega | (simp; done) | (simp; omega)) _ | refine Below.drew ?_ | refine Below.setCell ?_ (by first | omega | (simp; done) | (simp; omega)) _ | refine Below.trans ?_ (Below.mono (by assumption) (by first | omega | (simp; done) | (simp; omega))))))) HU1 hwl1 hmy1).mono ?_
  rintro e w1 ⟨⟨a1, c1, rfl, i1, n1⟩, b1⟩
  have t1 : Below w.heap.size w w1 := by (repeat (first | exact Below.refl _ _ | refine Below.alloc ?_ (by first | omega | (simp; done) | (simp; omega)) _ | refine Below.drew ?_ | refine Below.setCell ?_ (by first | omega | (simp; done) | (simp; omega)) _ | refine Below.trans ?_ (Below.mono (by assumption) (by first | omega | (simp; done) | (simp; omega)))))
  replace hw1 := hw1.below t1
  replace hw2 := hw2.below t1
  go_wp2_with fail
  go_at_call 41
  refine (owed_eq aw2 ws2 cw2 m2 L2 HL2 _ hw2 HU2 hwl2 hmy2).mono ?_
  rintro e w2 ⟨⟨a2, c2, rfl, i2, n2⟩, b2⟩
  have j2 : Below w1.heap.size w1 w2 := by (repeat (first | exact Below.refl _ _ | refine Below.alloc ?_ (by first | omega | (simp; done) | (simp; omega)) _ | refine Below.drew ?_ | refine Below.setCell ?_ (by first | omega | (simp; done) | (simp; omega)) _ | refine Below.trans ?_ (Below.mono (by assumption) (by first | omega | (simp; done) | (simp; omega)))))
  have t2 : Below w.heap.size w w2 := t1.trans (j2.mono t1.size)
  replace hw1 := hw1.below j2
  replace hw2 := hw2.below j2
  replace i1 := i1.below j2
  clear hw1 hw2
  have k1 := i1
  have k2 := i2
  go_wp2_with fail
  go_at_call 22
  refine (list_own a1 L1 c1 _ i1 lL1 n1).mono ?_
  rintro e w3 ⟨⟨a3, c3, rfl, o3⟩, b3⟩
  have j3 : Below w2.heap.size w2 w3 := by (repeat (first | exact Below.refl _ _ | refine Below.alloc ?_ (by first | omega | (simp; done) | (simp; omega)) _ | refine Below.drew ?_ | refine Below.setCell ?_ (by first | omega | (simp; done) | (simp; omega)) _ | refine Below.trans ?_ (Below.mono (by assumption) (by first | omega | (simp; done) | (simp; omega)))))
  have t3 : Below w.heap.size w w3 := t2.trans (j3.mono t2.size)
  replace i1 := i1.below j3
  replace i2 := i2.below j3
  go_wp2_with (at_builtin; refine wpList_app elInt rfl _ _ rfl w2.heap.size _ _ _ _ rfl o3 a2 L2.length c2 _ rfl (srcNone (none_nil i2 n2)) (by simp) (SrcAt.ints i2) (fun u hu => by obtain ⟨z, _, rfl⟩ := List.mem_map.1 hu; rfl) (by unfold maxLen; omega) (by omega) b3.size ?_; intro a9 c9 X9 o9 b9)
  rw [HJl.out] at o9 ⊢
  rw [← List.map_append, HJ.out] at o9
  have tt := t3.trans (b9.mono t2.size)
  replace i1 := k1.below (b3.trans b9)
  replace i2 := k2.below (b3.trans b9)
  have i9 := o9.ints.1
  have n9 : a9 = none → c9 = 0 := fun h => by subst h; exact o9.isnil.2
  clear o9 o3 k1 k2
  go_wp2_with fail
  go_at_call 34
  refine (rBals_eq a1 L1 c1 _ 0 H01 i1 lL1).mono ?_
  rintro e _ ⟨rfl, rfl⟩
  go_wp2_with fail
  go_at_call 34
  refine (rBals_eq a2 L2 c2 _ 0 H02 i2 lL2).mono ?_
  rintro e _ ⟨rfl, rfl⟩
  go_wp2_with fail
  go_at_call 34
  refine (rBals_eq a9 J c9 _ 0 HE i9 lJ).mono ?_
  rintro e _ ⟨rfl, rfl⟩
  go_wp2_with fail
  go_loopw [12, 13] (fun l v Y => ∃ (k : Nat) (ao : Option Addr) (co : Nat), k ≤ L1.length ∧ v = .int .i64 k ∧ l = .slice ao k co ∧ OwnL 3 1 X9.heap.size Y ao co k (((negL L1).take k).map (Value.int .i64)) ∧ Below X9.heap.size X9 Y) (fun _ v _ => L1.length - (intOf v).toNat)
  case atStart => exact ⟨0, none, 0, Nat.zero_le _, rfl, rfl, OwnL.nil _ _ _ _, Below.refl _ _⟩
  case round =>
    obtain ⟨k, ao, co, hk, rfl, rfl, own, hbY⟩ := hrel
    rename World => Y
    by_cases hlt : k < L1.length
    · have hkI : (k : Int) < (L1.length : Int) := by omega
      have hm := HLm.out k
      obtain ⟨b, off, rfl, hbl, hc⟩ := (i1.below hbY) k hlt
      have htk : (negL L1).take (k + 1) = (negL L1).take k ++ [-(L1.getD k 0)] := by
        rw [List.take_succ_eq_append_getElem (by rw [negL_len]; exact hlt)]
        have := negL_at L1 k
        rw [List.getD_eq_getElem?_getD, List.getElem?_eq_getElem (by rw [negL_len]; exact hlt), Option.getD_some] at this
        rw [this]
      obtain ⟨x, hx⟩ : ∃ x, L1.getD k 0 = x := ⟨_, rfl⟩
      rw [hx] at hc htk hm
      have Htk := Lib.hid htk
      have wN : IntKind.i64.wrap (-x) = -x := IntWalk.i64_in _ (by omega)
      clear hx htk hm
      go_wp2_with (at_builtin; refine wpList_app_lit_at elInt rfl _ _ rfl X9.heap.size ao k co _ rfl own 1 1 rfl rfl (fun u hu => by simp at hu; subst hu; rfl) (by unfold maxLen; omega) (by omega) hbY.size ?_; intro aQ cQ YQ oQ bQ _)
      have bQ2 := hbY.trans bQ
      go_wp2
      go_roundw
      case rel => exact ⟨k + 1, aQ, cQ, by omega, by go_num, rfl, by rw [Htk.out, List.map_append]; exact oQ, bQ2⟩
      case measure => simp [intOf]; omega
    · obtain rfl : k = L1.length := by omega
      have hnl := negL_len L1
      rw [show (negL L1).take L1.length = negL L1 by rw [← hnl, List.take_length]] at own
      have iN := own.ints.1
      rw [HN.out] at iN
      have nN : ao = none → co = 0 := fun h => by subst h; exact own.isnil.2
      replace i1 := i1.below hbY
      replace i2 := i2.below hbY
      replace i9 := i9.below hbY
      have tY := tt.trans (hbY.mono tt.size)
      clear own
      go_wp2_with fail
      go_at_call 22
      refine (list_eq _ a1 L1 c1 i1 lL1 n1).mono ?_
      rintro e y1 ⟨⟨aA, cA, rfl, iA, nA⟩, e1⟩
      have s1 : Below Y.heap.size Y y1 := by (repeat (first | exact Below.refl _ _ | refine Below.alloc ?_ (by first | omega | (simp; done) | (simp; omega)) _ | refine Below.drew ?_ | refine Below.setCell ?_ (by first | omega | (simp; done) | (simp; omega)) _ | refine Below.trans ?_ (Below.mono (by assumption) (by first | omega | (simp; done) | (simp; omega)))))
      replace i1 := i1.below s1
      replace i2 := i2.below s1
      replace i9 := i9.below s1
      replace iN := iN.below s1
      go_wp2_with fail
      go_at_call 31
      refine (settle_eq aA L1 cA _ SX H01 HX iA nA).mono ?_
      rintro e y2 ⟨⟨aX, cX, rfl, -⟩, e2⟩
      have r2 : Below y1.heap.size y1 y2 := by (repeat (first | exact Below.refl _ _ | refine Below.alloc ?_ (by first | omega | (simp; done) | (simp; omega)) _ | refine Below.drew ?_ | refine Below.setCell ?_ (by first | omega | (simp; done) | (simp; omega)) _ | refine Below.trans ?_ (Below.mono (by assumption) (by first | omega | (simp; done) | (simp; omega)))))
      have s2 : Below Y.heap.size Y y2 := s1.trans (r2.mono s1.size)
      replace i1 := i1.below r2
      replace i2 := i2.below r2
      replace i9 := i9.below r2
      replace iN := iN.below r2
      replace iA := iA.below r2
      clear iA
      go_wp2_with fail
      go_at_call 22
      refine (list_eq _ a2 L2 c2 i2 lL2 n2).mono ?_
      rintro e y3 ⟨⟨aB, cB, rfl, iB, nB⟩, e3⟩
      have r3 : Below y2.heap.size y2 y3 := by (repeat (first | exact Below.refl _ _ | refine Below.alloc ?_ (by first | omega | (simp; done) | (simp; omega)) _ | refine Below.drew ?_ | refine Below.setCell ?_ (by first | omega | (simp; done) | (simp; omega)) _ | refine Below.trans ?_ (Below.mono (by assumption) (by first | omega | (simp; done) | (simp; omega)))))
      have s3 : Below Y.heap.size Y y3 := s2.trans (r3.mono s2.size)
      replace i1 := i1.below r3
      replace i2 := i2.below r3
      replace i9 := i9.below r3
      replace iN := iN.below r3
      go_wp2_with fail
      go_at_call 31
      refine (settle_eq aB L2 cB _ SY H02 HY iB nB).mono ?_
      rintro e y4 ⟨⟨aY, cY, rfl, -⟩, e4⟩
      have r4 : Below y3.heap.size y3 y4 := by (repeat (first | exact Below.refl _ _ | refine Below.alloc ?_ (by first | omega | (simp; done) | (simp; omega)) _ | refine Below.drew ?_ | refine Below.setCell ?_ (by first | omega | (simp; done) | (simp; omega)) _ | refine Below.trans ?_ (Below.mono (by assumption) (by first | omega | (simp; done) | (simp; omega)))))
      have s4 : Below Y.heap.size Y y4 := s3.trans (r4.mono s3.size)
      replace i1 := i1.below r4
      replace i2 := i2.below r4
      replace i9 := i9.below r4
      replace iN := iN.below r4
      replace iB := iB.below r4
      clear iB
      go_wp2_with fail
      go_at_call 31
      refine (settle_eq a9 J c9 _ SZ HE HZ i9 n9).mono ?_
      rintro e y5 ⟨⟨aZ, cZ, rfl, -⟩, e5⟩
      have r5 : Below y4.heap.size y4 y5 := by (repeat (first | exact Below.refl _ _ | refine Below.alloc ?_ (by first | omega | (simp; done) | (simp; omega)) _ | refine Below.drew ?_ | refine Below.setCell ?_ (by first | omega | (simp; done) | (simp; omega)) _ | refine Below.trans ?_ (Below.mono (by assumption) (by first | omega | (simp; done) | (simp; omega)))))
      have s5 : Below Y.heap.size Y y5 := s4.trans (r5.mono s4.size)
      replace i1 := i1.below r5
      replace i2 := i2.below r5
      replace i9 := i9.below r5
      replace iN := iN.below r5
      clear i9
      rw [HNl.out]
      go_wp2_with fail
      go_at_call 31
      refine (settle_eq ao NL co _ SW HN0 HW iN nN).mono ?_
      rintro e y6 ⟨⟨aW, cW, rfl, -⟩, e6⟩
      have r6 : Below y5.heap.size y5 y6 := by (repeat (first | exact Below.refl _ _ | refine Below.alloc ?_ (by first | omega | (simp; done) | (simp; omega)) _ | refine Below.drew ?_ | refine Below.setCell ?_ (by first | omega | (simp; done) | (simp; omega)) _ | refine Below.trans ?_ (Below.mono (by assumption) (by first | omega | (simp; done) | (simp; omega)))))
      have s6 : Below Y.heap.size Y y6 := s5.trans (r6.mono s5.size)
      replace i1 := i1.below r6
      replace i2 := i2.below r6
      replace iN := iN.below r6
      clear iN
      go_wp2_with fail
      go_at_call 17
      refine (awake_any _).mono ?_
      rintro e y7 ⟨rfl, e7⟩
      have r7 : Below y6.heap.size y6 y7 := by (repeat (first | exact Below.refl _ _ | refine Below.alloc ?_ (by first | omega | (simp; done) | (simp; omega)) _ | refine Below.drew ?_ | refine Below.setCell ?_ (by first | omega | (simp; done) | (simp; omega)) _ | refine Below.trans ?_ (Below.mono (by assumption) (by first | omega | (simp; done) | (simp; omega)))))
      have s7 : Below Y.heap.size Y y7 := s6.trans (r7.mono s6.size)
      replace i1 := i1.below r7
      replace i2 := i2.below r7
      go_wp2_with fail
      go_ret
      exact ⟨rfl, tY.trans (s7.mono tY.size)⟩
theorem apart_walk (aw1 : Option Addr) (ws1 : List Int) (cw1 : Nat) (aw2 : Option Addr) (ws2 : List Int) (cw2 : Nat) (mv1 mv2 : Int) (w : World) (hw1 : U16At w aw1 ws1) (nw1 : aw1 = none → cw1 = 0) (lw1 : ws1.length ≤ cw1) (mw1 : cw1 ≤ maxLen) (hu1 : ∀ n ∈ ws1, 0 ≤ n ∧ n ≤ 65535) (hw2 : U16At w aw2 ws2) (nw2 : aw2 = none → cw2 = 0) (lw2 : ws2.length ≤ cw2) (mw2 : cw2 ≤ maxLen) (hu2 : ∀ n ∈ ws2, 0 ≤ n ∧ n ≤ 65535) (hmv1 : 0 ≤ mv1 ∧ mv1 ≤ 255) (hmv2 : 0 ≤ mv2 ∧ mv2 ≤ 255) :
    Calls Try.prog 10 #[.slice aw1 ws1.length cw1, .slice aw2 ws2.length cw2, .int .u8 mv1, .int .u8 mv2] w fun e w' => e = .returned (.bool true) ∧ Below w.heap.size w w' := by
  by_cases h0 : balsErr (owedL ws1 mv1.toNat ++ owedL ws2 mv2.toNat) = 0
  · exact apart_b aw1 ws1 cw1 aw2 ws2 cw2 mv1 mv2 w hw1 nw1 lw1 mw1 hu1 hw2 nw2 lw2 mw2 hu2 hmv1 hmv2 h0
  · exact apart_a aw1 ws1 cw1 aw2 ws2 cw2 mv1 mv2 w hw1 nw1 lw1 mw1 hu1 hw2 nw2 lw2 mw2 hu2 hmv1 hmv2 h0
end Go.Proofs.Ytomjlmhnjgohdaa
