/- PayGroups: the walk -/
import Derived.Test.YtomjlmhnjgohdaaEc
import Derived.Test.YtomjlmhnjgohdaaHa
namespace Go.Proofs.Ytomjlmhnjgohdaa
set_option linter.unusedVariables false
set_option linter.unusedSimpArgs false
set_option linter.unnecessarySimpa false
open Go.RowKit Go.Flow Go.Shelf

section
variable (a : Option Addr) (l : List Int) (c : Nat) (w : World)
theorem groupsBad_eq (E : Int) (HE : Hid (balsErr l = E)) (hne : E ≠ 0) (hx : IntsAt w a l) (hl : l.length ≤ 1000) : Calls Try.prog 45 #[.slice a l.length c] w fun e w' => e = .returned (.tuple #[.slice none 0 0, .int .i64 E]) ∧ Below w.heap.size w w' :=
  Groups_bad a l c w hx hl E HE.out hne
theorem groups_eq (S : List (List Int)) (H0 : Hid (balsErr l = 0)) (HS : Hid (groupsL l = S)) (hx : IntsAt w a l) : Calls Try.prog 45 #[.slice a l.length c] w fun e w' => (∃ ao co, e = .returned (.tuple #[.slice ao S.length co, .int .i64 0]) ∧ ListsAt w' ao S) ∧ Below w.heap.size w w' := by
  rw [← HS.out]
  exact Groups_good a l c w hx H0.out
theorem proveG_eq (P : Bool) (ag : Option Addr) (gs : List (List Int)) (cg : Nat) (many : Int) (HP : Hid (proveG l gs many = P)) (hx : IntsAt w a l) (hl : l.length ≤ 1000) (hg : ListsAt w ag gs) (hgl : gs.length ≤ 1000) (HG : Hid (∀ g ∈ gs, g.length ≤ 1000)) : Calls Try.prog 46 #[.slice a l.length c, .slice ag gs.length cg, .int .i64 many] w fun e w' => e = .returned (.bool P) ∧ Below w.heap.size w w' := by
  rw [← HP.out]
  exact ProveGroups_any a l c ag gs cg many w hx hl hg hgl HG.out
theorem rAre_eq (Q : Bool) (ag : Option Addr) (gs : List (List Int)) (cg : Nat) (H0 : Hid (balsErr l = 0)) (HQ : Hid (areG l gs 0 = Q)) (hx : IntsAt w a l) (hg : ListsAt w ag gs) (hgl : gs.length ≤ 1000) (HG : Hid (∀ g ∈ gs, g.length ≤ 1000)) : Calls Try.prog 48 #[.slice a l.length c, .slice ag gs.length cg] w fun e w' => e = .returned (.bool Q) ∧ Below w.heap.size w w' := by
  rw [← HQ.out]
  exact rAreGroups_any a l c ag gs cg w hx H0.out hg hgl HG.out
theorem lists_eq (ag : Option Addr) (gs : List (List Int)) (cg : Nat) (hg : ListsN w ag gs) (hgl : gs.length ≤ 1000) (HG : Hid (∀ g ∈ gs, g.length ≤ 1000)) : Calls Try.prog 47 #[.slice ag gs.length cg] w fun e w' => (∃ a c, e = .returned (.slice a gs.length c) ∧ ListsAt w' a gs) ∧ Below w.heap.size w w' := lists_any ag gs cg w hg hgl HG.out
end

set_option maxRecDepth 100000 in
set_option maxHeartbeats 8000000 in
theorem groups_a1 (a : Option Addr) (l : List Int) (c : Nat) (ag : Option Addr) (gs : List (List Int)) (cg : Nat) (many : Int) (w : World) (hx : IntsAt w a l) (nx : a = none → c = 0) (lc : l.length ≤ c) (mc : c ≤ maxLen) (hg : ListsN w ag gs) (ng : ag = none → cg = 0) (lg : gs.length ≤ cg) (mg : cg ≤ maxLen) (gm : ∀ g ∈ gs, g.length ≤ maxLen) (h9 : ¬ l.length ≤ 9) :
    Calls Try.prog 13 #[.slice a l.length c, .slice ag gs.length cg, .int .i64 many] w fun e w' => e = .returned (.bool true) ∧ Below w.heap.size w w' := by
  unfold maxLen at mc mg
  have q1 : l.length ≤ 9223372036854775807 := by omega
  have q2 : gs.length ≤ 9223372036854775807 := by omega
  have h9d : decide ((9 : Int) < (l.length : Int)) = true := by simp; omega
  clear lc mc lg mg gm
  go_enter Try.func13, Try.ntmps13
  go_wp2_with fail
  go_at_call 17
  refine (awake_any _).mono ?_
  rintro e w1 ⟨rfl, b1⟩
  have t1 : Below w.heap.size w w1 := by (repeat (first | exact Below.refl _ _ | refine Below.alloc ?_ (by first | omega | (simp; done) | (simp; omega)) _ | refine Below.drew ?_ | refine Below.setCell ?_ (by first | omega | (simp; done) | (simp; omega)) _ | refine Below.trans ?_ (Below.mono (by assumption) (by first | omega | (simp; done) | (simp; omega)))))
  replace hx := hx.below t1
  replace hg := hg.below t1
  go_wp2_with fail
  go_ret
  exact ⟨rfl, t1⟩
set_option maxRecDepth 100000 in
set_option maxHeartbeats 8000000 in
theorem groups_a2 (a : Option Addr) (l : List Int) (c : Nat) (ag : Option Addr) (gs : List (List Int)) (cg : Nat) (many : Int) (w : World) (hx : IntsAt w a l) (nx : a = none → c = 0) (lc : l.length ≤ c) (mc : c ≤ maxLen) (hg : ListsN w ag gs) (ng : ag = none → cg = 0) (lg : gs.length ≤ cg) (mg : cg ≤ maxLen) (gm : ∀ g ∈ gs, g.length ≤ maxLen) (h9 : l.length ≤ 9) (h12 : ¬ gs.length ≤ 9) :
    Calls Try.prog 13 #[.slice a l.length c, .slice ag gs.length cg, .int .i64 many] w fun e w' => e = .returned (.bool true) ∧ Below w.heap.size w w' := by
  unfold maxLen at mc mg
  have q1 : l.length ≤ 9223372036854775807 := by omega
  have q2 : gs.length ≤ 9223372036854775807 := by omega
  have h9d : decide ((9 : Int) < (l.length : Int)) = false := by simp; omega
  have h12d : decide ((9 : Int) < (gs.length : Int)) = true := by simp; omega
  clear lc mc lg mg gm
  go_enter Try.func13, Try.ntmps13
  go_wp2_with fail
  go_at_call 17
  refine (awake_any _).mono ?_
  rintro e w1 ⟨rfl, b1⟩
  have t1 : Below w.heap.size w w1 := by (repeat (first | exact Below.refl _ _ | refine Below.alloc ?_ (by first | omega | (simp; done) | (simp; omega)) _ | refine Below.drew ?_ | refine Below.setCell ?_ (by first | omega | (simp; done) | (simp; omega)) _ | refine Below.trans ?_ (Below.mono (by assumption) (by first | omega | (simp; done) | (simp; omega)))))
  replace hx := hx.below t1
  replace hg := hg.below t1
  go_wp2_with fail
  go_ret
  exact ⟨rfl, t1⟩
set_option maxRecDepth 100000 in
set_option maxHeartbeats 8000000 in
theorem groups_a3 (a : Option Addr) (l : List Int) (c : Nat) (ag : Option Addr) (gs : List (List Int)) (cg : Nat) (many : Int) (w : World) (hx : IntsAt w a l) (nx : a = none → c = 0) (lc : l.length ≤ c) (mc : c ≤ maxLen) (hg : ListsN w ag gs) (ng : ag = none → cg = 0) (lg : gs.length ≤ cg) (mg : cg ≤ maxLen) (gm : ∀ g ∈ gs, g.length ≤ maxLen) (h9 : l.length ≤ 9) (h12 : gs.length ≤ 9) (hG : ¬ ∀ g ∈ gs, g.length ≤ 9) :
    Calls Try.prog 13 #[.slice a l.length c, .slice ag gs.length cg, .int .i64 many] w fun e w' => e = .returned (.bool true) ∧ Below w.heap.size w w' := by
  have h9d : decide ((9 : Int) < (l.length : Int)) = false := by simp; omega
  have h12d : decide ((9 : Int) < (gs.length : Int)) = false := by simp; omega
  have HGn : Hid (¬ ∀ g ∈ gs, g.length ≤ 9) := Lib.hid hG
  have GM : Hid (∀ g ∈ gs, g.length ≤ maxLen) := Lib.hid gm
  clear lc mc lg mg gm hG
  go_enter Try.func13, Try.ntmps13
  go_wp2_with fail
  go_loopw [7] (fun v X => ∃ k : Nat, k ≤ gs.length ∧ v = .int .i64 k ∧ w = X ∧ Hid (∀ (j : Nat) (h : j < gs.length), j < k → gs[j].length ≤ 9)) (fun v _ => gs.length - (intOf v).toNat)
  case atStart => exact ⟨0, Nat.zero_le _, rfl, rfl, Lib.hid fun j _ h => absurd h (Nat.not_lt_zero _)⟩
  case round =>
    obtain ⟨k, hk, rfl, rfl, HI⟩ := hrel
    by_cases hlt : k < gs.length
    · have hkI : (k : Int) < (gs.length : Int) := by omega
      obtain ⟨b, off, al, cl, rfl, hbl, hc, hI, hnl⟩ := hg k hlt
      have gmk := GM.out _ (List.getElem_mem hlt)
      unfold maxLen at gmk
      have HI2 : gs[k].length ≤ 9 → Hid (∀ (j : Nat) (h : j < gs.length), j < k + 1 → gs[j].length ≤ 9) := fun h => Lib.hid fun j hj hjk => by
        by_cases e : j = k
        · subst e; exact h
        · exact HI.out j hj (by omega)
      obtain ⟨g, hge⟩ : ∃ g, gs[k] = g := ⟨_, rfl⟩
      rw [hge] at hc hI gmk HI2
      clear hge
      by_cases hg9 : g.length ≤ 9
      · have hg9d : decide ((9 : Int) < (g.length : Int)) = false := by simp; omega
        replace HI2 := HI2 hg9
        go_wp2
        go_roundw
        case rel => exact ⟨k + 1, by omega, by go_num, (by trivial), HI2⟩
        case measure => simp [intOf]; omega
      · have hg9d : decide ((9 : Int) < (g.length : Int)) = true := by simp; omega
        clear HI2
        go_wp2_with fail
        go_at_call 17
        refine (awake_any _).mono ?_
        rintro e w1 ⟨rfl, b1⟩
        go_wp2_with fail
        go_ret
        exact ⟨rfl, b1⟩
    · exact absurd (fun g hgm => by
        obtain ⟨j, hj, rfl⟩ := List.mem_iff_getElem.1 hgm
        exact HI.out j hj (by omega)) HGn.out
set_option maxRecDepth 100000 in
set_option maxHeartbeats 8000000 in
theorem groups_b (a : Option Addr) (l : List Int) (c : Nat) (ag : Option Addr) (gs : List (List Int)) (cg : Nat) (many : Int) (w : World) (hx : IntsAt w a l) (nx : a = none → c = 0) (lc : l.length ≤ c) (mc : c ≤ maxLen) (hg : ListsN w ag gs) (ng : ag = none → cg = 0) (lg : gs.length ≤ cg) (mg : cg ≤ maxLen) (gm : ∀ g ∈ gs, g.length ≤ maxLen) (h9 : l.length ≤ 9) (h12 : gs.length ≤ 9) (hG : ∀ g ∈ gs, g.length ≤ 9) (E : Int) (hE : balsErr l = E) (hne : E ≠ 0) :
    Calls Try.prog 13 #[.slice a l.length c, .slice ag gs.length cg, .int .i64 many] w fun e w' => e = .returned (.bool true) ∧ Below w.heap.size w w' := by
  have h9d : decide ((9 : Int) < (l.length : Int)) = false := by simp; omega
  have h12d : decide ((9 : Int) < (gs.length : Int)) = false := by simp; omega
  have hl : l.length ≤ 1000 := by omega
  have hgl : gs.length ≤ 1000 := by omega
  have G9 : Hid (∀ g ∈ gs, g.length ≤ 9) := Lib.hid hG
  have HG : Hid (∀ g ∈ gs, g.length ≤ 1000) := Lib.hid fun g h => Nat.le_trans (hG g h) (by omega)
  clear lc mc lg mg gm hG
  have HP : Hid (proveG l gs many = false) := Lib.hid (by rw [proveG, hE]; simp [hne])
  have HE := Lib.hid hE
  have hne1 : (E != 0) = true := by simpa using hne
  have hne2 : (E == 0) = false := by simpa using hne
  clear hE h9 h12
  go_enter Try.func13, Try.ntmps13
  go_wp2_with fail
  go_loopw [7] (fun v X => ∃ k : Nat, k ≤ gs.length ∧ v = .int .i64 k ∧ w = X ∧ True) (fun v _ => gs.length - (intOf v).toNat)
  case atStart => exact ⟨0, Nat.zero_le _, rfl, rfl, trivial⟩
  case round =>
    obtain ⟨k, hk, rfl, rfl, _⟩ := hrel
    by_cases hlt : k < gs.length
    · have hkI : (k : Int) < (gs.length : Int) := by omega
      obtain ⟨b, off, al, cl, rfl, hbl, hc, hI, hnl⟩ := hg k hlt
      have gmk := G9.out _ (List.getElem_mem hlt)
      obtain ⟨g, hge⟩ : ∃ g, gs[k] = g := ⟨_, rfl⟩
      rw [hge] at hc hI gmk
      clear hge
      have hg9d : decide ((9 : Int) < (g.length : Int)) = false := by simp; omega
      go_wp2
      go_roundw
      case rel => exact ⟨k + 1, by omega, by go_num, (by trivial), trivial⟩
      case measure => simp [intOf]; omega
    · obtain rfl : k = gs.length := by omega
      go_wp2_with fail
      go_at_call 22
      refine (list_eq _ a l c hx hl nx).mono ?_
      rintro e w1 ⟨⟨aA, cA, rfl, iA, nA⟩, b1⟩
      have t1 : Below w.heap.size w w1 := by (repeat (first | exact Below.refl _ _ | refine Below.alloc ?_ (by first | omega | (simp; done) | (simp; omega)) _ | refine Below.drew ?_ | refine Below.setCell ?_ (by first | omega | (simp; done) | (simp; omega)) _ | refine Below.trans ?_ (Below.mono (by assumption) (by first | omega | (simp; done) | (simp; omega)))))
      replace hx := hx.below t1
      replace hg := hg.below t1
      go_wp2_with fail
      go_at_call 45
      refine (groupsBad_eq aA l cA _ E HE hne iA hl).mono ?_
      rintro e w2 ⟨rfl, b2⟩
      have j2 : Below w1.heap.size w1 w2 := by (repeat (first | exact Below.refl _ _ | refine Below.alloc ?_ (by first | omega | (simp; done) | (simp; omega)) _ | refine Below.drew ?_ | refine Below.setCell ?_ (by first | omega | (simp; done) | (simp; omega)) _ | refine Below.trans ?_ (Below.mono (by assumption) (by first | omega | (simp; done) | (simp; omega)))))
      have t2 : Below w.heap.size w w2 := t1.trans (j2.mono t1.size)
      replace hx := hx.below j2
      replace hg := hg.below j2
      replace iA := iA.below j2
      clear iA
      go_wp2_with fail
      go_at_call 22
      refine (list_eq _ a l c hx hl nx).mono ?_
      rintro e w3 ⟨⟨aB, cB, rfl, iB, nB⟩, b3⟩
      have j3 : Below w2.heap.size w2 w3 := by (repeat (first | exact Below.refl _ _ | refine Below.alloc ?_ (by first | omega | (simp; done) | (simp; omega)) _ | refine Below.drew ?_ | refine Below.setCell ?_ (by first | omega | (simp; done) | (simp; omega)) _ | refine Below.trans ?_ (Below.mono (by assumption) (by first | omega | (simp; done) | (simp; omega)))))
      have t3 : Below w.heap.size w w3 := t2.trans (j3.mono t2.size)
      replace hx := hx.below j3
      replace hg := hg.below j3
      go_wp2_with fail
      go_at_call 47
      refine (lists_eq _ ag gs cg hg hgl HG).mono ?_
      rintro e w4 ⟨⟨aP, cP, rfl, iP⟩, b4⟩
      have j4 : Below w3.heap.size w3 w4 := by (repeat (first | exact Below.refl _ _ | refine Below.alloc ?_ (by first | omega | (simp; done) | (simp; omega)) _ | refine Below.drew ?_ | refine Below.setCell ?_ (by first | omega | (simp; done) | (simp; omega)) _ | refine Below.trans ?_ (Below.mono (by assumption) (by first | omega | (simp; done) | (simp; omega)))))
      have t4 : Below w.heap.size w w4 := t3.trans (j4.mono t3.size)
      replace hx := hx.below j4
      replace hg := hg.below j4
      replace iB := iB.below j4
      go_wp2_with fail
      go_at_call 46
      refine (proveG_eq aB l cB _ false aP gs cP many HP iB hl iP hgl HG).mono ?_
      rintro e w5 ⟨rfl, b5⟩
      have j5 : Below w4.heap.size w4 w5 := by (repeat (first | exact Below.refl _ _ | refine Below.alloc ?_ (by first | omega | (simp; done) | (simp; omega)) _ | refine Below.drew ?_ | refine Below.setCell ?_ (by first | omega | (simp; done) | (simp; omega)) _ | refine Below.trans ?_ (Below.mono (by assumption) (by first | omega | (simp; done) | (simp; omega)))))
      have t5 : Below w.heap.size w w5 := t4.trans (j5.mono t4.size)
      replace hx := hx.below j5
      replace hg := hg.below j5
      replace iB := iB.below j5
      replace iP := iP.below j5
      clear iB iP
      go_wp2_with fail
      go_at_call 34
      refine (rBals_eq a l c _ E HE hx hl).mono ?_
      rintro e _ ⟨rfl, rfl⟩
      go_wp2_with fail
      go_at_call 17
      refine (awake_any _).mono ?_
      rintro e w6 ⟨rfl, b6⟩
      have j6 : Below w5.heap.size w5 w6 := by (repeat (first | exact Below.refl _ _ | refine Below.alloc ?_ (by first | omega | (simp; done) | (simp; omega)) _ | refine Below.drew ?_ | refine Below.setCell ?_ (by first | omega | (simp; done) | (simp; omega)) _ | refine Below.trans ?_ (Below.mono (by assumption) (by first | omega | (simp; done) | (simp; omega)))))
      have t6 : Below w.heap.size w w6 := t5.trans (j6.mono t5.size)
      replace hx := hx.below j6
      replace hg := hg.below j6
      go_wp2_with fail
      go_ret
      exact ⟨rfl, t6⟩
set_option maxRecDepth 100000 in
set_option maxHeartbeats 8000000 in
theorem groups_c (a : Option Addr) (l : List Int) (c : Nat) (ag : Option Addr) (gs : List (List Int)) (cg : Nat) (many : Int) (w : World) (hx : IntsAt w a l) (nx : a = none → c = 0) (lc : l.length ≤ c) (mc : c ≤ maxLen) (hg : ListsN w ag gs) (ng : ag = none → cg = 0) (lg : gs.length ≤ cg) (mg : cg ≤ maxLen) (gm : ∀ g ∈ gs, g.length ≤ maxLen) (h9 : l.length ≤ 9) (h12 : gs.length ≤ 9) (hG : ∀ g ∈ gs, g.length ≤ 9) (h0 : balsErr l = 0) (hq : areG l gs 0 = false) :
    Calls Try.prog 13 #[.slice a l.length c, .slice ag gs.length cg, .int .i64 many] w fun e w' => e = .returned (.bool true) ∧ Below w.heap.size w w' := by
  have h9d : decide ((9 : Int) < (l.length : Int)) = false := by simp; omega
  have h12d : decide ((9 : Int) < (gs.length : Int)) = false := by simp; omega
  have hl : l.length ≤ 1000 := by omega
  have hgl : gs.length ≤ 1000 := by omega
  have G9 : Hid (∀ g ∈ gs, g.length ≤ 9) := Lib.hid hG
  have HG : Hid (∀ g ∈ gs, g.length ≤ 1000) := Lib.hid fun g h => Nat.le_trans (hG g h) (by omega)
  clear lc mc lg mg gm hG
  obtain ⟨hl7, hne, hd, hz⟩ := balsErr_ok h0
  obtain ⟨S, hS⟩ : ∃ S, groupsL l = S := ⟨_, rfl⟩
  have hgn : (groupsL l).length = (grpL l).length := by simp [groupsL]
  have hSl : S.length ≤ 127 := by
    have := grpL_len hl7 hz
    rw [← hS, hgn]; omega
  have HS := Lib.hid hS
  have HSn : Hid ((grpL l).length = S.length) := Lib.hid (by rw [← hS, hgn])
  have HSo : Hid (areG l S 0 = true) := Lib.hid (by rw [← hS]; exact groupsL_are hl7 hz)
  have SR : Hid (∀ i, i < S.length → 0 < (S.getD i []).length ∧ (i + 1 < S.length → 0 < (S.getD (i + 1) []).length ∧ (S.getD i []).getD 0 0 < (S.getD (i + 1) []).getD 0 0)) := Lib.hid fun i hi => by
    rw [← hS] at hi ⊢
    exact groupsL_rise hl7 hz hi
  have S9 : Hid (∀ g ∈ S, g.length ≤ 1000) := Lib.hid fun g h => by
    rw [← hS] at h
    unfold groupsL at h
    obtain ⟨s, _, rfl⟩ := List.mem_map.1 h
    have := setN_len s 10
    omega
  have H0 := Lib.hid h0
  have HQ := Lib.hid hq
  have HP : Hid (proveG l gs many = false) := Lib.hid (by rw [proveG, hq]; simp)
  clear hq
  clear hS h0 hd hz hne h9 h12 hl7 hgn
  go_enter Try.func13, Try.ntmps13
  go_wp2_with fail
  go_loopw [7] (fun v X => ∃ k : Nat, k ≤ gs.length ∧ v = .int .i64 k ∧ w = X ∧ True) (fun v _ => gs.length - (intOf v).toNat)
  case atStart => exact ⟨0, Nat.zero_le _, rfl, rfl, trivial⟩
  case round =>
    obtain ⟨k, hk, rfl, rfl, _⟩ := hrel
    by_cases hlt : k < gs.length
    · have hkI : (k : Int) < (gs.length : Int) := by omega
      obtain ⟨b, off, al, cl, rfl, hbl, hc, hI, hnl⟩ := hg k hlt
      have gmk := G9.out _ (List.getElem_mem hlt)
      obtain ⟨g, hge⟩ : ∃ g, gs[k] = g := ⟨_, rfl⟩
      rw [hge] at hc hI gmk
      clear hge
      have hg9d : decide ((9 : Int) < (g.length : Int)) = false := by simp; omega
      go_wp2
      go_roundw
      case rel => exact ⟨k + 1, by omega, by go_num, (by trivial), trivial⟩
      case measure => simp [intOf]; omega
    · obtain rfl : k = gs.length := by omega
      go_wp2_with fail
      go_at_call 22
      refine (list_eq _ a l c hx hl nx).mono ?_
      rintro e w1 ⟨⟨aA, cA, rfl, iA, nA⟩, b1⟩
      have t1 : Below w.heap.size w w1 := by (repeat (first | exact Below.refl _ _ | refine Below.alloc ?_ (by first | omega | (simp; done) | (simp; omega)) _ | refine Below.drew ?_ | refine Below.setCell ?_ (by first | omega | (simp; done) | (simp; omega)) _ | refine Below.trans ?_ (Below.mono (by assumption) (by first | omega | (simp; done) | (simp; omega)))))
      replace hx := hx.below t1
      replace hg := hg.below t1
      go_wp2_with fail
      go_at_call 45
      refine (groups_eq aA l cA _ S H0 HS iA).mono ?_
      rintro e w2 ⟨⟨aX, cX, rfl, iX⟩, b2⟩
      have j2 : Below w1.heap.size w1 w2 := by (repeat (first | exact Below.refl _ _ | refine Below.alloc ?_ (by first | omega | (simp; done) | (simp; omega)) _ | refine Below.drew ?_ | refine Below.setCell ?_ (by first | omega | (simp; done) | (simp; omega)) _ | refine Below.trans ?_ (Below.mono (by assumption) (by first | omega | (simp; done) | (simp; omega)))))
      have t2 : Below w.heap.size w w2 := t1.trans (j2.mono t1.size)
      replace hx := hx.below j2
      replace hg := hg.below j2
      replace iA := iA.below j2
      clear iA
      go_wp2_with fail
      go_at_call 22
      refine (list_eq _ a l c hx hl nx).mono ?_
      rintro e w3 ⟨⟨aB, cB, rfl, iB, nB⟩, b3⟩
      have j3 : Below w2.heap.size w2 w3 := by (repeat (first | exact Below.refl _ _ | refine Below.alloc ?_ (by first | omega | (simp; done) | (simp; omega)) _ | refine Below.drew ?_ | refine Below.setCell ?_ (by first | omega | (simp; done) | (simp; omega)) _ | refine Below.trans ?_ (Below.mono (by assumption) (by first | omega | (simp; done) | (simp; omega)))))
      have t3 : Below w.heap.size w w3 := t2.trans (j3.mono t2.size)
      replace hx := hx.below j3
      replace hg := hg.below j3
      replace iX := iX.below j3
      go_wp2_with fail
      go_at_call 47
      refine (lists_eq _ ag gs cg hg hgl HG).mono ?_
      rintro e w4 ⟨⟨aP, cP, rfl, iP⟩, b4⟩
      have j4 : Below w3.heap.size w3 w4 := by (repeat (first | exact Below.refl _ _ | refine Below.alloc ?_ (by first | omega | (simp; done) | (simp; omega)) _ | refine Below.drew ?_ | refine Below.setCell ?_ (by first | omega | (simp; done) | (simp; omega)) _ | refine Below.trans ?_ (Below.mono (by assumption) (by first | omega | (simp; done) | (simp; omega)))))
      have t4 : Below w.heap.size w w4 := t3.trans (j4.mono t3.size)
      replace hx := hx.below j4
      replace hg := hg.below j4
      replace iX := iX.below j4
      replace iB := iB.below j4
      go_wp2_with fail
      go_at_call 46
      refine (proveG_eq aB l cB _ false aP gs cP many HP iB hl iP hgl HG).mono ?_
      rintro e w5 ⟨rfl, b5⟩
      have j5 : Below w4.heap.size w4 w5 := by (repeat (first | exact Below.refl _ _ | refine Below.alloc ?_ (by first | omega | (simp; done) | (simp; omega)) _ | refine Below.drew ?_ | refine Below.setCell ?_ (by first | omega | (simp; done) | (simp; omega)) _ | refine Below.trans ?_ (Below.mono (by assumption) (by first | omega | (simp; done) | (simp; omega)))))
      have t5 : Below w.heap.size w w5 := t4.trans (j5.mono t4.size)
      replace hx := hx.below j5
      replace hg := hg.below j5
      replace iX := iX.below j5
      replace iB := iB.below j5
      replace iP := iP.below j5
      clear iB iP
      go_wp2_with fail
      go_at_call 34
      refine (rBals_eq a l c _ 0 H0 hx hl).mono ?_
      rintro e _ ⟨rfl, rfl⟩
      go_wp2_with fail
      go_at_call 48
      refine (rAre_eq a l c _ false ag gs cg H0 HQ hx hg.to hgl HG).mono ?_
      rintro e w6 ⟨rfl, b6⟩
      have j6 : Below w5.heap.size w5 w6 := by (repeat (first | exact Below.refl _ _ | refine Below.alloc ?_ (by first | omega | (simp; done) | (simp; omega)) _ | refine Below.drew ?_ | refine Below.setCell ?_ (by first | omega | (simp; done) | (simp; omega)) _ | refine Below.trans ?_ (Below.mono (by assumption) (by first | omega | (simp; done) | (simp; omega)))))
      have t6 : Below w.heap.size w w6 := t5.trans (j6.mono t5.size)
      replace hx := hx.below j6
      replace hg := hg.below j6
      replace iX := iX.below j6
      go_wp2_with fail
      go_at_call 49
      refine (rBest_eq a l c _ S.length H0 HSn hx).mono ?_
      rintro e w7 ⟨rfl, b7⟩
      have j7 : Below w6.heap.size w6 w7 := by (repeat (first | exact Below.refl _ _ | refine Below.alloc ?_ (by first | omega | (simp; done) | (simp; omega)) _ | refine Below.drew ?_ | refine Below.setCell ?_ (by first | omega | (simp; done) | (simp; omega)) _ | refine Below.trans ?_ (Below.mono (by assumption) (by first | omega | (simp; done) | (simp; omega)))))
      have t7 : Below w.heap.size w w7 := t6.trans (j7.mono t6.size)
      replace hx := hx.below j7
      replace hg := hg.below j7
      replace iX := iX.below j7
      go_wp2_with fail
      go_at_call 48
      refine (rAre_eq a l c _ true aX S cX H0 HSo hx iX (by omega) S9).mono ?_
      rintro e w8 ⟨rfl, b8⟩
      have j8 : Below w7.heap.size w7 w8 := by (repeat (first | exact Below.refl _ _ | refine Below.alloc ?_ (by first | omega | (simp; done) | (simp; omega)) _ | refine Below.drew ?_ | refine Below.setCell ?_ (by first | omega | (simp; done) | (simp; omega)) _ | refine Below.trans ?_ (Below.mono (by assumption) (by first | omega | (simp; done) | (simp; omega)))))
      have t8 : Below w.heap.size w w8 := t7.trans (j8.mono t7.size)
      replace hx := hx.below j8
      replace hg := hg.below j8
      replace iX := iX.below j8
      have TB := t8
      go_wp2_with fail
      go_loopw [12] (fun v X => ∃ k : Nat, 1 ≤ k ∧ k ≤ S.length + 1 ∧ v = .int .i64 k ∧ Below w8.heap.size w8 X) (fun v _ => S.length + 1 - (intOf v).toNat)
      case atStart => exact ⟨1, Nat.le_refl _, by omega, rfl, Below.refl _ _⟩
      case round =>
        obtain ⟨k, k1, k2, rfl, hbX⟩ := hrel
        rename World => X
        by_cases hlt : k < S.length
        · have hkI : (k : Int) < (S.length : Int) := by omega
          obtain ⟨k, rfl⟩ : ∃ m, k = m + 1 := ⟨k - 1, by omega⟩
          have wk : IntKind.i64.wrap (((k + 1 : Nat) : Int) - 1) = (k : Int) := by rw [IntWalk.i64_in _ (by omega)]; omega
          have hkI2 : (k : Int) < (S.length : Int) := by omega
          obtain ⟨hp1, hr⟩ := SR.out k (by omega)
          obtain ⟨hp2, hr2⟩ := hr hlt
          obtain ⟨b, off, al, cl, e0, hbl, hc, hI⟩ := (iX.below hbX) k (by omega)
          obtain ⟨b', off', al', cl', e0', hbl', hc', hI'⟩ := (iX.below hbX) (k + 1) hlt
          rw [e0] at e0'
          cases e0'
          subst e0
          have e1 : S.getD k [] = S[k] := by rw [List.getD_eq_getElem?_getD, List.getElem?_eq_getElem (by omega)]; rfl
          have e2 : S.getD (k + 1) [] = S[k + 1] := by rw [List.getD_eq_getElem?_getD, List.getElem?_eq_getElem hlt]; rfl
          rw [e1] at hp1 hr2
          rw [e2] at hp2 hr2
          have gl1 := S9.out _ (List.getElem_mem (show k < S.length by omega))
          have gl2 := S9.out _ (List.getElem_mem hlt)
          obtain ⟨g, hge⟩ : ∃ g, S[k] = g := ⟨_, rfl⟩
          obtain ⟨g', hge'⟩ : ∃ g, S[k + 1] = g := ⟨_, rfl⟩
          rw [hge] at hc hI hp1 hr2 gl1
          rw [hge'] at hc' hI' hp2 hr2 gl2
          obtain ⟨b1, o1, rfl, lb1, cc1⟩ := hI 0 hp1
          obtain ⟨b2, o2, rfl, lb2, cc2⟩ := hI' 0 hp2
          have f1 : ((g.length : Int) == 0) = false := by rw [beq_eq_false_iff_ne]; omega
          have f2 : ((g'.length : Int) == 0) = false := by rw [beq_eq_false_iff_ne]; omega
          have p1 : (0 : Int) < (g.length : Int) := by omega
          have p2 : (0 : Int) < (g'.length : Int) := by omega
          rw [Nat.add_zero] at cc1 cc2
          obtain ⟨x1, hx1⟩ : ∃ x, g.getD 0 0 = x := ⟨_, rfl⟩
          obtain ⟨x2, hx2⟩ : ∃ x, g'.getD 0 0 = x := ⟨_, rfl⟩
          rw [hx1] at cc1 hr2
          rw [hx2] at cc2 hr2
          have f3 : decide (x2 ≤ x1) = false := by simp; omega
          clear hx1 hx2 e1 e2 hge hge' hr hr2
          go_wp2
          (refine wp_region_ext 31 (by kernel_rfl) (by kernel_rfl) ?_; simp only [List.take_succ_cons, List.take_zero, List.drop_succ_cons, List.drop_zero]; (repeat (go_big_quiet_step ((fail)))); refine wpQuiet_nil ?_; rintro _ ⟨ex, rfl⟩; have hex := ex.below; have hexz := ex.size; (try simp at hexz); (try (have hy0 : w.heap.size < ex.to.heap.size := by omega)); (try (have hy1 : w.heap.size + 1 < ex.to.heap.size := by omega)); (try (have hy2 : w.heap.size + 2 < ex.to.heap.size := by omega)))
          go_wp2
          go_roundw
          case rel => exact ⟨k + 2, by omega, by omega, by go_num, hbX.trans (ex.below.mono hbX.size)⟩
          case measure => simp [intOf]; omega
        · have hkI : ¬ (k : Int) < (S.length : Int) := by omega
          have tX := TB.trans (hbX.mono TB.size)
          go_wp2_with fail
          go_at_call 17
          refine (awake_any _).mono ?_
          rintro e wz ⟨rfl, bz⟩
          have tz := tX.trans (bz.mono tX.size)
          go_wp2_with fail
          go_ret
          exact ⟨rfl, tz⟩
set_option maxRecDepth 100000 in
set_option maxHeartbeats 8000000 in
theorem groups_d (a : Option Addr) (l : List Int) (c : Nat) (ag : Option Addr) (gs : List (List Int)) (cg : Nat) (many : Int) (w : World) (hx : IntsAt w a l) (nx : a = none → c = 0) (lc : l.length ≤ c) (mc : c ≤ maxLen) (hg : ListsN w ag gs) (ng : ag = none → cg = 0) (lg : gs.length ≤ cg) (mg : cg ≤ maxLen) (gm : ∀ g ∈ gs, g.length ≤ maxLen) (h9 : l.length ≤ 9) (h12 : gs.length ≤ 9) (hG : ∀ g ∈ gs, g.length ≤ 9) (h0 : balsErr l = 0) (hq : areG l gs 0 = true) (hm : ¬ many ≤ (gs.length : Int)) :
    Calls Try.prog 13 #[.slice a l.length c, .slice ag gs.length cg, .int .i64 many] w fun e w' => e = .returned (.bool true) ∧ Below w.heap.size w w' := by
  have h9d : decide ((9 : Int) < (l.length : Int)) = false := by simp; omega
  have h12d : decide ((9 : Int) < (gs.length : Int)) = false := by simp; omega
  have hl : l.length ≤ 1000 := by omega
  have hgl : gs.length ≤ 1000 := by omega
  have G9 : Hid (∀ g ∈ gs, g.length ≤ 9) := Lib.hid hG
  have HG : Hid (∀ g ∈ gs, g.length ≤ 1000) := Lib.hid fun g h => Nat.le_trans (hG g h) (by omega)
  clear lc mc lg mg gm hG
  obtain ⟨hl7, hne, hd, hz⟩ := balsErr_ok h0
  obtain ⟨S, hS⟩ : ∃ S, groupsL l = S := ⟨_, rfl⟩
  have hgn : (groupsL l).length = (grpL l).length := by simp [groupsL]
  have hSl : S.length ≤ 127 := by
    have := grpL_len hl7 hz
    rw [← hS, hgn]; omega
  have HS := Lib.hid hS
  have HSn : Hid ((grpL l).length = S.length) := Lib.hid (by rw [← hS, hgn])
  have HSo : Hid (areG l S 0 = true) := Lib.hid (by rw [← hS]; exact groupsL_are hl7 hz)
  have SR : Hid (∀ i, i < S.length → 0 < (S.getD i []).length ∧ (i + 1 < S.length → 0 < (S.getD (i + 1) []).length ∧ (S.getD i []).getD 0 0 < (S.getD (i + 1) []).getD 0 0)) := Lib.hid fun i hi => by
    rw [← hS] at hi ⊢
    exact groupsL_rise hl7 hz hi
  have S9 : Hid (∀ g ∈ S, g.length ≤ 1000) := Lib.hid fun g h => by
    rw [← hS] at h
    unfold groupsL at h
    obtain ⟨s, _, rfl⟩ := List.mem_map.1 h
    have := setN_len s 10
    omega
  have H0 := Lib.hid h0
  have HQ := Lib.hid hq
  have HP : Hid (proveG l gs many = false) := Lib.hid (by rw [proveG]; simp [hm])
  have hmd : decide (many ≤ (gs.length : Int)) = false := by simpa using hm
  clear hq hm
  clear hS h0 hd hz hne h9 h12 hl7 hgn
  go_enter Try.func13, Try.ntmps13
  go_wp2_with fail
  go_loopw [7] (fun v X => ∃ k : Nat, k ≤ gs.length ∧ v = .int .i64 k ∧ w = X ∧ True) (fun v _ => gs.length - (intOf v).toNat)
  case atStart => exact ⟨0, Nat.zero_le _, rfl, rfl, trivial⟩
  case round =>
    obtain ⟨k, hk, rfl, rfl, _⟩ := hrel
    by_cases hlt : k < gs.length
    · have hkI : (k : Int) < (gs.length : Int) := by omega
      obtain ⟨b, off, al, cl, rfl, hbl, hc, hI, hnl⟩ := hg k hlt
      have gmk := G9.out _ (List.getElem_mem hlt)
      obtain ⟨g, hge⟩ : ∃ g, gs[k] = g := ⟨_, rfl⟩
      rw [hge] at hc hI gmk
      clear hge
      have hg9d : decide ((9 : Int) < (g.length : Int)) = false := by simp; omega
      go_wp2
      go_roundw
      case rel => exact ⟨k + 1, by omega, by go_num, (by trivial), trivial⟩
      case measure => simp [intOf]; omega
    · obtain rfl : k = gs.length := by omega
      go_wp2_with fail
      go_at_call 22
      refine (list_eq _ a l c hx hl nx).mono ?_
      rintro e w1 ⟨⟨aA, cA, rfl, iA, nA⟩, b1⟩
      have t1 : Below w.heap.size w w1 := by (repeat (first | exact Below.refl _ _ | refine Below.alloc ?_ (by first | omega | (simp; done) | (simp; omega)) _ | refine Below.drew ?_ | refine Below.setCell ?_ (by first | omega | (simp; done) | (simp; omega)) _ | refine Below.trans ?_ (Below.mono (by assumption) (by first | omega | (simp; done) | (simp; omega)))))
      replace hx := hx.below t1
      replace hg := hg.below t1
      go_wp2_with fail
      go_at_call 45
      refine (groups_eq aA l cA _ S H0 HS iA).mono ?_
      rintro e w2 ⟨⟨aX, cX, rfl, iX⟩, b2⟩
      have j2 : Below w1.heap.size w1 w2 := by (repeat (first | exact Below.refl _ _ | refine Below.alloc ?_ (by first | omega | (simp; done) | (simp; omega)) _ | refine Below.drew ?_ | refine Below.setCell ?_ (by first | omega | (simp; done) | (simp; omega)) _ | refine Below.trans ?_ (Below.mono (by assumption) (by first | omega | (simp; done) | (simp; omega)))))
      have t2 : Below w.heap.size w w2 := t1.trans (j2.mono t1.size)
      replace hx := hx.below j2
      replace hg := hg.below j2
      replace iA := iA.below j2
      clear iA
      go_wp2_with fail
      go_at_call 22
      refine (list_eq _ a l c hx hl nx).mono ?_
      rintro e w3 ⟨⟨aB, cB, rfl, iB, nB⟩, b3⟩
      have j3 : Below w2.heap.size w2 w3 := by (repeat (first | exact Below.refl _ _ | refine Below.alloc ?_ (by first | omega | (simp; done) | (simp; omega)) _ | refine Below.drew ?_ | refine Below.setCell ?_ (by first | omega | (simp; done) | (simp; omega)) _ | refine Below.trans ?_ (Below.mono (by assumption) (by first | omega | (simp; done) | (simp; omega)))))
      have t3 : Below w.heap.size w w3 := t2.trans (j3.mono t2.size)
      replace hx := hx.below j3
      replace hg := hg.below j3
      replace iX := iX.below j3
      go_wp2_with fail
      go_at_call 47
      refine (lists_eq _ ag gs cg hg hgl HG).mono ?_
      rintro e w4 ⟨⟨aP, cP, rfl, iP⟩, b4⟩
      have j4 : Below w3.heap.size w3 w4 := by (repeat (first | exact Below.refl _ _ | refine Below.alloc ?_ (by first | omega | (simp; done) | (simp; omega)) _ | refine Below.drew ?_ | refine Below.setCell ?_ (by first | omega | (simp; done) | (simp; omega)) _ | refine Below.trans ?_ (Below.mono (by assumption) (by first | omega | (simp; done) | (simp; omega)))))
      have t4 : Below w.heap.size w w4 := t3.trans (j4.mono t3.size)
      replace hx := hx.below j4
      replace hg := hg.below j4
      replace iX := iX.below j4
      replace iB := iB.below j4
      go_wp2_with fail
      go_at_call 46
      refine (proveG_eq aB l cB _ false aP gs cP many HP iB hl iP hgl HG).mono ?_
      rintro e w5 ⟨rfl, b5⟩
      have j5 : Below w4.heap.size w4 w5 := by (repeat (first | exact Below.refl _ _ | refine Below.alloc ?_ (by first | omega | (simp; done) | (simp; omega)) _ | refine Below.drew ?_ | refine Below.setCell ?_ (by first | omega | (simp; done) | (simp; omega)) _ | refine Below.trans ?_ (Below.mono (by assumption) (by first | omega | (simp; done) | (simp; omega)))))
      have t5 : Below w.heap.size w w5 := t4.trans (j5.mono t4.size)
      replace hx := hx.below j5
      replace hg := hg.below j5
      replace iX := iX.below j5
      replace iB := iB.below j5
      replace iP := iP.below j5
      clear iB iP
      go_wp2_with fail
      go_at_call 34
      refine (rBals_eq a l c _ 0 H0 hx hl).mono ?_
      rintro e _ ⟨rfl, rfl⟩
      go_wp2_with fail
      go_at_call 48
      refine (rAre_eq a l c _ true ag gs cg H0 HQ hx hg.to hgl HG).mono ?_
      rintro e w6 ⟨rfl, b6⟩
      have j6 : Below w5.heap.size w5 w6 := by (repeat (first | exact Below.refl _ _ | refine Below.alloc ?_ (by first | omega | (simp; done) | (simp; omega)) _ | refine Below.drew ?_ | refine Below.setCell ?_ (by first | omega | (simp; done) | (simp; omega)) _ | refine Below.trans ?_ (Below.mono (by assumption) (by first | omega | (simp; done) | (simp; omega)))))
      have t6 : Below w.heap.size w w6 := t5.trans (j6.mono t5.size)
      replace hx := hx.below j6
      replace hg := hg.below j6
      replace iX := iX.below j6
      go_wp2_with fail
      go_at_call 49
      refine (rBest_eq a l c _ S.length H0 HSn hx).mono ?_
      rintro e w7 ⟨rfl, b7⟩
      have j7 : Below w6.heap.size w6 w7 := by (repeat (first | exact Below.refl _ _ | refine Below.alloc ?_ (by first | omega | (simp; done) | (simp; omega)) _ | refine Below.drew ?_ | refine Below.setCell ?_ (by first | omega | (simp; done) | (simp; omega)) _ | refine Below.trans ?_ (Below.mono (by assumption) (by first | omega | (simp; done) | (simp; omega)))))
      have t7 : Below w.heap.size w w7 := t6.trans (j7.mono t6.size)
      replace hx := hx.below j7
      replace hg := hg.below j7
      replace iX := iX.below j7
      go_wp2_with fail
      go_at_call 48
      refine (rAre_eq a l c _ true aX S cX H0 HSo hx iX (by omega) S9).mono ?_
      rintro e w8 ⟨rfl, b8⟩
      have j8 : Below w7.heap.size w7 w8 := by (repeat (first | exact Below.refl _ _ | refine Below.alloc ?_ (by first | omega | (simp; done) | (simp; omega)) _ | refine Below.drew ?_ | refine Below.setCell ?_ (by first | omega | (simp; done) | (simp; omega)) _ | refine Below.trans ?_ (Below.mono (by assumption) (by first | omega | (simp; done) | (simp; omega)))))
      have t8 : Below w.heap.size w w8 := t7.trans (j8.mono t7.size)
      replace hx := hx.below j8
      replace hg := hg.below j8
      replace iX := iX.below j8
      have TB := t8
      go_wp2_with fail
      go_loopw [12] (fun v X => ∃ k : Nat, 1 ≤ k ∧ k ≤ S.length + 1 ∧ v = .int .i64 k ∧ Below w8.heap.size w8 X) (fun v _ => S.length + 1 - (intOf v).toNat)
      case atStart => exact ⟨1, Nat.le_refl _, by omega, rfl, Below.refl _ _⟩
      case round =>
        obtain ⟨k, k1, k2, rfl, hbX⟩ := hrel
        rename World => X
        by_cases hlt : k < S.length
        · have hkI : (k : Int) < (S.length : Int) := by omega
          obtain ⟨k, rfl⟩ : ∃ m, k = m + 1 := ⟨k - 1, by omega⟩
          have wk : IntKind.i64.wrap (((k + 1 : Nat) : Int) - 1) = (k : Int) := by rw [IntWalk.i64_in _ (by omega)]; omega
          have hkI2 : (k : Int) < (S.length : Int) := by omega
          obtain ⟨hp1, hr⟩ := SR.out k (by omega)
          obtain ⟨hp2, hr2⟩ := hr hlt
          obtain ⟨b, off, al, cl, e0, hbl, hc, hI⟩ := (iX.below hbX) k (by omega)
          obtain ⟨b', off', al', cl', e0', hbl', hc', hI'⟩ := (iX.below hbX) (k + 1) hlt
          rw [e0] at e0'
          cases e0'
          subst e0
          have e1 : S.getD k [] = S[k] := by rw [List.getD_eq_getElem?_getD, List.getElem?_eq_getElem (by omega)]; rfl
          have e2 : S.getD (k + 1) [] = S[k + 1] := by rw [List.getD_eq_getElem?_getD, List.getElem?_eq_getElem hlt]; rfl
          rw [e1] at hp1 hr2
          rw [e2] at hp2 hr2
          have gl1 := S9.out _ (List.getElem_mem (show k < S.length by omega))
          have gl2 := S9.out _ (List.getElem_mem hlt)
          obtain ⟨g, hge⟩ : ∃ g, S[k] = g := ⟨_, rfl⟩
          obtain ⟨g', hge'⟩ : ∃ g, S[k + 1] = g := ⟨_, rfl⟩
          rw [hge] at hc hI hp1 hr2 gl1
          rw [hge'] at hc' hI' hp2 hr2 gl2
          obtain ⟨b1, o1, rfl, lb1, cc1⟩ := hI 0 hp1
          obtain ⟨b2, o2, rfl, lb2, cc2⟩ := hI' 0 hp2
          have f1 : ((g.length : Int) == 0) = false := by rw [beq_eq_false_iff_ne]; omega
          have f2 : ((g'.length : Int) == 0) = false := by rw [beq_eq_false_iff_ne]; omega
          have p1 : (0 : Int) < (g.length : Int) := by omega
          have p2 : (0 : Int) < (g'.length : Int) := by omega
          rw [Nat.add_zero] at cc1 cc2
          obtain ⟨x1, hx1⟩ : ∃ x, g.getD 0 0 = x := ⟨_, rfl⟩
          obtain ⟨x2, hx2⟩ : ∃ x, g'.getD 0 0 = x := ⟨_, rfl⟩
          rw [hx1] at cc1 hr2
          rw [hx2] at cc2 hr2
          have f3 : decide (x2 ≤ x1) = false := by simp; omega
          clear hx1 hx2 e1 e2 hge hge' hr hr2
          go_wp2
          (refine wp_region_ext 31 (by kernel_rfl) (by kernel_rfl) ?_; simp only [List.take_succ_cons, List.take_zero, List.drop_succ_cons, List.drop_zero]; (repeat (go_big_quiet_step ((fail)))); refine wpQuiet_nil ?_; rintro _ ⟨ex, rfl⟩; have hex := ex.below; have hexz := ex.size; (try simp at hexz); (try (have hy0 : w.heap.size < ex.to.heap.size := by omega)); (try (have hy1 : w.heap.size + 1 < ex.to.heap.size := by omega)); (try (have hy2 : w.heap.size + 2 < ex.to.heap.size := by omega)))
          go_wp2
          go_roundw
          case rel => exact ⟨k + 2, by omega, by omega, by go_num, hbX.trans (ex.below.mono hbX.size)⟩
          case measure => simp [intOf]; omega
        · have hkI : ¬ (k : Int) < (S.length : Int) := by omega
          have tX := TB.trans (hbX.mono TB.size)
          go_wp2_with fail
          go_at_call 17
          refine (awake_any _).mono ?_
          rintro e wz ⟨rfl, bz⟩
          have tz := tX.trans (bz.mono tX.size)
          go_wp2_with fail
          go_ret
          exact ⟨rfl, tz⟩
set_option maxRecDepth 100000 in
set_option maxHeartbeats 8000000 in
theorem groups_e (a : Option Addr) (l : List Int) (c : Nat) (ag : Option Addr) (gs : List (List Int)) (cg : Nat) (many : Int) (w : World) (hx : IntsAt w a l) (nx : a = none → c = 0) (lc : l.length ≤ c) (mc : c ≤ maxLen) (hg : ListsN w ag gs) (ng : ag = none → cg = 0) (lg : gs.length ≤ cg) (mg : cg ≤ maxLen) (gm : ∀ g ∈ gs, g.length ≤ maxLen) (h9 : l.length ≤ 9) (h12 : gs.length ≤ 9) (hG : ∀ g ∈ gs, g.length ≤ 9) (h0 : balsErr l = 0) (hq : areG l gs 0 = true) (hm : many ≤ (gs.length : Int)) :
    Calls Try.prog 13 #[.slice a l.length c, .slice ag gs.length cg, .int .i64 many] w fun e w' => e = .returned (.bool true) ∧ Below w.heap.size w w' := by
  have h9d : decide ((9 : Int) < (l.length : Int)) = false := by simp; omega
  have h12d : decide ((9 : Int) < (gs.length : Int)) = false := by simp; omega
  have hl : l.length ≤ 1000 := by omega
  have hgl : gs.length ≤ 1000 := by omega
  have G9 : Hid (∀ g ∈ gs, g.length ≤ 9) := Lib.hid hG
  have HG : Hid (∀ g ∈ gs, g.length ≤ 1000) := Lib.hid fun g h => Nat.le_trans (hG g h) (by omega)
  clear lc mc lg mg gm hG
  obtain ⟨hl7, hne, hd, hz⟩ := balsErr_ok h0
  obtain ⟨S, hS⟩ : ∃ S, groupsL l = S := ⟨_, rfl⟩
  have hgn : (groupsL l).length = (grpL l).length := by simp [groupsL]
  have hSl : S.length ≤ 127 := by
    have := grpL_len hl7 hz
    rw [← hS, hgn]; omega
  have HS := Lib.hid hS
  have HSn : Hid ((grpL l).length = S.length) := Lib.hid (by rw [← hS, hgn])
  have HSo : Hid (areG l S 0 = true) := Lib.hid (by rw [← hS]; exact groupsL_are hl7 hz)
  have SR : Hid (∀ i, i < S.length → 0 < (S.getD i []).length ∧ (i + 1 < S.length → 0 < (S.getD (i + 1) []).length ∧ (S.getD i []).getD 0 0 < (S.getD (i + 1) []).getD 0 0)) := Lib.hid fun i hi => by
    rw [← hS] at hi ⊢
    exact groupsL_rise hl7 hz hi
  have S9 : Hid (∀ g ∈ S, g.length ≤ 1000) := Lib.hid fun g h => by
    rw [← hS] at h
    unfold groupsL at h
    obtain ⟨s, _, rfl⟩ := List.mem_map.1 h
    have := setN_len s 10
    omega
  have H0 := Lib.hid h0
  have HQ := Lib.hid hq
  have HP : Hid (proveG l gs many = true) := Lib.hid (by rw [proveG, h0, hq]; simp [hm])
  have hmd : decide (many ≤ (gs.length : Int)) = true := by simpa using hm
  clear hq
  clear hS h0 hd hz hne h9 h12 hl7 hgn
  go_enter Try.func13, Try.ntmps13
  go_wp2_with fail
  go_loopw [7] (fun v X => ∃ k : Nat, k ≤ gs.length ∧ v = .int .i64 k ∧ w = X ∧ True) (fun v _ => gs.length - (intOf v).toNat)
  case atStart => exact ⟨0, Nat.zero_le _, rfl, rfl, trivial⟩
  case round =>
    obtain ⟨k, hk, rfl, rfl, _⟩ := hrel
    by_cases hlt : k < gs.length
    · have hkI : (k : Int) < (gs.length : Int) := by omega
      obtain ⟨b, off, al, cl, rfl, hbl, hc, hI, hnl⟩ := hg k hlt
      have gmk := G9.out _ (List.getElem_mem hlt)
      obtain ⟨g, hge⟩ : ∃ g, gs[k] = g := ⟨_, rfl⟩
      rw [hge] at hc hI gmk
      clear hge
      have hg9d : decide ((9 : Int) < (g.length : Int)) = false := by simp; omega
      go_wp2
      go_roundw
      case rel => exact ⟨k + 1, by omega, by go_num, (by trivial), trivial⟩
      case measure => simp [intOf]; omega
    · obtain rfl : k = gs.length := by omega
      go_wp2_with fail
      go_at_call 22
      refine (list_eq _ a l c hx hl nx).mono ?_
      rintro e w1 ⟨⟨aA, cA, rfl, iA, nA⟩, b1⟩
      have t1 : Below w.heap.size w w1 := by (repeat (first | exact Below.refl _ _ | refine Below.alloc ?_ (by first | omega | (simp; done) | (simp; omega)) _ | refine Below.drew ?_ | refine Below.setCell ?_ (by first | omega | (simp; done) | (simp; omega)) _ | refine Below.trans ?_ (Below.mono (by assumption) (by first | omega | (simp; done) | (simp; omega)))))
      replace hx := hx.below t1
      replace hg := hg.below t1
      go_wp2_with fail
      go_at_call 45
      refine (groups_eq aA l cA _ S H0 HS iA).mono ?_
      rintro e w2 ⟨⟨aX, cX, rfl, iX⟩, b2⟩
      have j2 : Below w1.heap.size w1 w2 := by (repeat (first | exact Below.refl _ _ | refine Below.alloc ?_ (by first | omega | (simp; done) | (simp; omega)) _ | refine Below.drew ?_ | refine Below.setCell ?_ (by first | omega | (simp; done) | (simp; omega)) _ | refine Below.trans ?_ (Below.mono (by assumption) (by first | omega | (simp; done) | (simp; omega)))))
      have t2 : Below w.heap.size w w2 := t1.trans (j2.mono t1.size)
      replace hx := hx.below j2
      replace hg := hg.below j2
      replace iA := iA.below j2
      clear iA
      go_wp2_with fail
      go_at_call 22
      refine (list_eq _ a l c hx hl nx).mono ?_
      rintro e w3 ⟨⟨aB, cB, rfl, iB, nB⟩, b3⟩
      have j3 : Below w2.heap.size w2 w3 := by (repeat (first | exact Below.refl _ _ | refine Below.alloc ?_ (by first | omega | (simp; done) | (simp; omega)) _ | refine Below.drew ?_ | refine Below.setCell ?_ (by first | omega | (simp; done) | (simp; omega)) _ | refine Below.trans ?_ (Below.mono (by assumption) (by first | omega | (simp; done) | (simp; omega)))))
      have t3 : Below w.heap.size w w3 := t2.trans (j3.mono t2.size)
      replace hx := hx.below j3
      replace hg := hg.below j3
      replace iX := iX.below j3
      go_wp2_with fail
      go_at_call 47
      refine (lists_eq _ ag gs cg hg hgl HG).mono ?_
      rintro e w4 ⟨⟨aP, cP, rfl, iP⟩, b4⟩
      have j4 : Below w3.heap.size w3 w4 := by (repeat (first | exact Below.refl _ _ | refine Below.alloc ?_ (by first | omega | (simp; done) | (simp; omega)) _ | refine Below.drew ?_ | refine Below.setCell ?_ (by first | omega | (simp; done) | (simp; omega)) _ | refine Below.trans ?_ (Below.mono (by assumption) (by first | omega | (simp; done) | (simp; omega)))))
      have t4 : Below w.heap.size w w4 := t3.trans (j4.mono t3.size)
      replace hx := hx.below j4
      replace hg := hg.below j4
      replace iX := iX.below j4
      replace iB := iB.below j4
      go_wp2_with fail
      go_at_call 46
      refine (proveG_eq aB l cB _ true aP gs cP many HP iB hl iP hgl HG).mono ?_
      rintro e w5 ⟨rfl, b5⟩
      have j5 : Below w4.heap.size w4 w5 := by (repeat (first | exact Below.refl _ _ | refine Below.alloc ?_ (by first | omega | (simp; done) | (simp; omega)) _ | refine Below.drew ?_ | refine Below.setCell ?_ (by first | omega | (simp; done) | (simp; omega)) _ | refine Below.trans ?_ (Below.mono (by assumption) (by first | omega | (simp; done) | (simp; omega)))))
      have t5 : Below w.heap.size w w5 := t4.trans (j5.mono t4.size)
      replace hx := hx.below j5
      replace hg := hg.below j5
      replace iX := iX.below j5
      replace iB := iB.below j5
      replace iP := iP.below j5
      clear iB iP
      go_wp2_with fail
      go_at_call 34
      refine (rBals_eq a l c _ 0 H0 hx hl).mono ?_
      rintro e _ ⟨rfl, rfl⟩
      go_wp2_with fail
      go_at_call 48
      refine (rAre_eq a l c _ true ag gs cg H0 HQ hx hg.to hgl HG).mono ?_
      rintro e w6 ⟨rfl, b6⟩
      have j6 : Below w5.heap.size w5 w6 := by (repeat (first | exact Below.refl _ _ | refine Below.alloc ?_ (by first | omega | (simp; done) | (simp; omega)) _ | refine Below.drew ?_ | refine Below.setCell ?_ (by first | omega | (simp; done) | (simp; omega)) _ | refine Below.trans ?_ (Below.mono (by assumption) (by first | omega | (simp; done) | (simp; omega)))))
      have t6 : Below w.heap.size w w6 := t5.trans (j6.mono t5.size)
      replace hx := hx.below j6
      replace hg := hg.below j6
      replace iX := iX.below j6
      go_wp2_with fail
      go_at_call 49
      refine (rBest_eq a l c _ S.length H0 HSn hx).mono ?_
      rintro e w7 ⟨rfl, b7⟩
      have j7 : Below w6.heap.size w6 w7 := by (repeat (first | exact Below.refl _ _ | refine Below.alloc ?_ (by first | omega | (simp; done) | (simp; omega)) _ | refine Below.drew ?_ | refine Below.setCell ?_ (by first | omega | (simp; done) | (simp; omega)) _ | refine Below.trans ?_ (Below.mono (by assumption) (by first | omega | (simp; done) | (simp; omega)))))
      have t7 : Below w.heap.size w w7 := t6.trans (j7.mono t6.size)
      replace hx := hx.below j7
      replace hg := hg.below j7
      replace iX := iX.below j7
      go_wp2_with fail
      go_at_call 48
      refine (rAre_eq a l c _ true aX S cX H0 HSo hx iX (by omega) S9).mono ?_
      rintro e w8 ⟨rfl, b8⟩
      have j8 : Below w7.heap.size w7 w8 := by (repeat (first | exact Below.refl _ _ | refine Below.alloc ?_ (by first | omega | (simp; done) | (simp; omega)) _ | refine Below.drew ?_ | refine Below.setCell ?_ (by first | omega | (simp; done) | (simp; omega)) _ | refine Below.trans ?_ (Below.mono (by assumption) (by first | omega | (simp; done) | (simp; omega)))))
      have t8 : Below w.heap.size w w8 := t7.trans (j8.mono t7.size)
      replace hx := hx.below j8
      replace hg := hg.below j8
      replace iX := iX.below j8
      have TB := t8
      go_wp2_with fail
      go_loopw [12] (fun v X => ∃ k : Nat, 1 ≤ k ∧ k ≤ S.length + 1 ∧ v = .int .i64 k ∧ Below w8.heap.size w8 X) (fun v _ => S.length + 1 - (intOf v).toNat)
      case atStart => exact ⟨1, Nat.le_refl _, by omega, rfl, Below.refl _ _⟩
      case round =>
        obtain ⟨k, k1, k2, rfl, hbX⟩ := hrel
        rename World => X
        by_cases hlt : k < S.length
        · have hkI : (k : Int) < (S.length : Int) := by omega
          obtain ⟨k, rfl⟩ : ∃ m, k = m + 1 := ⟨k - 1, by omega⟩
          have wk : IntKind.i64.wrap (((k + 1 : Nat) : Int) - 1) = (k : Int) := by rw [IntWalk.i64_in _ (by omega)]; omega
          have hkI2 : (k : Int) < (S.length : Int) := by omega
          obtain ⟨hp1, hr⟩ := SR.out k (by omega)
          obtain ⟨hp2, hr2⟩ := hr hlt
          obtain ⟨b, off, al, cl, e0, hbl, hc, hI⟩ := (iX.below hbX) k (by omega)
          obtain ⟨b', off', al', cl', e0', hbl', hc', hI'⟩ := (iX.below hbX) (k + 1) hlt
          rw [e0] at e0'
          cases e0'
          subst e0
          have e1 : S.getD k [] = S[k] := by rw [List.getD_eq_getElem?_getD, List.getElem?_eq_getElem (by omega)]; rfl
          have e2 : S.getD (k + 1) [] = S[k + 1] := by rw [List.getD_eq_getElem?_getD, List.getElem?_eq_getElem hlt]; rfl
          rw [e1] at hp1 hr2
          rw [e2] at hp2 hr2
          have gl1 := S9.out _ (List.getElem_mem (show k < S.length by omega))
          have gl2 := S9.out _ (List.getElem_mem hlt)
          obtain ⟨g, hge⟩ : ∃ g, S[k] = g := ⟨_, rfl⟩
          obtain ⟨g', hge'⟩ : ∃ g, S[k + 1] = g := ⟨_, rfl⟩
          rw [hge] at hc hI hp1 hr2 gl1
          rw [hge'] at hc' hI' hp2 hr2 gl2
          obtain ⟨b1, o1, rfl, lb1, cc1⟩ := hI 0 hp1
          obtain ⟨b2, o2, rfl, lb2, cc2⟩ := hI' 0 hp2
          have f1 : ((g.length : Int) == 0) = false := by rw [beq_eq_false_iff_ne]; omega
          have f2 : ((g'.length : Int) == 0) = false := by rw [beq_eq_false_iff_ne]; omega
          have p1 : (0 : Int) < (g.length : Int) := by omega
          have p2 : (0 : Int) < (g'.length : Int) := by omega
          rw [Nat.add_zero] at cc1 cc2
          obtain ⟨x1, hx1⟩ : ∃ x, g.getD 0 0 = x := ⟨_, rfl⟩
          obtain ⟨x2, hx2⟩ : ∃ x, g'.getD 0 0 = x := ⟨_, rfl⟩
          rw [hx1] at cc1 hr2
          rw [hx2] at cc2 hr2
          have f3 : decide (x2 ≤ x1) = false := by simp; omega
          clear hx1 hx2 e1 e2 hge hge' hr hr2
          go_wp2
          (refine wp_region_ext 31 (by kernel_rfl) (by kernel_rfl) ?_; simp only [List.take_succ_cons, List.take_zero, List.drop_succ_cons, List.drop_zero]; (repeat (go_big_quiet_step ((fail)))); refine wpQuiet_nil ?_; rintro _ ⟨ex, rfl⟩; have hex := ex.below; have hexz := ex.size; (try simp at hexz); (try (have hy0 : w.heap.size < ex.to.heap.size := by omega)); (try (have hy1 : w.heap.size + 1 < ex.to.heap.size := by omega)); (try (have hy2 : w.heap.size + 2 < ex.to.heap.size := by omega)))
          go_wp2
          go_roundw
          case rel => exact ⟨k + 2, by omega, by omega, by go_num, hbX.trans (ex.below.mono hbX.size)⟩
          case measure => simp [intOf]; omega
        · have hkI : ¬ (k : Int) < (S.length : Int) := by omega
          have tX := TB.trans (hbX.mono TB.size)
          go_wp2_with fail
          go_at_call 17
          refine (awake_any _).mono ?_
          rintro e wz ⟨rfl, bz⟩
          have tz := tX.trans (bz.mono tX.size)
          go_wp2_with fail
          go_ret
          exact ⟨rfl, tz⟩
theorem groups_walk (a : Option Addr) (l : List Int) (c : Nat) (ag : Option Addr) (gs : List (List Int)) (cg : Nat) (many : Int) (w : World) (hx : IntsAt w a l) (nx : a = none → c = 0) (lc : l.length ≤ c) (mc : c ≤ maxLen) (hg : ListsN w ag gs) (ng : ag = none → cg = 0) (lg : gs.length ≤ cg) (mg : cg ≤ maxLen) (gm : ∀ g ∈ gs, g.length ≤ maxLen) :
    Calls Try.prog 13 #[.slice a l.length c, .slice ag gs.length cg, .int .i64 many] w fun e w' => e = .returned (.bool true) ∧ Below w.heap.size w w' := by
  by_cases h9 : l.length ≤ 9
  · by_cases h12 : gs.length ≤ 9
    · by_cases hG : ∀ g ∈ gs, g.length ≤ 9
      · by_cases h0 : balsErr l = 0
        · cases hq : areG l gs 0
          · exact groups_c a l c ag gs cg many w hx nx lc mc hg ng lg mg gm h9 h12 hG h0 hq
          · by_cases hm : many ≤ (gs.length : Int)
            · exact groups_e a l c ag gs cg many w hx nx lc mc hg ng lg mg gm h9 h12 hG h0 hq hm
            · exact groups_d a l c ag gs cg many w hx nx lc mc hg ng lg mg gm h9 h12 hG h0 hq hm
        · exact groups_b a l c ag gs cg many w hx nx lc mc hg ng lg mg gm h9 h12 hG _ rfl h0
      · exact groups_a3 a l c ag gs cg many w hx nx lc mc hg ng lg mg gm h9 h12 hG
    · exact groups_a2 a l c ag gs cg many w hx nx lc mc hg ng lg mg gm h9 h12
  · exact groups_a1 a l c ag gs cg many w hx nx lc mc hg ng lg mg gm h9
end Go.Proofs.Ytomjlmhnjgohdaa
