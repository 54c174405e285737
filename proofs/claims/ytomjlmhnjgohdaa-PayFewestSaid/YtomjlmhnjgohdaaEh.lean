/- PayFewest: the walk -/
import Derived.Test.YtomjlmhnjgohdaaIb
namespace Go.Proofs.Ytomjlmhnjgohdaa
set_option linter.unusedVariables false
set_option linter.unusedSimpArgs false
set_option linter.unnecessarySimpa false
open Go.RowKit Go.Flow Go.Shelf

set_option maxRecDepth 100000 in
set_option maxHeartbeats 8000000 in
theorem fewest_a1 (aw : Option Addr) (ws : List Int) (cw : Nat) (mv : Int) (ap : Option Addr) (ps : List (Int × Int × Int)) (cp : Nat) (ag : Option Addr) (gs : List (List Int)) (cg : Nat) (w : World) (hw : U16At w aw ws) (nw : aw = none → cw = 0) (lw : ws.length ≤ cw) (mw : cw ≤ maxLen) (hu : ∀ n ∈ ws, 0 ≤ n ∧ n ≤ 65535) (hmv : 0 ≤ mv ∧ mv ≤ 255) (hp : Recs3At w ap ps) (np : ap = none → cp = 0) (lp : ps.length ≤ cp) (mp : cp ≤ maxLen) (hg : ListsN w ag gs) (ng : ag = none → cg = 0) (lg : gs.length ≤ cg) (mg : cg ≤ maxLen) (gm : ∀ g ∈ gs, g.length ≤ maxLen) (h12 : ¬ ps.length ≤ 12) :
    Calls Try.prog 14 #[.slice aw ws.length cw, .int .u8 mv, .slice ap ps.length cp, .slice ag gs.length cg] w fun e w' => e = .returned (.bool true) ∧ Below w.heap.size w w' := by
  have HU : Hid (U16s ws) := Lib.hid hu
  have hwl : ws.length ≤ 9223372036854775807 := by unfold maxLen at mw; omega
  obtain ⟨many, rfl⟩ : ∃ m : Nat, mv = (m : Int) := ⟨mv.toNat, by omega⟩
  have hmy : many ≤ 255 := by omega
  have hp9 : ps.length ≤ 9223372036854775807 := by unfold maxLen at mp; omega
  have hg9 : gs.length ≤ 9223372036854775807 := by unfold maxLen at mg; omega
  have GM : Hid (∀ g ∈ gs, g.length ≤ maxLen) := Lib.hid gm
  obtain ⟨L, hL⟩ : ∃ L, owedL ws many = L := ⟨_, rfl⟩
  have hLl := owed_len ws many
  have h0 := owed_err ws many
  rw [hL] at hLl h0
  have HL := Lib.hid hL
  have H0 := Lib.hid h0
  have lL : L.length ≤ 1000 := by omega
  have h12d : decide ((12 : Int) < (ps.length : Int)) = true := by simp; omega
  clear hu lw mw hmv lp mp lg mg gm hL h0
  go_enter Try.func14, Try.ntmps14
  go_wp2_with fail
  go_at_call 41
  refine (owed_eq aw ws cw many L HL _ (hw.below (by (repeat (first | exact Below.refl _ _ | refine Below.alloc ?_ (by first | omega | (simp; done) | (simp; omega)) _ | refine Below.drew ?_ | refine Below.setCell ?_ (by first | omega | (simp; done) | (simp; omega)) _ | refine Below.trans ?_ (Below.mono (by assumption) (by first | omega | (simp; done) | (simp; omega))))))) HU hwl hmy).mono ?_
  rintro e w1 ⟨⟨aL, cL, rfl, iL, nL⟩, b1⟩
  have t1 : Below w.heap.size w w1 := by (repeat (first | exact Below.refl _ _ | refine Below.alloc ?_ (by first | omega | (simp; done) | (simp; omega)) _ | refine Below.drew ?_ | refine Below.setCell ?_ (by first | omega | (simp; done) | (simp; omega)) _ | refine Below.trans ?_ (Below.mono (by assumption) (by first | omega | (simp; done) | (simp; omega)))))
  replace hw := hw.below t1
  replace hp := hp.below t1
  replace hg := hg.below t1
  go_wp2_with fail
  go_at_call 34
  refine (rBals_eq aL L cL _ 0 H0 iL lL).mono ?_
  rintro e _ ⟨rfl, rfl⟩
  go_wp2_with fail
  go_at_call 17
  refine (awake_any _).mono ?_
  rintro e w2 ⟨rfl, b2⟩
  have j2 : Below w1.heap.size w1 w2 := by (repeat (first | exact Below.refl _ _ | refine Below.alloc ?_ (by first | omega | (simp; done) | (simp; omega)) _ | refine Below.drew ?_ | refine Below.setCell ?_ (by first | omega | (simp; done) | (simp; omega)) _ | refine Below.trans ?_ (Below.mono (by assumption) (by first | omega | (simp; done) | (simp; omega)))))
  have t2 : Below w.heap.size w w2 := t1.trans (j2.mono t1.size)
  replace hw := hw.below j2
  replace hp := hp.below j2
  replace hg := hg.below j2
  replace iL := iL.below j2
  go_wp2_with fail
  go_ret
  exact ⟨rfl, t2⟩
set_option maxRecDepth 100000 in
set_option maxHeartbeats 8000000 in
theorem fewest_a2 (aw : Option Addr) (ws : List Int) (cw : Nat) (mv : Int) (ap : Option Addr) (ps : List (Int × Int × Int)) (cp : Nat) (ag : Option Addr) (gs : List (List Int)) (cg : Nat) (w : World) (hw : U16At w aw ws) (nw : aw = none → cw = 0) (lw : ws.length ≤ cw) (mw : cw ≤ maxLen) (hu : ∀ n ∈ ws, 0 ≤ n ∧ n ≤ 65535) (hmv : 0 ≤ mv ∧ mv ≤ 255) (hp : Recs3At w ap ps) (np : ap = none → cp = 0) (lp : ps.length ≤ cp) (mp : cp ≤ maxLen) (hg : ListsN w ag gs) (ng : ag = none → cg = 0) (lg : gs.length ≤ cg) (mg : cg ≤ maxLen) (gm : ∀ g ∈ gs, g.length ≤ maxLen) (h12 : ps.length ≤ 12) (h9 : ¬ gs.length ≤ 9) :
    Calls Try.prog 14 #[.slice aw ws.length cw, .int .u8 mv, .slice ap ps.length cp, .slice ag gs.length cg] w fun e w' => e = .returned (.bool true) ∧ Below w.heap.size w w' := by
  have HU : Hid (U16s ws) := Lib.hid hu
  have hwl : ws.length ≤ 9223372036854775807 := by unfold maxLen at mw; omega
  obtain ⟨many, rfl⟩ : ∃ m : Nat, mv = (m : Int) := ⟨mv.toNat, by omega⟩
  have hmy : many ≤ 255 := by omega
  have hp9 : ps.length ≤ 9223372036854775807 := by unfold maxLen at mp; omega
  have hg9 : gs.length ≤ 9223372036854775807 := by unfold maxLen at mg; omega
  have GM : Hid (∀ g ∈ gs, g.length ≤ maxLen) := Lib.hid gm
  obtain ⟨L, hL⟩ : ∃ L, owedL ws many = L := ⟨_, rfl⟩
  have hLl := owed_len ws many
  have h0 := owed_err ws many
  rw [hL] at hLl h0
  have HL := Lib.hid hL
  have H0 := Lib.hid h0
  have lL : L.length ≤ 1000 := by omega
  have h12d : decide ((12 : Int) < (ps.length : Int)) = false := by simp; omega
  have h9d : decide ((9 : Int) < (gs.length : Int)) = true := by simp; omega
  clear hu lw mw hmv lp mp lg mg gm hL h0
  go_enter Try.func14, Try.ntmps14
  go_wp2_with fail
  go_at_call 41
  refine (owed_eq aw ws cw many L HL _ (hw.below (by (repeat (first | exact Below.refl _ _ | refine Below.alloc ?_ (by first | omega | (simp; done) | (simp; omega)) _ | refine Below.drew ?_ | refine Below.setCell ?_ (by first | omega | (simp; done) | (simp; omega)) _ | refine Below.trans ?_ (Below.mono (by assumption) (by first | omega | (simp; done) | (simp; omega))))))) HU hwl hmy).mono ?_
  rintro e w1 ⟨⟨aL, cL, rfl, iL, nL⟩, b1⟩
  have t1 : Below w.heap.size w w1 := by (repeat (first | exact Below.refl _ _ | refine Below.alloc ?_ (by first | omega | (simp; done) | (simp; omega)) _ | refine Below.drew ?_ | refine Below.setCell ?_ (by first | omega | (simp; done) | (simp; omega)) _ | refine Below.trans ?_ (Below.mono (by assumption) (by first | omega | (simp; done) | (simp; omega)))))
  replace hw := hw.below t1
  replace hp := hp.below t1
  replace hg := hg.below t1
  go_wp2_with fail
  go_at_call 34
  refine (rBals_eq aL L cL _ 0 H0 iL lL).mono ?_
  rintro e _ ⟨rfl, rfl⟩
  go_wp2_with fail
  go_at_call 17
  refine (awake_any _).mono ?_
  rintro e w2 ⟨rfl, b2⟩
  have j2 : Below w1.heap.size w1 w2 := by (repeat (first | exact Below.refl _ _ | refine Below.alloc ?_ (by first | omega | (simp; done) | (simp; omega)) _ | refine Below.drew ?_ | refine Below.setCell ?_ (by first | omega | (simp; done) | (simp; omega)) _ | refine Below.trans ?_ (Below.mono (by assumption) (by first | omega | (simp; done) | (simp; omega)))))
  have t2 : Below w.heap.size w w2 := t1.trans (j2.mono t1.size)
  replace hw := hw.below j2
  replace hp := hp.below j2
  replace hg := hg.below j2
  replace iL := iL.below j2
  go_wp2_with fail
  go_ret
  exact ⟨rfl, t2⟩
set_option maxRecDepth 100000 in
set_option maxHeartbeats 8000000 in
theorem fewest_a3 (aw : Option Addr) (ws : List Int) (cw : Nat) (mv : Int) (ap : Option Addr) (ps : List (Int × Int × Int)) (cp : Nat) (ag : Option Addr) (gs : List (List Int)) (cg : Nat) (w : World) (hw : U16At w aw ws) (nw : aw = none → cw = 0) (lw : ws.length ≤ cw) (mw : cw ≤ maxLen) (hu : ∀ n ∈ ws, 0 ≤ n ∧ n ≤ 65535) (hmv : 0 ≤ mv ∧ mv ≤ 255) (hp : Recs3At w ap ps) (np : ap = none → cp = 0) (lp : ps.length ≤ cp) (mp : cp ≤ maxLen) (hg : ListsN w ag gs) (ng : ag = none → cg = 0) (lg : gs.length ≤ cg) (mg : cg ≤ maxLen) (gm : ∀ g ∈ gs, g.length ≤ maxLen) (h12 : ps.length ≤ 12) (h9 : gs.length ≤ 9) (hG : ¬ ∀ g ∈ gs, g.length ≤ 9) :
    Calls Try.prog 14 #[.slice aw ws.length cw, .int .u8 mv, .slice ap ps.length cp, .slice ag gs.length cg] w fun e w' => e = .returned (.bool true) ∧ Below w.heap.size w w' := by
  have HU : Hid (U16s ws) := Lib.hid hu
  have hwl : ws.length ≤ 9223372036854775807 := by unfold maxLen at mw; omega
  obtain ⟨many, rfl⟩ : ∃ m : Nat, mv = (m : Int) := ⟨mv.toNat, by omega⟩
  have hmy : many ≤ 255 := by omega
  have hp9 : ps.length ≤ 9223372036854775807 := by unfold maxLen at mp; omega
  have hg9 : gs.length ≤ 9223372036854775807 := by unfold maxLen at mg; omega
  have GM : Hid (∀ g ∈ gs, g.length ≤ maxLen) := Lib.hid gm
  obtain ⟨L, hL⟩ : ∃ L, owedL ws many = L := ⟨_, rfl⟩
  have hLl := owed_len ws many
  have h0 := owed_err ws many
  rw [hL] at hLl h0
  have HL := Lib.hid hL
  have H0 := Lib.hid h0
  have lL : L.length ≤ 1000 := by omega
  have h12d : decide ((12 : Int) < (ps.length : Int)) = false := by simp; omega
  have h9d : decide ((9 : Int) < (gs.length : Int)) = false := by simp; omega
  have HGn : Hid (¬ ∀ g ∈ gs, g.length ≤ 9) := Lib.hid hG
  clear hG
  clear hu lw mw hmv lp mp lg mg gm hL h0
  go_enter Try.func14, Try.ntmps14
  go_wp2_with fail
  go_at_call 41
  refine (owed_eq aw ws cw many L HL _ (hw.below (by (repeat (first | exact Below.refl _ _ | refine Below.alloc ?_ (by first | omega | (simp; done) | (simp; omega)) _ | refine Below.drew ?_ | refine Below.setCell ?_ (by first | omega | (simp; done) | (simp; omega)) _ | refine Below.trans ?_ (Below.mono (by assumption) (by first | omega | (simp; done) | (simp; omega))))))) HU hwl hmy).mono ?_
  rintro e w1 ⟨⟨aL, cL, rfl, iL, nL⟩, b1⟩
  have t1 : Below w.heap.size w w1 := by (repeat (first | exact Below.refl _ _ | refine Below.alloc ?_ (by first | omega | (simp; done) | (simp; omega)) _ | refine Below.drew ?_ | refine Below.setCell ?_ (by first | omega | (simp; done) | (simp; omega)) _ | refine Below.trans ?_ (Below.mono (by assumption) (by first | omega | (simp; done) | (simp; omega)))))
  replace hw := hw.below t1
  replace hp := hp.below t1
  replace hg := hg.below t1
  go_wp2_with fail
  go_at_call 34
  refine (rBals_eq aL L cL _ 0 H0 iL lL).mono ?_
  rintro e _ ⟨rfl, rfl⟩
  go_wp2_with fail
  go_loopw [10] (fun v X => ∃ k : Nat, k ≤ gs.length ∧ v = .int .i64 k ∧ w1 = X ∧ Hid (∀ (j : Nat) (h : j < gs.length), j < k → gs[j].length ≤ 9)) (fun v _ => gs.length - (intOf v).toNat)
  case atStart => exact ⟨0, Nat.zero_le _, rfl, rfl, Lib.hid fun j _ h => absurd h (Nat.not_lt_zero _)⟩
  case round =>
    obtain ⟨k, hk, rfl, rfl, HI⟩ := hrel
    by_cases hlt : k < gs.length
    · have hkI : (k : Int) < (gs.length : Int) := by omega
      obtain ⟨b, off, al, cl, rfl, hbl, hc, hI, hnl⟩ := hg k hlt
      have gmk := GM.out _ (List.getElem_mem hlt)
      unfold maxLen at gmk
      have HI2 : gs[k].length ≤ 9 → Hid (∀ (j : Nat) (h : j < gs.length), j < k + 1 → gs[j].length ≤ 9) := fun h => Lib.hid fun j hj hjk => by
        by_cases e : j = k
        · subst e; exact h
        · exact HI.out j hj (by omega)
      obtain ⟨g, hge⟩ : ∃ g, gs[k] = g := ⟨_, rfl⟩
      rw [hge] at hc hI gmk HI2
      clear hge
      by_cases hg9 : g.length ≤ 9
      · have hg9d : decide ((9 : Int) < (g.length : Int)) = false := by simp; omega
        replace HI2 := HI2 hg9
        go_wp2
        go_roundw
        case rel => exact ⟨k + 1, by omega, by go_num, (by trivial), HI2⟩
        case measure => simp [intOf]; omega
      · have hg9d : decide ((9 : Int) < (g.length : Int)) = true := by simp; omega
        clear HI2
        go_wp2_with fail
        go_at_call 17
        refine (awake_any _).mono ?_
        rintro e wz ⟨rfl, bz⟩
        go_wp2_with fail
        go_ret
        exact ⟨rfl, t1.trans (bz.mono t1.size)⟩
    · exact absurd (fun g hgm => by
        obtain ⟨j, hj, rfl⟩ := List.mem_iff_getElem.1 hgm
        exact HI.out j hj (by omega)) HGn.out
set_option maxRecDepth 100000 in
set_option maxHeartbeats 8000000 in
theorem fewest_b (aw : Option Addr) (ws : List Int) (cw : Nat) (mv : Int) (ap : Option Addr) (ps : List (Int × Int × Int)) (cp : Nat) (ag : Option Addr) (gs : List (List Int)) (cg : Nat) (w : World) (hw : U16At w aw ws) (nw : aw = none → cw = 0) (lw : ws.length ≤ cw) (mw : cw ≤ maxLen) (hu : ∀ n ∈ ws, 0 ≤ n ∧ n ≤ 65535) (hmv : 0 ≤ mv ∧ mv ≤ 255) (hp : Recs3At w ap ps) (np : ap = none → cp = 0) (lp : ps.length ≤ cp) (mp : cp ≤ maxLen) (hg : ListsN w ag gs) (ng : ag = none → cg = 0) (lg : gs.length ≤ cg) (mg : cg ≤ maxLen) (gm : ∀ g ∈ gs, g.length ≤ maxLen) (h12 : ps.length ≤ 12) (h9 : gs.length ≤ 9) (hG : ∀ g ∈ gs, g.length ≤ 9) :
    Calls Try.prog 14 #[.slice aw ws.length cw, .int .u8 mv, .slice ap ps.length cp, .slice ag gs.length cg] w fun e w' => e = .returned (.bool true) ∧ Below w.heap.size w w' := by
  have HU : Hid (U16s ws) := Lib.hid hu
  have hwl : ws.length ≤ 9223372036854775807 := by unfold maxLen at mw; omega
  obtain ⟨many, rfl⟩ : ∃ m : Nat, mv = (m : Int) := ⟨mv.toNat, by omega⟩
  have hmy : many ≤ 255 := by omega
  have hp9 : ps.length ≤ 9223372036854775807 := by unfold maxLen at mp; omega
  have hg9 : gs.length ≤ 9223372036854775807 := by unfold maxLen at mg; omega
  have GM : Hid (∀ g ∈ gs, g.length ≤ maxLen) := Lib.hid gm
  obtain ⟨L, hL⟩ : ∃ L, owedL ws many = L := ⟨_, rfl⟩
  have hLl := owed_len ws many
  have h0 := owed_err ws many
  rw [hL] at hLl h0
  have HL := Lib.hid hL
  have H0 := Lib.hid h0
  have lL : L.length ≤ 1000 := by omega
  have h12d : decide ((12 : Int) < (ps.length : Int)) = false := by simp; omega
  have h9d : decide ((9 : Int) < (gs.length : Int)) = false := by simp; omega
  have G9 : Hid (∀ g ∈ gs, g.length ≤ 9) := Lib.hid hG
  have HG : Hid (∀ g ∈ gs, g.length ≤ 1000) := Lib.hid (fun g h => by have := hG g h; omega)
  have hpl : ps.length ≤ 1000 := by omega
  have hgl : gs.length ≤ 1000 := by omega
  obtain ⟨hl7, hne, hd, hz⟩ := balsErr_ok h0
  have hok := settleL_ok (l := L) (by omega) hz (debts hd)
  have hcb := cntP_bound (nzB L) L.length
  obtain ⟨S, hS⟩ : ∃ S, settleL L = S := ⟨_, rfl⟩
  obtain ⟨Y, hY⟩ : ∃ Y, groupsL L = Y := ⟨_, rfl⟩
  obtain ⟨z, hze⟩ : ∃ z, cntP (nzB L) L.length = z := ⟨_, rfl⟩
  have hYl : Y.length = (grpL L).length := by rw [← hY, groupsL_length]
  rw [hS, ← hYl, hze] at hok
  rw [hze] at hcb
  have hS7 : S.length ≤ 7 := by omega
  have hY7 : Y.length ≤ 7 := by omega
  have HS := Lib.hid hS
  have HY := Lib.hid hY
  have Hz := Lib.hid hze
  have S9 : Hid (∀ g ∈ Y, g.length ≤ 1000) := Lib.hid fun g h => by
    rw [← hY] at h
    unfold groupsL at h
    obtain ⟨s, _, rfl⟩ := List.mem_map.1 h
    have := setN_len s 10
    omega
  have P1 : Hid (proveF L S (S.length : Int) = true) := Lib.hid (by rw [proveF, h0, hok.1]; simp)
  have P2 : Hid (proveF L S ((S.length : Int) - 1) = false) := Lib.hid (by rw [proveF, show decide ((S.length : Int) ≤ (S.length : Int) - 1) = false by simp; omega]; simp)
  have P3 : Hid (proveG L Y (Y.length : Int) = true) := Lib.hid (by rw [proveG, h0, ← hY, groupsL_are hl7 hz]; simp)
  have P4 : Hid (proveG L Y ((Y.length : Int) + 1) = false) := Lib.hid (by rw [proveG, show decide ((Y.length : Int) + 1 ≤ (Y.length : Int)) = false by simp; omega]; simp)
  have P5 : Hid (proveF L ps ((S.length : Int) - 1) = false) := Lib.hid (by
    rw [proveF]
    cases hq : settlesF L.length L ps
    · simp
    · have := settles_ge (by omega) hq
      rw [show decide ((ps.length : Int) ≤ (S.length : Int) - 1) = false by simp; omega]; simp)
  have P6 : Hid (proveG L gs ((Y.length : Int) + 1) = false) := Lib.hid (by
    rw [proveG]
    cases hq : areG L gs 0
    · simp
    · have := areG_le (by omega) hq
      rw [show decide ((Y.length : Int) + 1 ≤ (gs.length : Int)) = false by simp; omega]; simp)
  have wA1 : IntKind.i64.wrap ((S.length : Int) - 1) = (S.length : Int) - 1 := IntWalk.i64_in _ (by omega)
  have wA2 : IntKind.i64.wrap ((Y.length : Int) + 1) = (Y.length : Int) + 1 := IntWalk.i64_in _ (by omega)
  have wA3 : IntKind.i64.wrap ((z : Int) - (Y.length : Int)) = (S.length : Int) := by rw [IntWalk.i64_in _ (by omega)]; omega
  have f1 : ((S.length : Int) != (S.length : Int)) = false := by simp
  have hz7 : z ≤ 7 := by omega
  clear hG hd hz hne hok hcb hS hY hze hYl hl7
  clear hu lw mw hmv lp mp lg mg gm hL h0
  go_enter Try.func14, Try.ntmps14
  go_wp2_with fail
  go_at_call 41
  refine (owed_eq aw ws cw many L HL _ (hw.below (by (repeat (first | exact Below.refl _ _ | refine Below.alloc ?_ (by first | omega | (simp; done) | (simp; omega)) _ | refine Below.drew ?_ | refine Below.setCell ?_ (by first | omega | (simp; done) | (simp; omega)) _ | refine Below.trans ?_ (Below.mono (by assumption) (by first | omega | (simp; done) | (simp; omega))))))) HU hwl hmy).mono ?_
  rintro e w1 ⟨⟨aL, cL, rfl, iL, nL⟩, b1⟩
  have t1 : Below w.heap.size w w1 := by (repeat (first | exact Below.refl _ _ | refine Below.alloc ?_ (by first | omega | (simp; done) | (simp; omega)) _ | refine Below.drew ?_ | refine Below.setCell ?_ (by first | omega | (simp; done) | (simp; omega)) _ | refine Below.trans ?_ (Below.mono (by assumption) (by first | omega | (simp; done) | (simp; omega)))))
  replace hw := hw.below t1
  replace hp := hp.below t1
  replace hg := hg.below t1
  go_wp2_with fail
  go_at_call 34
  refine (rBals_eq aL L cL _ 0 H0 iL lL).mono ?_
  rintro e _ ⟨rfl, rfl⟩
  go_wp2_with fail
  go_loopw [10] (fun v X => ∃ k : Nat, k ≤ gs.length ∧ v = .int .i64 k ∧ w1 = X ∧ True) (fun v _ => gs.length - (intOf v).toNat)
  case atStart => exact ⟨0, Nat.zero_le _, rfl, rfl, trivial⟩
  case round =>
    obtain ⟨k, hk, rfl, rfl, _⟩ := hrel
    by_cases hlt : k < gs.length
    · have hkI : (k : Int) < (gs.length : Int) := by omega
      obtain ⟨b, off, al, cl, rfl, hbl, hc, hI, hnl⟩ := hg k hlt
      have gmk := G9.out _ (List.getElem_mem hlt)
      obtain ⟨g, hge⟩ : ∃ g, gs[k] = g := ⟨_, rfl⟩
      rw [hge] at hc hI gmk
      clear hge
      have hg9d : decide ((9 : Int) < (g.length : Int)) = false := by simp; omega
      go_wp2
      go_roundw
      case rel => exact ⟨k + 1, by omega, by go_num, (by trivial), trivial⟩
      case measure => simp [intOf]; omega
    · obtain rfl : k = gs.length := by omega
      go_wp2_with fail
      go_at_call 22
      refine (list_eq _ aL L cL iL lL nL).mono ?_
      rintro e w2 ⟨⟨aA, cA, rfl, iA, nA⟩, b2⟩
      have j2 : Below w1.heap.size w1 w2 := by (repeat (first | exact Below.refl _ _ | refine Below.alloc ?_ (by first | omega | (simp; done) | (simp; omega)) _ | refine Below.drew ?_ | refine Below.setCell ?_ (by first | omega | (simp; done) | (simp; omega)) _ | refine Below.trans ?_ (Below.mono (by assumption) (by first | omega | (simp; done) | (simp; omega)))))
      have t2 : Below w.heap.size w w2 := t1.trans (j2.mono t1.size)
      replace hw := hw.below j2
      replace hp := hp.below j2
      replace hg := hg.below j2
      replace iL := iL.below j2
      go_wp2_with fail
      go_at_call 31
      refine (settle_eq aA L cA _ S H0 HS iA nA).mono ?_
      rintro e w3 ⟨⟨aX, cX, rfl, iX⟩, b3⟩
      have j3 : Below w2.heap.size w2 w3 := by (repeat (first | exact Below.refl _ _ | refine Below.alloc ?_ (by first | omega | (simp; done) | (simp; omega)) _ | refine Below.drew ?_ | refine Below.setCell ?_ (by first | omega | (simp; done) | (simp; omega)) _ | refine Below.trans ?_ (Below.mono (by assumption) (by first | omega | (simp; done) | (simp; omega)))))
      have t3 : Below w.heap.size w w3 := t2.trans (j3.mono t2.size)
      replace hw := hw.below j3
      replace hp := hp.below j3
      replace hg := hg.below j3
      replace iL := iL.below j3
      replace iA := iA.below j3
      clear iA
      go_wp2_with fail
      go_at_call 22
      refine (list_eq _ aL L cL iL lL nL).mono ?_
      rintro e w4 ⟨⟨aB, cB, rfl, iB, nB⟩, b4⟩
      have j4 : Below w3.heap.size w3 w4 := by (repeat (first | exact Below.refl _ _ | refine Below.alloc ?_ (by first | omega | (simp; done) | (simp; omega)) _ | refine Below.drew ?_ | refine Below.setCell ?_ (by first | omega | (simp; done) | (simp; omega)) _ | refine Below.trans ?_ (Below.mono (by assumption) (by first | omega | (simp; done) | (simp; omega)))))
      have t4 : Below w.heap.size w w4 := t3.trans (j4.mono t3.size)
      replace hw := hw.below j4
      replace hp := hp.below j4
      replace hg := hg.below j4
      replace iL := iL.below j4
      replace iX := iX.below j4
      go_wp2_with fail
      go_at_call 45
      refine (groups_eq aB L cB _ Y H0 HY iB).mono ?_
      rintro e w5 ⟨⟨aY, cY, rfl, iY⟩, b5⟩
      have j5 : Below w4.heap.size w4 w5 := by (repeat (first | exact Below.refl _ _ | refine Below.alloc ?_ (by first | omega | (simp; done) | (simp; omega)) _ | refine Below.drew ?_ | refine Below.setCell ?_ (by first | omega | (simp; done) | (simp; omega)) _ | refine Below.trans ?_ (Below.mono (by assumption) (by first | omega | (simp; done) | (simp; omega)))))
      have t5 : Below w.heap.size w w5 := t4.trans (j5.mono t4.size)
      replace hw := hw.below j5
      replace hp := hp.below j5
      replace hg := hg.below j5
      replace iL := iL.below j5
      replace iX := iX.below j5
      replace iB := iB.below j5
      clear iB
      go_wp2_with fail
      go_loopw [15, 16] (fun u v X => ∃ k : Nat, k ≤ L.length ∧ v = .int .i64 k ∧ u = .int .i64 (cntP (nzB L) k : Nat) ∧ w5 = X) (fun _ v _ => L.length - (intOf v).toNat)
      case atStart => exact ⟨0, Nat.zero_le _, rfl, rfl, rfl⟩
      case round =>
        obtain ⟨k, hk, rfl, rfl, rfl⟩ := hrel
        by_cases hlt : k < L.length
        · have hkI : (k : Int) < (L.length : Int) := by omega
          obtain ⟨b, off, rfl, hbl, hc⟩ := iL k hlt
          have hc1 : cntP (nzB L) (k + 1) = cntP (nzB L) k + if nzB L k then 1 else 0 := rfl
          have hcb := cntP_bound (nzB L) k
          obtain ⟨m, hm⟩ : ∃ m, cntP (nzB L) k = m := ⟨_, rfl⟩
          obtain ⟨m', hm'⟩ : ∃ m, cntP (nzB L) (k + 1) = m := ⟨_, rfl⟩
          rw [hm, hm'] at hc1
          rw [hm] at hcb ⊢
          have Hm' := Lib.hid hm'
          cases hB : nzB L k
          · rw [hB] at hc1
            have hxb : (L.getD k 0 != 0) = false := hB
            obtain rfl : m' = m := by simpa using hc1
            obtain ⟨x, hx⟩ : ∃ x, L.getD k 0 = x := ⟨_, rfl⟩
            rw [hx] at hc hxb
            clear hm hm' hc1 hB hx
            go_wp2
            go_roundw
            case rel => exact ⟨k + 1, by omega, by go_num, by rw [Hm'.out]; try (first | rfl | (push_cast; rfl)), by trivial⟩
            case measure => simp [intOf]; omega
          · rw [hB] at hc1
            have hxb : (L.getD k 0 != 0) = true := hB
            obtain rfl : m' = m + 1 := by simpa using hc1
            have wm : IntKind.i64.wrap ((m : Int) + 1) = ((m + 1 : Nat) : Int) := by rw [IntWalk.i64_in _ (by omega)]; push_cast; omega
            obtain ⟨x, hx⟩ : ∃ x, L.getD k 0 = x := ⟨_, rfl⟩
            rw [hx] at hc hxb
            clear hm hm' hc1 hB hx
            go_wp2
            go_roundw
            case rel => exact ⟨k + 1, by omega, by go_num, by rw [Hm'.out]; try (first | rfl | (push_cast; rfl)), by trivial⟩
            case measure => simp [intOf]; omega
        · obtain rfl : k = L.length := by omega
          rw [Hz.out]
          go_wp2_with fail
          go_at_call 22
          refine (list_eq _ aL L cL iL lL nL).mono ?_
          rintro e w6 ⟨⟨a1, c1, rfl, i1, n1⟩, b6⟩
          have j6 : Below w5.heap.size w5 w6 := by (repeat (first | exact Below.refl _ _ | refine Below.alloc ?_ (by first | omega | (simp; done) | (simp; omega)) _ | refine Below.drew ?_ | refine Below.setCell ?_ (by first | omega | (simp; done) | (simp; omega)) _ | refine Below.trans ?_ (Below.mono (by assumption) (by first | omega | (simp; done) | (simp; omega)))))
          have t6 : Below w.heap.size w w6 := t5.trans (j6.mono t5.size)
          replace hw := hw.below j6
          replace hp := hp.below j6
          replace hg := hg.below j6
          replace iL := iL.below j6
          replace iX := iX.below j6
          replace iY := iY.below j6
          go_wp2_with fail
          go_at_call 32
          refine (prove_eq a1 L c1 _ true aX S cX (S.length : Int) P1 i1 n1 lL iX (by omega)).mono ?_
          rintro e w7 ⟨rfl, b7⟩
          have j7 : Below w6.heap.size w6 w7 := by (repeat (first | exact Below.refl _ _ | refine Below.alloc ?_ (by first | omega | (simp; done) | (simp; omega)) _ | refine Below.drew ?_ | refine Below.setCell ?_ (by first | omega | (simp; done) | (simp; omega)) _ | refine Below.trans ?_ (Below.mono (by assumption) (by first | omega | (simp; done) | (simp; omega)))))
          have t7 : Below w.heap.size w w7 := t6.trans (j7.mono t6.size)
          replace hw := hw.below j7
          replace hp := hp.below j7
          replace hg := hg.below j7
          replace iL := iL.below j7
          replace iX := iX.below j7
          replace iY := iY.below j7
          replace i1 := i1.below j7
          clear i1
          go_wp2_with fail
          go_at_call 22
          refine (list_eq _ aL L cL iL lL nL).mono ?_
          rintro e w8 ⟨⟨a2, c2, rfl, i2, n2⟩, b8⟩
          have j8 : Below w7.heap.size w7 w8 := by (repeat (first | exact Below.refl _ _ | refine Below.alloc ?_ (by first | omega | (simp; done) | (simp; omega)) _ | refine Below.drew ?_ | refine Below.setCell ?_ (by first | omega | (simp; done) | (simp; omega)) _ | refine Below.trans ?_ (Below.mono (by assumption) (by first | omega | (simp; done) | (simp; omega)))))
          have t8 : Below w.heap.size w w8 := t7.trans (j8.mono t7.size)
          replace hw := hw.below j8
          replace hp := hp.below j8
          replace hg := hg.below j8
          replace iL := iL.below j8
          replace iX := iX.below j8
          replace iY := iY.below j8
          go_wp2_with fail
          go_at_call 32
          refine (prove_eq a2 L c2 _ false aX S cX ((S.length : Int) - 1) P2 i2 n2 lL iX (by omega)).mono ?_
          rintro e w9 ⟨rfl, b9⟩
          have j9 : Below w8.heap.size w8 w9 := by (repeat (first | exact Below.refl _ _ | refine Below.alloc ?_ (by first | omega | (simp; done) | (simp; omega)) _ | refine Below.drew ?_ | refine Below.setCell ?_ (by first | omega | (simp; done) | (simp; omega)) _ | refine Below.trans ?_ (Below.mono (by assumption) (by first | omega | (simp; done) | (simp; omega)))))
          have t9 : Below w.heap.size w w9 := t8.trans (j9.mono t8.size)
          replace hw := hw.below j9
          replace hp := hp.below j9
          replace hg := hg.below j9
          replace iL := iL.below j9
          replace iX := iX.below j9
          replace iY := iY.below j9
          replace i2 := i2.below j9
          clear i2 iX
          go_wp2_with fail
          go_at_call 22
          refine (list_eq _ aL L cL iL lL nL).mono ?_
          rintro e w10 ⟨⟨a3, c3, rfl, i3, n3⟩, b10⟩
          have j10 : Below w9.heap.size w9 w10 := by (repeat (first | exact Below.refl _ _ | refine Below.alloc ?_ (by first | omega | (simp; done) | (simp; omega)) _ | refine Below.drew ?_ | refine Below.setCell ?_ (by first | omega | (simp; done) | (simp; omega)) _ | refine Below.trans ?_ (Below.mono (by assumption) (by first | omega | (simp; done) | (simp; omega)))))
          have t10 : Below w.heap.size w w10 := t9.trans (j10.mono t9.size)
          replace hw := hw.below j10
          replace hp := hp.below j10
          replace hg := hg.below j10
          replace iL := iL.below j10
          replace iY := iY.below j10
          go_wp2_with fail
          go_at_call 46
          refine (proveG_eq a3 L c3 _ true aY Y cY (Y.length : Int) P3 i3 lL iY (by omega) S9).mono ?_
          rintro e w11 ⟨rfl, b11⟩
          have j11 : Below w10.heap.size w10 w11 := by (repeat (first | exact Below.refl _ _ | refine Below.alloc ?_ (by first | omega | (simp; done) | (simp; omega)) _ | refine Below.drew ?_ | refine Below.setCell ?_ (by first | omega | (simp; done) | (simp; omega)) _ | refine Below.trans ?_ (Below.mono (by assumption) (by first | omega | (simp; done) | (simp; omega)))))
          have t11 : Below w.heap.size w w11 := t10.trans (j11.mono t10.size)
          replace hw := hw.below j11
          replace hp := hp.below j11
          replace hg := hg.below j11
          replace iL := iL.below j11
          replace iY := iY.below j11
          replace i3 := i3.below j11
          clear i3
          go_wp2_with fail
          go_at_call 22
          refine (list_eq _ aL L cL iL lL nL).mono ?_
          rintro e w12 ⟨⟨a4, c4, rfl, i4, n4⟩, b12⟩
          have j12 : Below w11.heap.size w11 w12 := by (repeat (first | exact Below.refl _ _ | refine Below.alloc ?_ (by first | omega | (simp; done) | (simp; omega)) _ | refine Below.drew ?_ | refine Below.setCell ?_ (by first | omega | (simp; done) | (simp; omega)) _ | refine Below.trans ?_ (Below.mono (by assumption) (by first | omega | (simp; done) | (simp; omega)))))
          have t12 : Below w.heap.size w w12 := t11.trans (j12.mono t11.size)
          replace hw := hw.below j12
          replace hp := hp.below j12
          replace hg := hg.below j12
          replace iL := iL.below j12
          replace iY := iY.below j12
          go_wp2_with fail
          go_at_call 46
          refine (proveG_eq a4 L c4 _ false aY Y cY ((Y.length : Int) + 1) P4 i4 lL iY (by omega) S9).mono ?_
          rintro e w13 ⟨rfl, b13⟩
          have j13 : Below w12.heap.size w12 w13 := by (repeat (first | exact Below.refl _ _ | refine Below.alloc ?_ (by first | omega | (simp; done) | (simp; omega)) _ | refine Below.drew ?_ | refine Below.setCell ?_ (by first | omega | (simp; done) | (simp; omega)) _ | refine Below.trans ?_ (Below.mono (by assumption) (by first | omega | (simp; done) | (simp; omega)))))
          have t13 : Below w.heap.size w w13 := t12.trans (j13.mono t12.size)
          replace hw := hw.below j13
          replace hp := hp.below j13
          replace hg := hg.below j13
          replace iL := iL.below j13
          replace iY := iY.below j13
          replace i4 := i4.below j13
          clear i4 iY
          go_wp2_with fail
          go_at_call 22
          refine (list_eq _ aL L cL iL lL nL).mono ?_
          rintro e w14 ⟨⟨a5, c5, rfl, i5, n5⟩, b14⟩
          have j14 : Below w13.heap.size w13 w14 := by (repeat (first | exact Below.refl _ _ | refine Below.alloc ?_ (by first | omega | (simp; done) | (simp; omega)) _ | refine Below.drew ?_ | refine Below.setCell ?_ (by first | omega | (simp; done) | (simp; omega)) _ | refine Below.trans ?_ (Below.mono (by assumption) (by first | omega | (simp; done) | (simp; omega)))))
          have t14 : Below w.heap.size w w14 := t13.trans (j14.mono t13.size)
          replace hw := hw.below j14
          replace hp := hp.below j14
          replace hg := hg.below j14
          replace iL := iL.below j14
          go_wp2_with fail
          go_at_call 33
          refine (payments_any ap ps cp _ hp hpl).mono ?_
          rintro e w15 ⟨⟨aP, cP, rfl, iP⟩, b15⟩
          have j15 : Below w14.heap.size w14 w15 := by (repeat (first | exact Below.refl _ _ | refine Below.alloc ?_ (by first | omega | (simp; done) | (simp; omega)) _ | refine Below.drew ?_ | refine Below.setCell ?_ (by first | omega | (simp; done) | (simp; omega)) _ | refine Below.trans ?_ (Below.mono (by assumption) (by first | omega | (simp; done) | (simp; omega)))))
          have t15 : Below w.heap.size w w15 := t14.trans (j15.mono t14.size)
          replace hw := hw.below j15
          replace hp := hp.below j15
          replace hg := hg.below j15
          replace iL := iL.below j15
          replace i5 := i5.below j15
          go_wp2_with fail
          go_at_call 32
          refine (prove_eq a5 L c5 _ false aP ps cP ((S.length : Int) - 1) P5 i5 n5 lL iP hpl).mono ?_
          rintro e w16 ⟨rfl, b16⟩
          have j16 : Below w15.heap.size w15 w16 := by (repeat (first | exact Below.refl _ _ | refine Below.alloc ?_ (by first | omega | (simp; done) | (simp; omega)) _ | refine Below.drew ?_ | refine Below.setCell ?_ (by first | omega | (simp; done) | (simp; omega)) _ | refine Below.trans ?_ (Below.mono (by assumption) (by first | omega | (simp; done) | (simp; omega)))))
          have t16 : Below w.heap.size w w16 := t15.trans (j16.mono t15.size)
          replace hw := hw.below j16
          replace hp := hp.below j16
          replace hg := hg.below j16
          replace iL := iL.below j16
          replace i5 := i5.below j16
          replace iP := iP.below j16
          clear i5 iP
          go_wp2_with fail
          go_at_call 22
          refine (list_eq _ aL L cL iL lL nL).mono ?_
          rintro e w17 ⟨⟨a6, c6, rfl, i6, n6⟩, b17⟩
          have j17 : Below w16.heap.size w16 w17 := by (repeat (first | exact Below.refl _ _ | refine Below.alloc ?_ (by first | omega | (simp; done) | (simp; omega)) _ | refine Below.drew ?_ | refine Below.setCell ?_ (by first | omega | (simp; done) | (simp; omega)) _ | refine Below.trans ?_ (Below.mono (by assumption) (by first | omega | (simp; done) | (simp; omega)))))
          have t17 : Below w.heap.size w w17 := t16.trans (j17.mono t16.size)
          replace hw := hw.below j17
          replace hp := hp.below j17
          replace hg := hg.below j17
          replace iL := iL.below j17
          go_wp2_with fail
          go_at_call 47
          refine (lists_eq _ ag gs cg hg hgl HG).mono ?_
          rintro e w18 ⟨⟨aQ, cQ, rfl, iQ⟩, b18⟩
          have j18 : Below w17.heap.size w17 w18 := by (repeat (first | exact Below.refl _ _ | refine Below.alloc ?_ (by first | omega | (simp; done) | (simp; omega)) _ | refine Below.drew ?_ | refine Below.setCell ?_ (by first | omega | (simp; done) | (simp; omega)) _ | refine Below.trans ?_ (Below.mono (by assumption) (by first | omega | (simp; done) | (simp; omega)))))
          have t18 : Below w.heap.size w w18 := t17.trans (j18.mono t17.size)
          replace hw := hw.below j18
          replace hp := hp.below j18
          replace hg := hg.below j18
          replace iL := iL.below j18
          replace i6 := i6.below j18
          go_wp2_with fail
          go_at_call 46
          refine (proveG_eq a6 L c6 _ false aQ gs cQ ((Y.length : Int) + 1) P6 i6 lL iQ hgl HG).mono ?_
          rintro e w19 ⟨rfl, b19⟩
          have j19 : Below w18.heap.size w18 w19 := by (repeat (first | exact Below.refl _ _ | refine Below.alloc ?_ (by first | omega | (simp; done) | (simp; omega)) _ | refine Below.drew ?_ | refine Below.setCell ?_ (by first | omega | (simp; done) | (simp; omega)) _ | refine Below.trans ?_ (Below.mono (by assumption) (by first | omega | (simp; done) | (simp; omega)))))
          have t19 : Below w.heap.size w w19 := t18.trans (j19.mono t18.size)
          replace hw := hw.below j19
          replace hp := hp.below j19
          replace hg := hg.below j19
          replace iL := iL.below j19
          replace i6 := i6.below j19
          replace iQ := iQ.below j19
          clear i6 iQ
          go_wp2_with fail
          go_at_call 17
          refine (awake_any _).mono ?_
          rintro e w20 ⟨rfl, b20⟩
          have j20 : Below w19.heap.size w19 w20 := by (repeat (first | exact Below.refl _ _ | refine Below.alloc ?_ (by first | omega | (simp; done) | (simp; omega)) _ | refine Below.drew ?_ | refine Below.setCell ?_ (by first | omega | (simp; done) | (simp; omega)) _ | refine Below.trans ?_ (Below.mono (by assumption) (by first | omega | (simp; done) | (simp; omega)))))
          have t20 : Below w.heap.size w w20 := t19.trans (j20.mono t19.size)
          replace hw := hw.below j20
          replace hp := hp.below j20
          replace hg := hg.below j20
          replace iL := iL.below j20
          go_wp2_with fail
          go_ret
          exact ⟨rfl, t20⟩
theorem fewest_walk (aw : Option Addr) (ws : List Int) (cw : Nat) (mv : Int) (ap : Option Addr) (ps : List (Int × Int × Int)) (cp : Nat) (ag : Option Addr) (gs : List (List Int)) (cg : Nat) (w : World) (hw : U16At w aw ws) (nw : aw = none → cw = 0) (lw : ws.length ≤ cw) (mw : cw ≤ maxLen) (hu : ∀ n ∈ ws, 0 ≤ n ∧ n ≤ 65535) (hmv : 0 ≤ mv ∧ mv ≤ 255) (hp : Recs3At w ap ps) (np : ap = none → cp = 0) (lp : ps.length ≤ cp) (mp : cp ≤ maxLen) (hg : ListsN w ag gs) (ng : ag = none → cg = 0) (lg : gs.length ≤ cg) (mg : cg ≤ maxLen) (gm : ∀ g ∈ gs, g.length ≤ maxLen) :
    Calls Try.prog 14 #[.slice aw ws.length cw, .int .u8 mv, .slice ap ps.length cp, .slice ag gs.length cg] w fun e w' => e = .returned (.bool true) ∧ Below w.heap.size w w' := by
  by_cases h12 : ps.length ≤ 12
  · by_cases h9 : gs.length ≤ 9
    · by_cases hG : ∀ g ∈ gs, g.length ≤ 9
      · exact fewest_b aw ws cw mv ap ps cp ag gs cg w hw nw lw mw hu hmv hp np lp mp hg ng lg mg gm h12 h9 hG
      · exact fewest_a3 aw ws cw mv ap ps cp ag gs cg w hw nw lw mw hu hmv hp np lp mp hg ng lg mg gm h12 h9 hG
    · exact fewest_a2 aw ws cw mv ap ps cp ag gs cg w hw nw lw mw hu hmv hp np lp mp hg ng lg mg gm h12 h9
  · exact fewest_a1 aw ws cw mv ap ps cp ag gs cg w hw nw lw mw hu hmv hp np lp mp hg ng lg mg gm h12
end Go.Proofs.Ytomjlmhnjgohdaa
