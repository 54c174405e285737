/- pay: lists of lists; the reference's AreGroups -/
import Derived.Test.YtomjlmhnjgohdaaBr
import Derived.Test.YtomjlmhnjgohdaaAy
namespace Go.Proofs.Ytomjlmhnjgohdaa
set_option linter.unusedVariables false
set_option linter.unusedSimpArgs false
set_option linter.unnecessarySimpa false
open Go.RowKit Go.Flow Go.Shelf

/-- A slice of slices, as it is given: an empty one without an address has no room. -/
def ListsN (w : World) (a : Option Addr) (xss : List (List Int)) : Prop :=
  ∀ k (h : k < xss.length), ∃ b off al c, a = some ⟨b, off, none⟩ ∧ b < w.heap.size ∧ w.cell? ⟨b, off + k, none⟩ = some (.slice al xss[k].length c) ∧ IntsAt w al xss[k] ∧ (al = none → c = 0)
theorem ListsN.below {w w' : World} {a : Option Addr} {xss : List (List Int)} (h : ListsN w a xss) (hb : Below w.heap.size w w') : ListsN w' a xss := fun k hk =>
  let ⟨b, off, al, c, ha, hlt, hc, hI, hn⟩ := h k hk
  ⟨b, off, al, c, ha, Nat.lt_of_lt_of_le hlt hb.size, (hb.cell (p := ⟨b, off + k, none⟩) hlt).trans hc, hI.below hb, hn⟩
theorem ListsN.to {w : World} {a : Option Addr} {xss : List (List Int)} (h : ListsN w a xss) : ListsAt w a xss := fun k hk =>
  let ⟨b, off, al, c, ha, hlt, hc, hI, _⟩ := h k hk
  ⟨b, off, al, c, ha, hlt, hc, hI⟩
theorem Lists.grown {w w' : World} {vs : List Value} {xss : List (List Int)} (h : Lists w vs xss) {E : TypeId} (hE : (3 : TypeId) ≠ E) {size base : Nat} {a : Option Addr} {c n : Nat} {xs : List Value} (h' : OwnL E size base w a c n xs) (hg : w.grownBy w' (Value.slice a n c).ownBlock) : Lists w' vs xss := h.beside hE h' hg
section
variable (ag : Option Addr) (gs : List (List Int)) (cg : Nat) (w : World) (hg : ListsN w ag gs) (hgl : gs.length ≤ 1000) (hgg : ∀ g ∈ gs, g.length ≤ 1000)
include hg hgl hgg
set_option maxRecDepth 100000 in
set_option maxHeartbeats 2000000 in
theorem lists_any : Calls Try.prog 47 #[.slice ag gs.length cg] w fun e w' => (∃ a c, e = .returned (.slice a gs.length c) ∧ ListsAt w' a gs) ∧ Below w.heap.size w w' := by
  go_enter Try.func47, Try.ntmps47
  go_wp2
  go_loopw [3, 4] (fun u v X => ∃ (k : Nat) (vs : List Value) (ao : Option Addr) (co : Nat), k ≤ gs.length ∧ v = .int .i64 k ∧ u = .slice ao k co ∧ OwnL 25 1 w.heap.size X ao co k vs ∧ Lists X vs (gs.take k) ∧ Below w.heap.size w X) (fun _ v _ => gs.length - (intOf v).toNat)
  case atStart => exact ⟨0, [], none, 0, Nat.zero_le _, rfl, rfl, OwnL.nil _ _ _ _, Lists.nil _, Below.refl _ _⟩
  case round =>
    obtain ⟨k, vs, ao, co, hk, rfl, rfl, own, hL, hbX⟩ := hrel
    rename World => X
    by_cases hlt : k < gs.length
    · have hkI : (k : Int) < (gs.length : Int) := by omega
      obtain ⟨b, off, al, c, rfl, hbl, hc, hI, hnl⟩ := (hg.below hbX) k hlt
      have hgl2 := hgg _ (List.getElem_mem hlt)
      have htk : gs.take (k + 1) = gs.take k ++ [gs[k]] := List.take_succ_eq_append_getElem hlt
      obtain ⟨l, hle⟩ : ∃ l, gs[k] = l := ⟨_, rfl⟩
      rw [hle] at hc hI hgl2 htk
      have Htk := Lib.hid htk
      clear htk hle
      have hzX := hbX.size
      go_wp2_with fail
      go_at_call 22
      refine (list_any al l c X hI (by omega) hnl).mono ?_
      rintro e X2 ⟨a1, c1, rfl, o1, b1⟩
      have own2 := own.kept b1
      have hL2 := (hL.below b1).snoc o1
      have b2 := hbX.trans (b1.mono hzX)
      go_wp2_with (at_builtin; refine wpList_app_g elInts rfl _ _ rfl w.heap.size ao k co _ rfl (own2.alloc _) (some ⟨X2.heap.size, 0, none⟩) 1 1 [.slice a1 l.length c1] rfl (fun h => by cases h) rfl (Cells.src (Cells.new _ _ _)) (fun u hu => by simp at hu; subst hu; rfl) (by unfold maxLen; omega) (by omega) (by have := b2.size; simp; omega) ?_; intro a6 c6 w6 own6 hb6 hg6)
      have hL6 := (hL2.below ((Below.refl _ _).alloc (Nat.le_refl _) _)).grown (by decide) (own2.alloc _) hg6
      have b6 := (b2.alloc b2.size _).trans hb6
      go_wp2
      go_roundw
      case rel => exact ⟨k + 1, _, a6, c6, by omega, by go_num, rfl, own6, by rw [Htk.out]; exact hL6, b6⟩
      case measure => simp [intOf]; omega
    · obtain rfl : k = gs.length := by omega
      rw [List.take_length] at hL
      have hI := hL.at_ own
      go_wp2
      go_ret
      first | exact ⟨⟨ao, ⟨co, rfl⟩, hI⟩, hbX⟩ | exact ⟨⟨ao, co, rfl, hI⟩, hbX⟩
end

/-! ### AreGroups -/
def seenV (n seen : Nat) : List Value := (List.range n).map fun s => .bool (seen.testBit s)
theorem seenV_at {n seen s : Nat} (h : s < n) : (seenV n seen)[s]? = some (.bool (seen.testBit s)) := by simp [seenV, h]
theorem seenV_set {n seen s : Nat} (h : s < n) : (seenV n seen).set s (.bool true) = seenV n (seen ||| 2 ^ s) := by
  apply List.ext_getElem?
  intro i
  rw [List.getElem?_set]
  have hl : (seenV n seen).length = n := by simp [seenV]
  by_cases hi : i < n
  · rw [seenV_at hi, seenV_at hi, Nat.testBit_or, Nat.testBit_two_pow]
    by_cases e : s = i
    · subst e; simp [hl, h]
    · simp [e]
  · rw [List.getElem?_eq_none (l := seenV n (seen ||| 2 ^ s)) (by simp [seenV]; omega), List.getElem?_eq_none (l := seenV n seen) (by rw [hl]; omega)]
    by_cases e : s = i
    · subst e; omega
    · simp [e]
theorem info_bool : (Try.prog.info? 4).map (fun i => (i.zero, i.size, i.bytes)) = some (some (.bool false), 1, 1) := by kernel_rfl
theorem made_bools (n : Nat) : madeCells (Value.bool false).cells n = (seenV n 0).toArray := by
  apply Array.ext
  · simp [size_madeCells, seenV]
  · intro i h1 h2
    simp [madeCells, seenV, Value.cells, Nat.mod_one]
theorem make_bools (n : Nat) (hn : n ≤ 1000) (W : World) : Sem.run Try.prog (Instr.makeSlice 122 (.int .i64 (n : Int)) (.int .i64 (n : Int))) W = .ok (.slice (some ⟨W.heap.size, 0, none⟩) n n) (W.alloc (.cells (seenV n 0).toArray 4)) := by
  obtain ⟨i, hi, h0, h1, h2⟩ := info_parts info_bool
  have := run_make (P := Try.prog) W 122 4 i (.bool false) Try.underlying122 hi h0 .i64 .i64 n n (by omega) (Int.le_refl _) (by rw [h2]; omega) (by omega)
  rw [h1, Nat.mul_one, Int.toNat_natCast, made_bools n] at this
  exact this
section
variable (a : Option Addr) (l : List Int) (c : Nat) (ag : Option Addr) (gs : List (List Int)) (cg : Nat) (w : World) (hx : IntsAt w a l) (h0 : balsErr l = 0) (hg : ListsAt w ag gs) (hgl : gs.length ≤ 1000) (hgg : ∀ g ∈ gs, g.length ≤ 1000)
include hx h0 hg hgl hgg
set_option maxRecDepth 100000 in
set_option maxHeartbeats 4000000 in
theorem rAreGroups_any : Calls Try.prog 48 #[.slice a l.length c, .slice ag gs.length cg] w fun e w' => e = .returned (.bool (areG l gs 0)) ∧ Below w.heap.size w w' := by
  obtain ⟨hl7, hne, hd, hz⟩ := balsErr_ok h0
  have hlp : 0 < l.length := List.length_pos_iff.2 hne
  have hbd : BdI l 100000 := debts hd
  obtain ⟨Z, hZ⟩ : ∃ Z, areG l gs 0 = Z := ⟨_, rfl⟩
  rw [hZ]
  have HZ := Lib.hid hZ
  have Hbd := Lib.hid hbd
  have wL : IntKind.i64.wrap ((l.length : Int) - 1) = (l.length : Int) - 1 := IntWalk.i64_in _ (by omega)
  have hmk := fun W => make_bools l.length (by omega) W
  clear hZ hbd hd hz hne h0
  go_enter Try.func48, Try.ntmps48
  go_wp2
  obtain ⟨W1, hW1⟩ : ∃ z : World, z = w.alloc (.cells (seenV l.length 0).toArray 4) := ⟨_, rfl⟩
  have t1 : Below w.heap.size w W1 := by rw [hW1]; exact (Below.refl _ _).alloc (Nat.le_refl _) _
  have hR1 : RowAt W1 w.heap.size 4 (seenV l.length 0) := by rw [hW1]; exact ⟨_, Cells.new _ _ _, fun j u hu => by simpa using hu⟩
  rw [← hW1]
  clear hW1
  obtain ⟨G, hG⟩ : ∃ G, w.heap.size = G := ⟨_, rfl⟩
  have hGw : w.heap.size ≤ G := by omega
  rw [hG] at hR1 ⊢
  go_loopw [6, 7, 8, 9] (fun j _ _ _ X => ∃ (k seen : Nat), k ≤ gs.length ∧ j = .int .i64 k ∧ RowAt X G 4 (seenV l.length seen) ∧ Below w.heap.size w X ∧ areG l (gs.drop k) seen = Z) (fun j _ _ _ _ => gs.length - (intOf j).toNat)
  case atStart => exact ⟨0, 0, Nat.zero_le _, rfl, hR1, t1, by simpa using HZ.out⟩
  case round =>
    obtain ⟨k, seen, hk, rfl, hRX, hb, hs⟩ := hrel
    rename World => X
    by_cases hlt : k < gs.length
    · have hkI : (k : Int) < (gs.length : Int) := by omega
      obtain ⟨bq, oq, al, cl, rfl, hbq, hcq, hI⟩ := hg k hlt
      rw [areG_at l gs hlt] at hs
      have hgl2 := hgg _ (List.getElem_mem hlt)
      obtain ⟨g, hge⟩ : ∃ g, gs[k] = g := ⟨_, rfl⟩
      rw [hge] at hs hcq hI hgl2
      have Hs := Lib.hid hs
      clear hs hge
      go_wp2
      go_loopw [7, 8, 9] (fun v j _ Y => ∃ (i se : Nat) (su : Int), i ≤ g.length ∧ j = .int .i64 i ∧ v = .int .i64 su ∧ RowAt Y G 4 (seenV l.length se) ∧ -100000 * (i : Int) ≤ su ∧ su ≤ 100000 * (i : Int) ∧ Below w.heap.size w Y ∧ restG l g (gs.drop (k + 1)) (g.length - i) i se su = Z) (fun _ j _ _ => g.length - (intOf j).toNat)
      case atStart => exact ⟨0, seen, 0, Nat.zero_le _, rfl, rfl, hRX, by simp, by simp, hb, Hs.out⟩
      case round =>
        obtain ⟨i, se, su, hi, rfl, rfl, hRY, hsu1, hsu2, hbY, hr⟩ := hrel
        rename World => Y
        have Hr := Lib.hid hr
        clear hr hRX
        have hcq2 := below_cell hbY hcq
        have hbq2 := cell_ltK hcq2
        by_cases hil : i < g.length
        · have hiI : (i : Int) < (g.length : Int) := by omega
          obtain ⟨bg, og, rfl, hbg, hcg⟩ := (hI.below hbY) i hil
          obtain ⟨M, hM⟩ : ∃ M, g.length - i = M + 1 ∧ g.length - (i + 1) = M := ⟨g.length - (i + 1), by omega, rfl⟩
          obtain ⟨hM1, hM2⟩ := hM
          have HM := Lib.hid hM1
          have hst : stepB l g i se = (inR (g.getD i 0) 0 ((l.length : Int) - 1) && (i == 0 || decide (g.getD (i - 1) 0 < g.getD i 0)) && (l.getD (g.getD i 0).toNat 0 != 0) && !se.testBit (g.getD i 0).toNat) := rfl
          have hgo : stepB l g i se = true → restG l g (gs.drop (k + 1)) (M + 1) i se su = restG l g (gs.drop (k + 1)) (g.length - (i + 1)) (i + 1) (se ||| 2 ^ (g.getD i 0).toNat) (su + l.getD (g.getD i 0).toNat 0) := fun h => by rw [hM2]; exact restG_go h
          obtain ⟨s, hse2⟩ : ∃ s, g.getD i 0 = s := ⟨_, rfl⟩
          rw [hse2] at hcg hst hgo
          have wi := rin_any s 0 ((l.length : Int) - 1)
          clear hse2 hM1 hM2
          cases hV : inR s 0 ((l.length : Int) - 1)
          · rw [hV] at wi hst
            obtain rfl : Z = false := by rw [← Hr.out, HM.out, restG_no]; rw [hst]; rfl
            clear hst hgo hV Hr
            go_wp2_with (go_at_call 24; (with_reducible refine (wi _).mono ?_); rintro e _ ⟨rfl, rfl⟩)
            go_ret
            exact ⟨rfl, hbY⟩
          · rw [hV] at wi hst
            have hr := inR_iff.1 hV
            obtain ⟨sN, rfl⟩ : ∃ sN : Nat, s = (sN : Int) := ⟨s.toNat, by omega⟩
            have hsl : sN < l.length := by omega
            have hsI : (sN : Int) < (l.length : Int) := by omega
            simp only [Int.toNat_natCast] at hst hgo
            obtain ⟨bb, ob, rfl, hbb, hcb⟩ := (hx.below hbY) sN hsl
            replace hcb := hcb.trans (show some (Value.int .i64 (l.getD sN 0)) = some (.int .i64 l[sN]) by simp [hsl])
            have cs := hRY.cell (seenV_at hsl)
            have lG := hRY.lt
            clear hV hr
            cases i with
            | zero =>
              have hgt : decide ((0 : Int) < ((0 : Nat) : Int)) = false := rfl
              rw [Nat.add_zero] at hcg
              obtain ⟨v, hve⟩ : ∃ v, l[sN] = v := ⟨_, rfl⟩
              rw [hve] at hcb
              have hv : l.getD sN 0 = v := by simp [hsl, hve]
              have hvb := Hbd.out.at_ sN hsl
              rw [hv] at hvb hst hgo
              clear hve
              by_cases hv0 : v = 0
              · have hvb0 : (v == 0) = true := by simpa using hv0
                obtain rfl : Z = false := by rw [← Hr.out, HM.out, restG_no]; rw [hst]; simp [hv0]
                clear hst hgo hv0 hv cs
                go_wp2_with (go_at_call 24; (with_reducible refine (wi _).mono ?_); rintro e _ ⟨rfl, rfl⟩)
                go_ret
                exact ⟨rfl, hbY⟩
              · have hvb0 : (v == 0) = false := by simpa using hv0
                cases hB : se.testBit sN
                · rw [hB] at cs hst
                  have hst2 : stepB l g 0 se = true := by rw [hst]; simp [hv0]
                  have hr := Hr.out
                  rw [HM.out, hgo hst2] at hr
                  have wS : IntKind.i64.wrap (su + v) = su + v := IntWalk.i64_in _ (by omega)
                  have Hr2 := Lib.hid hr
                  have hR2 := hRY.set sN (.bool true)
                  rw [seenV_set hsl] at hR2
                  have bY2 := hbY.setCell (p := ⟨G, sN, none⟩) hGw (.bool true)
                  have fG := hRY.frozen sN
                  have hv2 : l.getD sN 0 = v := hv
                  clear hst hgo hv hr hst2 hB Hr
                  obtain ⟨Y2, hY2⟩ : ∃ z : World, z = Y.setCell ⟨G, sN, none⟩ (.bool true) := ⟨_, rfl⟩
                  rw [← hY2] at hR2 bY2
                  have hcb2 : Y2.cell? ⟨bb, ob + sN, none⟩ = some (.int .i64 v) := by
                    obtain ⟨_, _, e3, _, hcb3⟩ := (hx.below bY2) sN hsl
                    cases e3
                    rw [hcb3, hv2]
                  clear hv2
                  go_upto_region 13 with (go_at_call 24; (with_reducible refine (wi _).mono ?_); rintro e _ ⟨rfl, rfl⟩)
                  rw [← hY2]
                  have lb2 := cell_ltK hcb2
                  clear hY2 cs fG lG hcb
                  go_wp2
                  go_roundw
                  case rel => exact ⟨0 + 1, se ||| 2 ^ sN, su + v, by omega, by go_num, rfl, hR2, by push_cast; push_cast at hsu1; omega, by push_cast; push_cast at hsu2; omega, bY2, Hr2.out⟩
                  case measure => simp [intOf]; omega
                · rw [hB] at cs hst
                  obtain rfl : Z = false := by rw [← Hr.out, HM.out, restG_no]; rw [hst]; simp
                  clear hst hgo hv hB Hr
                  go_wp2_with (go_at_call 24; (with_reducible refine (wi _).mono ?_); rintro e _ ⟨rfl, rfl⟩)
                  go_ret
                  exact ⟨rfl, hbY⟩
            | succ i =>
              have hgt : decide ((0 : Int) < ((i + 1 : Nat) : Int)) = true := by simp
              have wI : IntKind.i64.wrap (((i + 1 : Nat) : Int) - 1) = (i : Int) := by rw [IntWalk.i64_in _ (by omega)]; omega
              obtain ⟨bg2, og2, e2, _, hcp⟩ := (hI.below hbY) i (by omega)
              cases e2
              have hiI2 : (i : Int) < (g.length : Int) := by omega
              simp only [Nat.add_sub_cancel] at hst
              obtain ⟨pv, hpv⟩ : ∃ pv, g.getD i 0 = pv := ⟨_, rfl⟩
              rw [hpv] at hcp hst
              clear hpv
              by_cases hle : (sN : Int) ≤ pv
              · have hled : decide ((sN : Int) ≤ pv) = true := by simpa using hle
                obtain rfl : Z = false := by rw [← Hr.out, HM.out, restG_no]; rw [hst]; simp [show ¬ pv < (sN : Int) by omega]
                clear hst hgo Hr cs
                go_wp2_with (go_at_call 24; (with_reducible refine (wi _).mono ?_); rintro e _ ⟨rfl, rfl⟩)
                go_ret
                exact ⟨rfl, hbY⟩
              · have hled : decide ((sN : Int) ≤ pv) = false := by simpa using hle
                rw [show decide (pv < (sN : Int)) = true by simp; omega] at hst
                obtain ⟨v, hve⟩ : ∃ v, l[sN] = v := ⟨_, rfl⟩
                rw [hve] at hcb
                have hv : l.getD sN 0 = v := by simp [hsl, hve]
                have hvb := Hbd.out.at_ sN hsl
                rw [hv] at hvb hst hgo
                clear hve
                by_cases hv0 : v = 0
                · have hvb0 : (v == 0) = true := by simpa using hv0
                  obtain rfl : Z = false := by rw [← Hr.out, HM.out, restG_no]; rw [hst]; simp [hv0]
                  clear hst hgo hv0 hv cs
                  go_wp2_with (go_at_call 24; (with_reducible refine (wi _).mono ?_); rintro e _ ⟨rfl, rfl⟩)
                  go_ret
                  exact ⟨rfl, hbY⟩
                · have hvb0 : (v == 0) = false := by simpa using hv0
                  cases hB : se.testBit sN
                  · rw [hB] at cs hst
                    have hst2 : stepB l g (i + 1) se = true := by rw [hst]; simp [hv0]
                    have hr := Hr.out
                    rw [HM.out, hgo hst2] at hr
                    have wS : IntKind.i64.wrap (su + v) = su + v := IntWalk.i64_in _ (by omega)
                    have Hr2 := Lib.hid hr
                    have hR2 := hRY.set sN (.bool true)
                    rw [seenV_set hsl] at hR2
                    have bY2 := hbY.setCell (p := ⟨G, sN, none⟩) hGw (.bool true)
                    have fG := hRY.frozen sN
                    have hv2 : l.getD sN 0 = v := hv
                    clear hst hgo hv hr hst2 hB Hr
                    obtain ⟨Y2, hY2⟩ : ∃ z : World, z = Y.setCell ⟨G, sN, none⟩ (.bool true) := ⟨_, rfl⟩
                    rw [← hY2] at hR2 bY2
                    have hcb2 : Y2.cell? ⟨bb, ob + sN, none⟩ = some (.int .i64 v) := by
                      obtain ⟨_, _, e3, _, hcb3⟩ := (hx.below bY2) sN hsl
                      cases e3
                      rw [hcb3, hv2]
                    clear hv2
                    go_upto_region 13 with (go_at_call 24; (with_reducible refine (wi _).mono ?_); rintro e _ ⟨rfl, rfl⟩)
                    rw [← hY2]
                    have lb2 := cell_ltK hcb2
                    clear hY2 cs fG lG hcb
                    go_wp2
                    go_roundw
                    case rel => exact ⟨(i + 1) + 1, se ||| 2 ^ sN, su + v, by omega, by go_num, rfl, hR2, by push_cast; push_cast at hsu1; omega, by push_cast; push_cast at hsu2; omega, bY2, Hr2.out⟩
                    case measure => simp [intOf]; omega
                  · rw [hB] at cs hst
                    obtain rfl : Z = false := by rw [← Hr.out, HM.out, restG_no]; rw [hst]; simp
                    clear hst hgo hv hB Hr
                    go_wp2_with (go_at_call 24; (with_reducible refine (wi _).mono ?_); rintro e _ ⟨rfl, rfl⟩)
                    go_ret
                    exact ⟨rfl, hbY⟩
        · obtain rfl : i = g.length := by omega
          have hr := Hr.out
          rw [Nat.sub_self, restG_zero] at hr
          by_cases hg0 : g.length = 0
          · have hgb : ((g.length : Int) == 0) = true := by rw [hg0]; rfl
            obtain rfl : Z = false := by rw [← hr, hg0]; rfl
            clear hr Hr
            go_wp2
            go_ret
            exact ⟨rfl, hbY⟩
          · have hgb : ((g.length : Int) == 0) = false := by rw [beq_eq_false_iff_ne]; omega
            have hgn : (g.length == 0) = false := by simpa using hg0
            rw [hgn] at hr
            by_cases hs0 : su = 0
            · have hsb : (su != 0) = false := by simp [hs0]
              rw [show (su == 0) = true by simp [hs0]] at hr
              have Hr2 := Lib.hid (show areG l (gs.drop (k + 1)) se = Z from hr)
              clear hr Hr hs0 hg0 hgn
              go_wp2
              go_roundw
              case rel => exact ⟨k + 1, se, by omega, by go_num, hRY, hbY, Hr2.out⟩
              case measure => simp [intOf]; omega
            · have hsb : (su != 0) = true := by simpa using hs0
              obtain rfl : Z = false := by rw [← hr, show (su == 0) = false by simpa using hs0]; rfl
              clear hr Hr hs0 hg0 hgn
              go_wp2
              go_ret
              exact ⟨rfl, hbY⟩
    · obtain rfl : k = gs.length := by omega
      rw [List.drop_length] at hs
      have Hs := Lib.hid (show doneB l seen 0 = Z from hs)
      clear hs
      go_wp2
      go_loopw [10] (fun j Y => ∃ i : Nat, i ≤ l.length ∧ j = .int .i64 i ∧ Y = X ∧ doneB l seen i = Z) (fun j _ => l.length - (intOf j).toNat)
      case atStart => exact ⟨0, Nat.zero_le _, rfl, rfl, Hs.out⟩
      case round =>
        obtain ⟨i, hi, rfl, rfl, hdn⟩ := hrel
        by_cases hil : i < l.length
        · have hiI : (i : Int) < (l.length : Int) := by omega
          rw [doneB_at l seen hil] at hdn
          obtain ⟨bb, ob, rfl, hbb, hcb⟩ := (hx.below hb) i hil
          have cs := hRX.cell (seenV_at hil)
          have lG := hRX.lt
          obtain ⟨v, hve⟩ : ∃ v, l.getD i 0 = v := ⟨_, rfl⟩
          obtain ⟨B, hB⟩ : ∃ B, seen.testBit i = B := ⟨_, rfl⟩
          rw [hve] at hcb hdn
          rw [hB] at cs hdn
          clear hve hB
          by_cases hv0 : v = 0
          · have hvb0 : (v != 0) = false := by simpa using hv0
            rw [show (v == 0) = true by simpa using hv0] at hdn
            have Hd := Lib.hid (show doneB l seen (i + 1) = Z by rw [← hdn]; simp)
            clear hdn Hs hv0
            go_wp2
            go_roundw
            case rel => exact ⟨i + 1, by omega, by go_num, by trivial, Hd.out⟩
            case measure => simp [intOf]; omega
          · have hvb0 : (v != 0) = true := by simpa using hv0
            rw [show (v == 0) = false by simpa using hv0] at hdn
            cases B
            · obtain rfl : Z = false := by rw [← hdn]; rfl
              clear hdn Hs hv0
              go_wp2
              go_ret
              exact ⟨rfl, hb⟩
            · have Hd := Lib.hid (show doneB l seen (i + 1) = Z by rw [← hdn]; simp)
              clear hdn Hs hv0
              go_wp2
              go_roundw
              case rel => exact ⟨i + 1, by omega, by go_num, by trivial, Hd.out⟩
              case measure => simp [intOf]; omega
        · obtain rfl : i = l.length := by omega
          obtain rfl : Z = true := by rw [← hdn, doneB_end]
          clear hdn Hs
          go_wp2
          go_ret
          exact ⟨rfl, hb⟩
end
end Go.Proofs.Ytomjlmhnjgohdaa
