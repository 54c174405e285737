/- pay: ProveGroups -/
import Derived.Test.YtomjlmhnjgohdaaBc
namespace Go.Proofs.Ytomjlmhnjgohdaa
set_option linter.unusedVariables false
set_option linter.unusedSimpArgs false
set_option linter.unnecessarySimpa false
open Go.RowKit Go.Flow Go.Shelf

/-- The k-th station of a group may stand there. -/
def stepB (l g : List Int) (k seen : Nat) : Bool := inR (g.getD k 0) 0 ((l.length : Int) - 1) && (k == 0 || decide (g.getD (k - 1) 0 < g.getD k 0)) && (l.getD (g.getD k 0).toNat 0 != 0) && !seen.testBit (g.getD k 0).toNat
def runG (l g : List Int) : Nat → Nat → Nat → Int → Option (Nat × Int)
  | 0, _, seen, sum => some (seen, sum)
  | m + 1, k, seen, sum => if stepB l g k seen then runG l g m (k + 1) (seen ||| 2 ^ (g.getD k 0).toNat) (sum + l.getD (g.getD k 0).toNat 0) else none
def doneB (l : List Int) (seen k : Nat) : Bool := ((List.range l.length).drop k).all fun s => l.getD s 0 == 0 || seen.testBit s
def areG (l : List Int) : List (List Int) → Nat → Bool
  | [], seen => doneB l seen 0
  | g :: gs, seen => match runG l g g.length 0 seen 0 with
    | none => false
    | some r => !(g.length == 0) && r.2 == 0 && areG l gs r.1
def restG (l g : List Int) (gs : List (List Int)) (m k seen : Nat) (sum : Int) : Bool := match runG l g m k seen sum with
  | none => false
  | some r => !(g.length == 0) && r.2 == 0 && areG l gs r.1
theorem areG_cons (l g : List Int) (gs : List (List Int)) (seen : Nat) : areG l (g :: gs) seen = restG l g gs g.length 0 seen 0 := rfl
theorem areG_at (l : List Int) (gs : List (List Int)) {k : Nat} (hk : k < gs.length) (seen : Nat) : areG l (gs.drop k) seen = restG l gs[k] (gs.drop (k + 1)) gs[k].length 0 seen 0 := by
  rw [List.drop_eq_getElem_cons hk, areG_cons]
theorem restG_zero (l g : List Int) (gs : List (List Int)) (k seen : Nat) (sum : Int) : restG l g gs 0 k seen sum = (!(g.length == 0) && sum == 0 && areG l gs seen) := rfl
theorem restG_go {l g : List Int} {gs : List (List Int)} {m k seen : Nat} {sum : Int} (h : stepB l g k seen = true) : restG l g gs (m + 1) k seen sum = restG l g gs m (k + 1) (seen ||| 2 ^ (g.getD k 0).toNat) (sum + l.getD (g.getD k 0).toNat 0) := by
  unfold restG; rw [runG, if_pos h]
theorem restG_no {l g : List Int} {gs : List (List Int)} {m k seen : Nat} {sum : Int} (h : stepB l g k seen = false) : restG l g gs (m + 1) k seen sum = false := by
  unfold restG; rw [runG, if_neg (by simp [h])]
theorem doneB_at (l : List Int) (seen : Nat) {k : Nat} (hk : k < l.length) : doneB l seen k = ((l.getD k 0 == 0 || seen.testBit k) && doneB l seen (k + 1)) := by
  unfold doneB
  rw [List.drop_eq_getElem_cons (show k < (List.range l.length).length by simpa using hk), List.all_cons]
  simp
theorem doneB_end (l : List Int) (seen : Nat) : doneB l seen l.length = true := by unfold doneB; rw [List.drop_of_length_le (by simp)]; rfl
def proveG (l : List Int) (gs : List (List Int)) (many : Int) : Bool := decide (balsErr l = 0) && decide (many ≤ (gs.length : Int)) && areG l gs 0
theorem or_lt128 {a b n : Nat} (ha : a < 2 ^ n) (hb : b < n) : a ||| 2 ^ b < 2 ^ n := Nat.or_lt_two_pow ha (Nat.pow_lt_pow_right (by omega) hb)

section
variable (a : Option Addr) (l : List Int) (c : Nat) (ag : Option Addr) (gs : List (List Int)) (cg : Nat) (many : Int) (w : World) (hx : IntsAt w a l) (hl : l.length ≤ 1000) (hg : ListsAt w ag gs) (hgl : gs.length ≤ 1000) (hgg : ∀ g ∈ gs, g.length ≤ 1000)
include hx hl hg hgl hgg
set_option maxRecDepth 100000 in
set_option maxHeartbeats 4000000 in
theorem ProveGroups_any : Calls Try.prog 46 #[.slice a l.length c, .slice ag gs.length cg, .int .i64 many] w fun e w' => e = .returned (.bool (proveG l gs many)) ∧ Below w.heap.size w w' := by
  have ck := checkBalances_any a l c w hx hl
  obtain ⟨Z, hZ⟩ : ∃ Z, proveG l gs many = Z := ⟨_, rfl⟩
  rw [hZ]
  have HZ := Lib.hid hZ
  clear hZ
  by_cases h0 : balsErr l = 0
  · rw [h0] at ck
    obtain ⟨hl7, hne, hd, hz⟩ := balsErr_ok h0
    by_cases hm : many ≤ (gs.length : Int)
    · have hmd : decide ((gs.length : Int) < many) = false := by simp; omega
      have hlp : 0 < l.length := List.length_pos_iff.2 hne
      have hbd : BdI l 100000 := debts hd
      have hZ2 : areG l gs 0 = Z := by rw [← HZ.out, proveG, h0]; simp [hm]
      have HZ2 := Lib.hid hZ2
      have wL : IntKind.i64.wrap ((l.length : Int) - 1) = (l.length : Int) - 1 := IntWalk.i64_in _ (by omega)
      have Hbd := Lib.hid hbd
      clear hZ2 h0 hz hne HZ hd hbd
      go_enter Try.func46, Try.ntmps46
      go_wp2_with (go_at_call 64; (with_reducible refine ck.mono ?_); rintro e w1 ⟨rfl, b1⟩)
      clear ck
      go_loopw [7, 9, 10, 11, 12, 26] (fun u _ _ _ _ j X => ∃ (k seen : Nat), k ≤ gs.length ∧ j = .int .i64 k ∧ u = .int .u64 (seen : Int) ∧ seen < 2 ^ l.length ∧ Below w.heap.size w X ∧ areG l (gs.drop k) seen = Z) (fun _ _ _ _ _ j _ => gs.length - (intOf j).toNat)
      case atStart => exact ⟨0, 0, Nat.zero_le _, rfl, rfl, Nat.two_pow_pos _, b1, by simpa using HZ2.out⟩
      case round =>
        obtain ⟨k, seen, hk, rfl, rfl, hse, hb, hs⟩ := hrel
        rename World => X
        have hl128 : 2 ^ l.length ≤ 128 := Nat.pow_le_pow_right (n := 2) (by omega) hl7
        by_cases hlt : k < gs.length
        · have hkI : (k : Int) < (gs.length : Int) := by omega
          obtain ⟨bq, oq, al, cl, rfl, hbq, hcq, hI⟩ := hg k hlt
          replace hcq := below_cell hb hcq
          replace hbq := cell_ltK hcq
          rw [areG_at l gs hlt] at hs
          have hgl2 := hgg _ (List.getElem_mem hlt)
          obtain ⟨g, hge⟩ : ∃ g, gs[k] = g := ⟨_, rfl⟩
          rw [hge] at hs hcq hI hgl2
          have Hs := Lib.hid hs
          have Hse := Lib.hid hse
          clear hs hge hse
          go_wp2
          go_loopw [7, 10, 11, 12, 32] (fun u v _ _ j Y => ∃ (i se : Nat) (su : Int), i ≤ g.length ∧ j = .int .i64 i ∧ u = .int .u64 (se : Int) ∧ v = .int .i64 su ∧ se < 2 ^ l.length ∧ -100000 * (i : Int) ≤ su ∧ su ≤ 100000 * (i : Int) ∧ Below w.heap.size w Y ∧ restG l g (gs.drop (k + 1)) (g.length - i) i se su = Z) (fun _ _ _ _ j _ => g.length - (intOf j).toNat)
          case atStart => exact ⟨0, seen, 0, Nat.zero_le _, rfl, rfl, rfl, Hse.out, by simp, by simp, hb, Hs.out⟩
          case round =>
            obtain ⟨i, se, su, hi, rfl, rfl, rfl, hse, hsu1, hsu2, hbY, hr⟩ := hrel
            rename World => Y
            have Hr := Lib.hid hr
            clear hr
            by_cases hil : i < g.length
            · have hiI : (i : Int) < (g.length : Int) := by omega
              obtain ⟨bg, og, rfl, hbg, hcg⟩ := (hI.below hbY) i hil
              obtain ⟨M, hM⟩ : ∃ M, g.length - i = M + 1 ∧ g.length - (i + 1) = M := ⟨g.length - (i + 1), by omega, rfl⟩
              obtain ⟨hM1, hM2⟩ := hM
              have HM := Lib.hid hM1
              have hst : stepB l g i se = (inR (g.getD i 0) 0 ((l.length : Int) - 1) && (i == 0 || decide (g.getD (i - 1) 0 < g.getD i 0)) && (l.getD (g.getD i 0).toNat 0 != 0) && !se.testBit (g.getD i 0).toNat) := rfl
              have hgo : stepB l g i se = true → restG l g (gs.drop (k + 1)) (M + 1) i se su = restG l g (gs.drop (k + 1)) (g.length - (i + 1)) (i + 1) (se ||| 2 ^ (g.getD i 0).toNat) (su + l.getD (g.getD i 0).toNat 0) := fun h => by rw [hM2]; exact restG_go h
              obtain ⟨s, hse2⟩ : ∃ s, g.getD i 0 = s := ⟨_, rfl⟩
              rw [hse2] at hcg hst hgo
              have wi := within_any s 0 ((l.length : Int) - 1)
              clear hse2 hM1 hM2
              cases hV : inR s 0 ((l.length : Int) - 1)
              · rw [hV] at wi hst
                obtain rfl : Z = false := by rw [← Hr.out, HM.out, restG_no]; rw [hst]; rfl
                clear hst hgo hV Hr
                go_wp2_with (go_at_call 55; (with_reducible refine (wi _).mono ?_); rintro e _ ⟨rfl, rfl⟩)
                go_ret
                exact ⟨rfl, hbY⟩
              · rw [hV] at wi hst
                have hr := inR_iff.1 hV
                obtain ⟨sN, rfl⟩ : ∃ sN : Nat, s = (sN : Int) := ⟨s.toNat, by omega⟩
                have hsl : sN < l.length := by omega
                have hsI : (sN : Int) < (l.length : Int) := by omega
                simp only [Int.toNat_natCast] at hst hgo
                obtain ⟨bb, ob, rfl, hbb, hcb⟩ := (hx.below hbY) sN hsl
                replace hcb := hcb.trans (show some (Value.int .i64 (l.getD sN 0)) = some (.int .i64 l[sN]) by simp [hsl])
                clear hV hr
                cases i with
                | zero =>
                  have hgt : decide ((0 : Int) < ((0 : Nat) : Int)) = false := rfl
                  rw [Nat.add_zero] at hcg
                  obtain ⟨v, hve⟩ : ∃ v, l[sN] = v := ⟨_, rfl⟩
                  rw [hve] at hcb
                  have hv : l.getD sN 0 = v := by simp [hsl, hve]
                  have hvb := Hbd.out.at_ sN hsl
                  rw [hv] at hvb hst hgo
                  clear hve
                  by_cases hv0 : v = 0
                  · have hvb0 : (v == 0) = true := by simpa using hv0
                    obtain rfl : Z = false := by rw [← Hr.out, HM.out, restG_no]; rw [hst]; simp [hv0]
                    clear hst hgo hv0 hv
                    go_wp2_with (go_at_call 55; (with_reducible refine (wi _).mono ?_); rintro e _ ⟨rfl, rfl⟩)
                    go_ret
                    exact ⟨rfl, hbY⟩
                  · have hvb0 : (v == 0) = false := by simpa using hv0
                    have hha := fun W => setHas_any se sN W (by omega) (by omega)
                    cases hB : se.testBit sN
                    · rw [hB] at hha hst
                      have hst2 : stepB l g 0 se = true := by rw [hst]; simp [hv0]
                      have hr := Hr.out
                      rw [HM.out, hgo hst2] at hr
                      have hor := or_lt128 (b := sN) hse (by omega)
                      obtain ⟨p, hpe⟩ : ∃ p, 2 ^ sN = p := ⟨_, rfl⟩
                      have hp128 : p ≤ 128 := by rw [← hpe]; have : 2 ^ sN ≤ 2 ^ 7 := Nat.pow_le_pow_right (by omega) (by omega); omega
                      have wsf : IntKind.u64.wrap (2 ^ sN) = (p : Int) := pow_wrap hpe (by omega)
                      rw [hpe] at hor hr
                      have wor := bits_or_u64_nat se p (by omega) (by omega)
                      have wS : IntKind.i64.wrap (su + v) = su + v := IntWalk.i64_in _ (by omega)
                      have Hr2 := Lib.hid hr
                      have Hor := Lib.hid hor
                      clear hst hgo hv hr hpe hst2 hB Hr hor
                      go_wp2_with (first | (go_at_call 55; (with_reducible refine (wi _).mono ?_); rintro e _ ⟨rfl, rfl⟩) | (go_at_call 79; (with_reducible refine (hha _).mono ?_); rintro e _ ⟨rfl, rfl⟩))
                      go_roundw
                      case rel => exact ⟨0 + 1, se ||| p, su + v, by omega, by go_num, rfl, rfl, Hor.out, by push_cast; push_cast at hsu1; omega, by push_cast; push_cast at hsu2; omega, hbY, Hr2.out⟩
                      case measure => simp [intOf]; omega
                    · rw [hB] at hha hst
                      obtain rfl : Z = false := by rw [← Hr.out, HM.out, restG_no]; rw [hst]; simp
                      clear hst hgo hv hB Hr
                      go_wp2_with (first | (go_at_call 55; (with_reducible refine (wi _).mono ?_); rintro e _ ⟨rfl, rfl⟩) | (go_at_call 79; (with_reducible refine (hha _).mono ?_); rintro e _ ⟨rfl, rfl⟩))
                      go_ret
                      exact ⟨rfl, hbY⟩
                | succ i =>
                  have hgt : decide ((0 : Int) < ((i + 1 : Nat) : Int)) = true := by simp
                  have wI : IntKind.i64.wrap (((i + 1 : Nat) : Int) - 1) = (i : Int) := by rw [IntWalk.i64_in _ (by omega)]; omega
                  obtain ⟨bg2, og2, e2, _, hcp⟩ := (hI.below hbY) i (by omega)
                  cases e2
                  have hiI2 : (i : Int) < (g.length : Int) := by omega
                  simp only [Nat.add_sub_cancel] at hst
                  obtain ⟨pv, hpv⟩ : ∃ pv, g.getD i 0 = pv := ⟨_, rfl⟩
                  rw [hpv] at hcp hst
                  clear hpv
                  by_cases hle : (sN : Int) ≤ pv
                  · have hled : decide ((sN : Int) ≤ pv) = true := by simpa using hle
                    obtain rfl : Z = false := by rw [← Hr.out, HM.out, restG_no]; rw [hst]; simp [show ¬ pv < (sN : Int) by omega]
                    clear hst hgo Hr
                    go_wp2_with (go_at_call 55; (with_reducible refine (wi _).mono ?_); rintro e _ ⟨rfl, rfl⟩)
                    go_ret
                    exact ⟨rfl, hbY⟩
                  · have hled : decide ((sN : Int) ≤ pv) = false := by simpa using hle
                    rw [show decide (pv < (sN : Int)) = true by simp; omega] at hst
                    obtain ⟨v, hve⟩ : ∃ v, l[sN] = v := ⟨_, rfl⟩
                    rw [hve] at hcb
                    have hv : l.getD sN 0 = v := by simp [hsl, hve]
                    have hvb := Hbd.out.at_ sN hsl
                    rw [hv] at hvb hst hgo
                    clear hve
                    by_cases hv0 : v = 0
                    · have hvb0 : (v == 0) = true := by simpa using hv0
                      obtain rfl : Z = false := by rw [← Hr.out, HM.out, restG_no]; rw [hst]; simp [hv0]
                      clear hst hgo hv0 hv
                      go_wp2_with (go_at_call 55; (with_reducible refine (wi _).mono ?_); rintro e _ ⟨rfl, rfl⟩)
                      go_ret
                      exact ⟨rfl, hbY⟩
                    · have hvb0 : (v == 0) = false := by simpa using hv0
                      have hha := fun W => setHas_any se sN W (by omega) (by omega)
                      cases hB : se.testBit sN
                      · rw [hB] at hha hst
                        have hst2 : stepB l g (i + 1) se = true := by rw [hst]; simp [hv0]
                        have hr := Hr.out
                        rw [HM.out, hgo hst2] at hr
                        have hor := or_lt128 (b := sN) hse (by omega)
                        obtain ⟨p, hpe⟩ : ∃ p, 2 ^ sN = p := ⟨_, rfl⟩
                        have hp128 : p ≤ 128 := by rw [← hpe]; have : 2 ^ sN ≤ 2 ^ 7 := Nat.pow_le_pow_right (by omega) (by omega); omega
                        have wsf : IntKind.u64.wrap (2 ^ sN) = (p : Int) := pow_wrap hpe (by omega)
                        rw [hpe] at hor hr
                        have wor := bits_or_u64_nat se p (by omega) (by omega)
                        have wS : IntKind.i64.wrap (su + v) = su + v := IntWalk.i64_in _ (by omega)
                        have Hr2 := Lib.hid hr
                        have Hor := Lib.hid hor
                        clear hst hgo hv hr hpe hst2 hB Hr hor
                        go_wp2_with (first | (go_at_call 55; (with_reducible refine (wi _).mono ?_); rintro e _ ⟨rfl, rfl⟩) | (go_at_call 79; (with_reducible refine (hha _).mono ?_); rintro e _ ⟨rfl, rfl⟩))
                        go_roundw
                        case rel => exact ⟨(i + 1) + 1, se ||| p, su + v, by omega, by go_num, rfl, rfl, Hor.out, by push_cast; push_cast at hsu1; omega, by push_cast; push_cast at hsu2; omega, hbY, Hr2.out⟩
                        case measure => simp [intOf]; omega
                      · rw [hB] at hha hst
                        obtain rfl : Z = false := by rw [← Hr.out, HM.out, restG_no]; rw [hst]; simp
                        clear hst hgo hv hB Hr
                        go_wp2_with (first | (go_at_call 55; (with_reducible refine (wi _).mono ?_); rintro e _ ⟨rfl, rfl⟩) | (go_at_call 79; (with_reducible refine (hha _).mono ?_); rintro e _ ⟨rfl, rfl⟩))
                        go_ret
                        exact ⟨rfl, hbY⟩
            · obtain rfl : i = g.length := by omega
              have hr := Hr.out
              rw [Nat.sub_self, restG_zero] at hr
              by_cases hg0 : g.length = 0
              · have hgb : ((g.length : Int) == 0) = true := by rw [hg0]; rfl
                obtain rfl : Z = false := by rw [← hr, hg0]; rfl
                clear hr Hr
                go_wp2
                go_ret
                exact ⟨rfl, hbY⟩
              · have hgb : ((g.length : Int) == 0) = false := by rw [beq_eq_false_iff_ne]; omega
                have hgn : (g.length == 0) = false := by simpa using hg0
                rw [hgn] at hr
                by_cases hs0 : su = 0
                · have hsb : (su != 0) = false := by simp [hs0]
                  rw [show (su == 0) = true by simp [hs0]] at hr
                  have Hr2 := Lib.hid (show areG l (gs.drop (k + 1)) se = Z from hr)
                  clear hr Hr hs0 hg0 hgn
                  go_wp2
                  go_roundw
                  case rel => exact ⟨k + 1, se, by omega, by go_num, rfl, hse, hbY, Hr2.out⟩
                  case measure => simp [intOf]; omega
                · have hsb : (su != 0) = true := by simpa using hs0
                  obtain rfl : Z = false := by rw [← hr, show (su == 0) = false by simpa using hs0]; rfl
                  clear hr Hr hs0 hg0 hgn
                  go_wp2
                  go_ret
                  exact ⟨rfl, hbY⟩
        · obtain rfl : k = gs.length := by omega
          rw [List.drop_length] at hs
          have Hs := Lib.hid (show doneB l seen 0 = Z from hs)
          clear hs
          go_wp2
          go_loopw [13, 14, 89] (fun _ _ j Y => ∃ i : Nat, i ≤ l.length ∧ j = .int .i64 i ∧ Y = X ∧ doneB l seen i = Z) (fun _ _ j _ => l.length - (intOf j).toNat)
          case atStart => exact ⟨0, Nat.zero_le _, rfl, rfl, Hs.out⟩
          case round =>
            obtain ⟨i, hi, rfl, rfl, hdn⟩ := hrel
            by_cases hil : i < l.length
            · have hiI : (i : Int) < (l.length : Int) := by omega
              rw [doneB_at l seen hil] at hdn
              obtain ⟨bb, ob, rfl, hbb, hcb⟩ := (hx.below hb) i hil
              have hha := fun W => setHas_any seen i W (by omega) (by omega)
              obtain ⟨v, hve⟩ : ∃ v, l.getD i 0 = v := ⟨_, rfl⟩
              obtain ⟨B, hB⟩ : ∃ B, seen.testBit i = B := ⟨_, rfl⟩
              rw [hve] at hcb hdn
              rw [hB] at hha hdn
              clear hve hB
              by_cases hv0 : v = 0
              · have hvb0 : (v != 0) = false := by simpa using hv0
                rw [show (v == 0) = true by simpa using hv0] at hdn
                have Hd := Lib.hid (show doneB l seen (i + 1) = Z by rw [← hdn]; simp)
                clear hdn Hs hv0
                go_wp2
                go_roundw
                case rel => exact ⟨i + 1, by omega, by go_num, by trivial, Hd.out⟩
                case measure => simp [intOf]; omega
              · have hvb0 : (v != 0) = true := by simpa using hv0
                rw [show (v == 0) = false by simpa using hv0] at hdn
                cases B
                · obtain rfl : Z = false := by rw [← hdn]; rfl
                  clear hdn Hs hv0
                  go_wp2_with (go_at_call 79; (with_reducible refine (hha _).mono ?_); rintro e _ ⟨rfl, rfl⟩)
                  go_ret
                  exact ⟨rfl, hb⟩
                · have Hd := Lib.hid (show doneB l seen (i + 1) = Z by rw [← hdn]; simp)
                  clear hdn Hs hv0
                  go_wp2_with (go_at_call 79; (with_reducible refine (hha _).mono ?_); rintro e _ ⟨rfl, rfl⟩)
                  go_roundw
                  case rel => exact ⟨i + 1, by omega, by go_num, by trivial, Hd.out⟩
                  case measure => simp [intOf]; omega
            · obtain rfl : i = l.length := by omega
              obtain rfl : Z = true := by rw [← hdn, doneB_end]
              clear hdn Hs
              go_wp2
              go_ret
              exact ⟨rfl, hb⟩
    · have hmd : decide ((gs.length : Int) < many) = true := by simp; omega
      obtain rfl : Z = false := by rw [← HZ.out, proveG]; simp [hm]
      clear HZ h0 hz hne
      go_enter Try.func46, Try.ntmps46
      go_wp2_with (go_at_call 64; (with_reducible refine ck.mono ?_); rintro e w1 ⟨rfl, b1⟩)
      go_ret
      exact ⟨rfl, b1⟩
  · obtain rfl : Z = false := by rw [← HZ.out, proveG]; simp [h0]
    obtain ⟨E, hE⟩ : ∃ E, balsErr l = E := ⟨_, rfl⟩
    rw [hE] at ck h0
    have h1 : (E != 0) = true := by simpa using h0
    clear HZ hE h0
    go_enter Try.func46, Try.ntmps46
    go_wp2_with (go_at_call 64; (with_reducible refine ck.mono ?_); rintro e w1 ⟨rfl, b1⟩)
    go_ret
    exact ⟨rfl, b1⟩
end
end Go.Proofs.Ytomjlmhnjgohdaa
