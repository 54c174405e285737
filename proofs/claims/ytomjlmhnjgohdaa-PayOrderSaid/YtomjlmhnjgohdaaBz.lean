/- law helpers: Owed -/
import Derived.Test.YtomjlmhnjgohdaaBw
namespace Go.Proofs.Ytomjlmhnjgohdaa
set_option linter.unusedVariables false
set_option linter.unusedSimpArgs false
set_option linter.unnecessarySimpa false
open Go.RowKit Go.Flow Go.Shelf

def owX (v : Nat) (sum : Int) : Int := if v % 8 = 0 then -sum else if v % 8 = 1 then 0 else if v % 8 = 2 then ((v % 1000 : Nat) : Int) else ((v / 8 % 40 : Nat) : Int) - 20
def owS (ws : List Int) : Nat → Int
  | 0 => 0
  | k + 1 => owS ws k + owX (wordN ws k) (owS ws k)
def owL (ws : List Int) (k : Nat) : List Int := (List.range k).map fun i => owX (wordN ws i) (owS ws i)
def owedL (ws : List Int) (many : Nat) : List Int := owL ws (many % 7) ++ [-(owS ws (many % 7))]
theorem owL_len (ws : List Int) (k : Nat) : (owL ws k).length = k := by simp [owL]
theorem owedL_len (ws : List Int) (many : Nat) : (owedL ws many).length = many % 7 + 1 := by simp [owedL, owL_len]
theorem owL_succ (ws : List Int) (k : Nat) : owL ws (k + 1) = owL ws k ++ [owX (wordN ws k) (owS ws k)] := by simp [owL, List.range_succ]
theorem owS_bd (ws : List Int) : ∀ k : Nat, -(1000 * (k : Int)) ≤ owS ws k ∧ owS ws k ≤ 1000 * (k : Int)
  | 0 => by simp [owS]
  | k + 1 => by
    have ih := owS_bd ws k
    have h1 := Nat.mod_lt (wordN ws k) (show 0 < 1000 by omega)
    have h2 := Nat.mod_lt (wordN ws k / 8) (show 0 < 40 by omega)
    rw [owS, owX]
    generalize wordN ws k = v at h1 h2 ⊢
    generalize owS ws k = s at ih ⊢
    have e : 1000 * ((k + 1 : Nat) : Int) = 1000 * (k : Int) + 1000 := by omega
    rw [e]
    (repeat' split) <;> omega
theorem owX_bd {ws : List Int} {k : Nat} (hk : k ≤ 10) : -10000 ≤ owX (wordN ws k) (owS ws k) ∧ owX (wordN ws k) (owS ws k) ≤ 10000 := by
  have ih := owS_bd ws k
  have h1 := Nat.mod_lt (wordN ws k) (show 0 < 1000 by omega)
  have h2 := Nat.mod_lt (wordN ws k / 8) (show 0 < 40 by omega)
  rw [owX]
  (repeat' split) <;> omega
theorem owL_sum (ws : List Int) : ∀ k, (owL ws k).sum = owS ws k
  | 0 => rfl
  | k + 1 => by rw [owL_succ, List.sum_append, owL_sum ws k, owS]; simp
theorem owed_bd (ws : List Int) (many : Nat) : ∀ x ∈ owedL ws many, -100000 ≤ x ∧ x ≤ 100000 := by
  have h7 := Nat.mod_lt many (show 0 < 7 by omega)
  intro x hx
  rw [owedL, List.mem_append] at hx
  rcases hx with hx | hx
  · simp only [owL, List.mem_map, List.mem_range] at hx
    obtain ⟨i, hi, rfl⟩ := hx
    have := owX_bd (ws := ws) (k := i) (by omega)
    omega
  · have := owS_bd ws (many % 7)
    obtain rfl : x = -(owS ws (many % 7)) := by simpa using hx
    omega
theorem owed_sum (ws : List Int) (many : Nat) : (owedL ws many).sum = 0 := by
  rw [owedL, List.sum_append, owL_sum]; simp; omega
section
variable (aw : Option Addr) (ws : List Int) (cw : Nat) (many : Nat) (w : World) (hw : U16At w aw ws) (hu : U16s ws) (hwl : ws.length ≤ 9223372036854775807) (hm : many ≤ 255)
include hw hu hwl hm
set_option maxRecDepth 100000 in
set_option maxHeartbeats 4000000 in
theorem Owed_any : Calls Try.prog 41 #[.slice aw ws.length cw, .int .u8 (many : Int)] w fun e w' => (∃ a c, e = .returned (.slice a (many % 7 + 1) c) ∧ IntsAt w' a (owedL ws many) ∧ (a = none → c = 0) ∧ many % 7 + 1 ≤ c) ∧ Below w.heap.size w w' := by
  obtain ⟨M, hM⟩ : ∃ M, many % 7 = M := ⟨_, rfl⟩
  have hM7 : M < 7 := by rw [← hM]; exact Nat.mod_lt _ (by omega)
  have hcv : IntKind.i64.wrap (many : Int) = (many : Int) := IntWalk.i64_in _ (by omega)
  have htm : Int.tmod (many : Int) 7 = (M : Int) := by rw [← hM]; rfl
  have hwn : IntKind.i64.wrap (1 + (M : Int)) = ((M + 1 : Nat) : Int) := by rw [IntWalk.i64_in _ (by omega)]; push_cast; omega
  have hwm : IntKind.i64.wrap (((M + 1 : Nat) : Int) - 1) = (M : Int) := by rw [IntWalk.i64_in _ (by omega)]; push_cast; omega
  have Hou : Hid (owedL ws many = owL ws M ++ [-(owS ws M)]) := Lib.hid (by rw [owedL, hM])
  have HU := Lib.hid hu
  clear hu
  rw [hM]
  clear hM hm
  go_enter Try.func41, Try.ntmps41
  go_wp2
  go_loopw [6, 7, 8, 9, 10] (fun l s i _ _ X => ∃ (k : Nat) (ao : Option Addr) (co : Nat), k ≤ M ∧ i = .int .i64 k ∧ l = .slice ao k co ∧ s = .int .i64 (owS ws k) ∧ OwnL 3 1 w.heap.size X ao co k ((owL ws k).map (Value.int .i64)) ∧ Below w.heap.size w X) (fun _ _ i _ _ _ => M - (intOf i).toNat)
  case atStart => exact ⟨0, none, 0, Nat.zero_le _, rfl, rfl, rfl, OwnL.nil _ _ _ _, Below.refl _ _⟩
  case round =>
    obtain ⟨k, ao, co, hk, rfl, rfl, rfl, own, hbX⟩ := hrel
    rename World => X
    by_cases hlt : k < M
    · have hkI : (k : Int) < (M : Int) := by omega
      have hwX := hw.below hbX
      have hv := wordN_le HU.out k
      have hS := owS_bd ws k
      have hX := owX_bd (ws := ws) (k := k) (by omega)
      have hSs := owS_bd ws (k + 1)
      have hsc : owS ws (k + 1) = owS ws k + owX (wordN ws k) (owS ws k) := rfl
      have hls := owL_succ ws k
      have hwd := word_any aw ws cw k X hwX HU.out hwl (by omega)
      obtain ⟨v, hve⟩ : ∃ v, wordN ws k = v := ⟨_, rfl⟩
      obtain ⟨s, hse⟩ : ∃ s, owS ws k = s := ⟨_, rfl⟩
      obtain ⟨s', hse'⟩ : ∃ s', owS ws (k + 1) = s' := ⟨_, rfl⟩
      obtain ⟨x, hxe⟩ : ∃ x, owX v s = x := ⟨_, rfl⟩
      rw [hve] at hsc hls hv hwd hX
      rw [hse] at hsc hls hS hX ⊢
      rw [hse'] at hsc hSs
      rw [hxe] at hsc hls hX
      have Hls := Lib.hid hls
      have HS' := Lib.hid hse'
      have wS : IntKind.i64.wrap (s + x) = s' := by rw [IntWalk.i64_in _ (by omega)]; exact hsc.symm
      have wN : IntKind.i64.wrap (-s) = -s := IntWalk.i64_in _ (by omega)
      have q0 : Int.tdiv (v : Int) 8 = ((v / 8 : Nat) : Int) := rfl
      have q1 : Int.tmod ((v / 8 : Nat) : Int) 40 = ((v / 8 % 40 : Nat) : Int) := rfl
      have q2 : IntKind.i64.wrap (((v / 8 % 40 : Nat) : Int) - 20) = ((v / 8 % 40 : Nat) : Int) - 20 := IntWalk.i64_in _ (by have := Nat.mod_lt (v / 8) (show 0 < 40 by omega); omega)
      have q3 : Int.tmod (v : Int) 8 = ((v % 8 : Nat) : Int) := rfl
      have q4 : Int.tmod (v : Int) 1000 = ((v % 1000 : Nat) : Int) := rfl
      have q5 : IntKind.i64.wrap ((v / 8 : Nat) : Int) = ((v / 8 : Nat) : Int) := IntWalk.i64_in _ (by omega)
      obtain ⟨r, hr⟩ : ∃ r, v % 8 = r := ⟨_, rfl⟩
      obtain ⟨p, hp⟩ : ∃ p, v % 1000 = p := ⟨_, rfl⟩
      obtain ⟨y, hy⟩ : ∃ y, v / 8 = y := ⟨_, rfl⟩
      rw [hy] at q0 q1 q2 q5
      obtain ⟨z, hz⟩ : ∃ z, y % 40 = z := ⟨_, rfl⟩
      rw [hz] at q1 q2
      rw [hr] at q3
      rw [hp] at q4
      have hxv : x = if r = 0 then -s else if r = 1 then 0 else if r = 2 then (p : Int) else (z : Int) - 20 := by rw [← hxe, owX, hr, hp, hy, hz]
      have Hx := Lib.hid hxv
      clear hxv hr hp hy hz hxe hve hse hse' hsc hls hS hSs hwX
      by_cases h0 : r = 0
      · subst h0
        obtain rfl : x = -s := Hx.out
        clear Hx q4
        have hr0 : Int.tmod (v : Int) 8 = 0 := q3
        clear q3
        go_wp2_with fail
        go_at_call 73
        refine hwd.mono ?_
        rintro e _ ⟨rfl, rfl⟩
        go_wp2_with (at_builtin; refine wpList_app_lit_at elInt rfl _ _ rfl w.heap.size ao k co _ rfl own 1 1 rfl rfl (fun u hu => by simp at hu; subst hu; rfl) (by unfold maxLen; omega) (by omega) hbX.size ?_; intro a9 c9 Y3 o9 b9 _)
        have b19 := hbX.trans b9
        go_wp2
        go_roundw
        case rel => exact ⟨k + 1, a9, c9, by omega, by go_num, rfl, by rw [HS'.out], by rw [Hls.out, List.map_append]; exact o9, b19⟩
        case measure => simp [intOf]; omega
      · by_cases h1 : r = 1
        · subst h1
          obtain rfl : x = 0 := Hx.out
          rw [Int.add_zero] at wS
          clear Hx q4
          have hr0 : Int.tmod (v : Int) 8 = 1 := q3
          clear q3
          go_wp2_with fail
          go_at_call 73
          refine hwd.mono ?_
          rintro e _ ⟨rfl, rfl⟩
          go_wp2_with (at_builtin; refine wpList_app_lit_at elInt rfl _ _ rfl w.heap.size ao k co _ rfl own 1 1 rfl rfl (fun u hu => by simp at hu; subst hu; rfl) (by unfold maxLen; omega) (by omega) hbX.size ?_; intro a9 c9 Y3 o9 b9 _)
          have b19 := hbX.trans b9
          go_wp2
          go_roundw
          case rel => exact ⟨k + 1, a9, c9, by omega, by go_num, rfl, by rw [HS'.out], by rw [Hls.out, List.map_append]; exact o9, b19⟩
          case measure => simp [intOf]; omega
        · by_cases h2 : r = 2
          · subst h2
            obtain rfl : x = (p : Int) := Hx.out
            clear Hx
            have hr0 : Int.tmod (v : Int) 8 = 2 := q3
            clear q3
            go_wp2_with fail
            go_at_call 73
            refine hwd.mono ?_
            rintro e _ ⟨rfl, rfl⟩
            go_wp2_with (at_builtin; refine wpList_app_lit_at elInt rfl _ _ rfl w.heap.size ao k co _ rfl own 1 1 rfl rfl (fun u hu => by simp at hu; subst hu; rfl) (by unfold maxLen; omega) (by omega) hbX.size ?_; intro a9 c9 Y3 o9 b9 _)
            have b19 := hbX.trans b9
            go_wp2
            go_roundw
            case rel => exact ⟨k + 1, a9, c9, by omega, by go_num, rfl, by rw [HS'.out], by rw [Hls.out, List.map_append]; exact o9, b19⟩
            case measure => simp [intOf]; omega
          · obtain rfl : x = (z : Int) - 20 := by rw [Hx.out, if_neg h0, if_neg h1, if_neg h2]
            clear Hx q4
            have b0 : ((r : Int) == 0) = false := by rw [beq_eq_false_iff_ne]; omega
            have b1 : ((r : Int) == 1) = false := by rw [beq_eq_false_iff_ne]; omega
            have b2 : ((r : Int) == 2) = false := by rw [beq_eq_false_iff_ne]; omega
            go_wp2_with fail
            go_at_call 73
            refine hwd.mono ?_
            rintro e _ ⟨rfl, rfl⟩
            go_wp2_with (at_builtin; refine wpList_app_lit_at elInt rfl _ _ rfl w.heap.size ao k co _ rfl own 1 1 rfl rfl (fun u hu => by simp at hu; subst hu; rfl) (by unfold maxLen; omega) (by omega) hbX.size ?_; intro a9 c9 Y3 o9 b9 _)
            have b19 := hbX.trans b9
            go_wp2
            go_roundw
            case rel => exact ⟨k + 1, a9, c9, by omega, by go_num, rfl, by rw [HS'.out], by rw [Hls.out, List.map_append]; exact o9, b19⟩
            case measure => simp [intOf]; omega
    · obtain rfl : k = M := by omega
      have hS := owS_bd ws k
      obtain ⟨s, hse⟩ : ∃ s, owS ws k = s := ⟨_, rfl⟩
      rw [hse] at hS Hou ⊢
      have wN : IntKind.i64.wrap (-s) = -s := IntWalk.i64_in _ (by omega)
      clear hse hS
      go_wp2_with (at_builtin; refine wpList_app_lit_at elInt rfl _ _ rfl w.heap.size ao k co _ rfl own 1 1 rfl rfl (fun u hu => by simp at hu; subst hu; rfl) (by unfold maxLen; omega) (by omega) hbX.size ?_; intro a9 c9 w9 o9 b9 _)
      go_wp2
      go_ret
      have o10 : OwnL 3 1 w.heap.size w9 a9 c9 (k + 1) ((owedL ws many).map (Value.int .i64)) := by rw [Hou.out, List.map_append]; exact o9
      exact ⟨⟨a9, c9, rfl, o10.ints.1, fun h => by subst h; exact o10.isnil.2, o10.fits.1⟩, hbX.trans b9⟩
end
end Go.Proofs.Ytomjlmhnjgohdaa
