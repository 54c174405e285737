/- book, laws: the number of a word, as the reference reads it -/
import Derived.Test.YticjeianiahppaaGreatDoorBS
import Derived.Test.YticjeianiahppaaGreatDoorBA
namespace Go.Proofs.YticjeianiahppaaGreatDoor
set_option linter.unusedVariables false
set_option linter.unusedSimpArgs false
set_option linter.unnecessarySimpa false
open Go.RowKit Go.Flow
theorem in12_any (n : Int) (w : World) : Calls Tryz.prog 171 #[.int .i64 n, .int .i64 48, .int .i64 57] w fun e w' => e = .returned (.bool (decide (48 ≤ n) && decide (n ≤ 57))) ∧ w' = w := by
  by_cases h1 : 48 ≤ n
  · by_cases h2 : n ≤ 57
    · go_enter Tryz.func171, Tryz.ntmps171
      go_wp2
      go_ret
      simp [h1, h2]
    · go_enter Tryz.func171, Tryz.ntmps171
      go_wp2
      go_ret
      simp [h1, h2]
  · go_enter Tryz.func171, Tryz.ntmps171
    go_wp2
    go_ret
    simp [h1]
    omega
theorem str_ix (s : ByteArray) (L : List UInt8) (hL : s.data.toList = L) (k : Nat) (hk : k < L.length) (W : World) : (Instr.index 9 (.string s) (.int .i64 (k : Int))).run Tryz.prog W = .ok (.int .u8 ((L[k]).toNat : Int)) W := by
  subst hL
  have hs : (k : Int) < (s.size : Int) := by
    have : s.data.toList.length = s.size := rfl
    omega
  rw [run_index_string W 9 s .i64 (k : Int) Tryz.underlying9, dif_pos ⟨by omega, hs⟩]
  rfl
theorem dec_none {D : List UInt8} {k : Nat} (hk : k < D.length) (h : Lib.digitVal D[k] = none) : Lib.decFrom 0 D = none := by
  cases e : Lib.decFrom 0 D with
  | none => rfl
  | some n =>
    obtain ⟨d, hd⟩ := Lib.digit_of_decFrom D 0 n e k D[k] (by rw [List.getElem?_eq_getElem hk])
    rw [h] at hd; cases hd
/-- What Number returns. -/
abbrev numV (o : Option Int) : Ending := .returned (.tuple #[.int .i64 (o.getD 0), .bool o.isSome])
section
variable (s : ByteArray) (w : World) (m : Nat) (c : UInt8) (D : List UInt8)
set_option maxRecDepth 100000
set_option maxHeartbeats 4000000
/-- Digits behind a minus. -/
theorem num_neg (hz : (s.size : Int) = (m : Int) + 1) (x0 : ∀ W : World, (Instr.index 9 (.string s) (.int .i64 0)).run Tryz.prog W = .ok (.int .u8 45) W) (c1 : Int) (x1 : ∀ W : World, (Instr.index 9 (.string s) (.int .i64 1)).run Tryz.prog W = .ok (.int .u8 c1) W) (n48 : ¬ (c1 = 48)) (h1 : 1 ≤ m) (h9 : m ≤ 9) (hDl : Hid (D.length = m))
    (ixD : ∀ (k : Nat) (hk : k < D.length) (W : World), (Instr.index 9 (.string s) (.int .i64 (1 + (k : Int)))).run Tryz.prog W = .ok (.int .u8 ((D[k]).toNat : Int)) W) :
    Calls Tryz.prog 114 #[.string s] w fun e w' => e = numV ((Lib.decFrom 0 D).map fun (m : Nat) => -(m : Int)) ∧ w' = w := by
  have hzw : IntKind.i64.wrap (m : Int) = (m : Int) := IntWalk.i64_in _ (by omega)
  have hzw1 : IntKind.i64.wrap ((m : Int) + 1) = (m : Int) + 1 := IntWalk.i64_in _ (by omega)
  have h9I : ¬ ((9 : Int) < (m : Int)) := by omega
  have h1I : ¬ ((m : Int) < 1) := by omega
  have h1J : (1 : Int) < (m : Int) + 1 := by omega
  obtain ⟨O, hO⟩ : ∃ O, Lib.decFrom 0 D = O := ⟨_, rfl⟩
  rw [hO]
  replace hO := Lib.hid hO
  go_enter Tryz.func114, Tryz.ntmps114
  go_wp2_with fail
  go_loopw [6, 7] (fun n i W => ∃ (k q : Nat), k ≤ m ∧ i = .int .i64 (1 + (k : Int)) ∧ n = .int .i64 (q : Int) ∧ Lib.decFrom 0 (D.take k) = some q ∧ W = w) (fun _ i _ => 20 - (intOf i).toNat)
  case atStart => exact ⟨0, 0, Nat.zero_le _, rfl, rfl, by simp [Lib.decFrom], rfl⟩
  case round =>
    obtain ⟨k, q, hk, rfl, rfl, hdm, rfl⟩ := hrel
    have hq := Lib.decFrom_take_lt hdm (by omega)
    replace hdm := Lib.hid hdm
    by_cases hlt : k < m
    · have hkI : 1 + (k : Int) < 1 + (m : Int) := by omega
      have hkD : k < D.length := by have := hDl.out; omega
      have xk := ixD k hkD
      have h256 : (D[k]).toNat < 256 := (D[k]).toNat_lt
      have iw : IntKind.i64.wrap (1 + (k : Int) + 1) = 1 + (k : Int) + 1 := IntWalk.i64_in _ (by omega)
      clear ixD
      cases hv : Lib.digitVal D[k] with
      | none =>
        obtain rfl : O = none := by rw [← hO.out]; exact dec_none hkD hv
        have nd : ¬ (48 ≤ (D[k]).toNat ∧ (D[k]).toNat ≤ 57) := fun h => by unfold Lib.digitVal at hv; rw [if_pos h] at hv; cases hv
        clear hv hdm hO hDl hlt
        generalize (D[k]).toNat = b at *
        have cn := fun W => in12_any (b : Int) W
        have dc : (decide (48 ≤ (b : Int)) && decide ((b : Int) ≤ 57)) = false := by
          rw [← Bool.not_eq_true]; simp; omega
        rw [dc] at cn
        clear dc nd
        have bw : IntKind.i64.wrap (b : Int) = (b : Int) := IntWalk.i64_in _ (by omega)
        go_wp2_with fail
        go_at_call 171
        refine (cn _).mono ?_
        rintro e W1 ⟨rfl, rfl⟩
        go_wp2_with fail
        go_ret2
        exact ⟨rfl, rfl⟩
      | some d =>
        have hn := Lib.decFrom_take D k 0 q D[k] d hdm.out (by rw [List.getElem?_eq_getElem hkD]) hv
        have hd : 48 ≤ (D[k]).toNat ∧ (D[k]).toNat ≤ 57 ∧ d = (D[k]).toNat - 48 := by
          unfold Lib.digitVal at hv
          split at hv
          · rename_i h; cases hv; exact ⟨h.1, h.2, rfl⟩
          · cases hv
        clear hv hdm
        replace hn := Lib.hid hn
        generalize (D[k]).toNat = b at *
        obtain ⟨h48, h57, rfl⟩ := hd
        have cn := fun W => in12_any (b : Int) W
        have dc : (decide (48 ≤ (b : Int)) && decide ((b : Int) ≤ 57)) = true := by simp; omega
        rw [dc] at cn
        clear dc
        have bw : IntKind.i64.wrap (b : Int) = (b : Int) := IntWalk.i64_in _ (by omega)
        have mw : IntKind.i64.wrap (10 * (q : Int)) = 10 * (q : Int) := IntWalk.i64_in _ (by omega)
        have mw1 : IntKind.i64.wrap (10 * (q : Int) + (b : Int)) = 10 * (q : Int) + (b : Int) := IntWalk.i64_in _ (by omega)
        have mw2 : IntKind.i64.wrap (10 * (q : Int) + (b : Int) - 48) = 10 * (q : Int) + (b : Int) - 48 := IntWalk.i64_in _ (by omega)
        go_wp2_with fail
        go_at_call 171
        refine (cn _).mono ?_
        rintro e W1 ⟨rfl, rfl⟩
        go_wp2_with fail
        go_round
        case rel => exact ⟨k + 1, q * 10 + (b - 48), by omega, by go_num, by congr 1; omega, hn.out, trivial⟩
        case measure => simp [intOf]; omega
    · obtain rfl : k = m := by omega
      obtain rfl : O = some q := by rw [← hO.out, ← hdm.out, List.take_of_length_le (by have := hDl.out; omega)]
      have mn : IntKind.i64.wrap (-(q : Int)) = -(q : Int) := IntWalk.i64_in _ (by omega)
      clear hdm hO ixD
      go_wp2_with fail
      go_ret2
      exact ⟨rfl, rfl⟩
/-- Digits without a minus. -/
theorem num_pos (ci : Int) (hz : (s.size : Int) = (m : Int) + 1) (x0 : ∀ W : World, (Instr.index 9 (.string s) (.int .i64 0)).run Tryz.prog W = .ok (.int .u8 ci) W) (n45 : ¬ (ci = 45)) (n48 : ¬ (ci = 48) ∨ m = 0) (h9 : m ≤ 8) (hDl : Hid (D.length = m + 1))
    (ixD : ∀ (k : Nat) (hk : k < D.length) (W : World), (Instr.index 9 (.string s) (.int .i64 (k : Int))).run Tryz.prog W = .ok (.int .u8 ((D[k]).toNat : Int)) W) :
    Calls Tryz.prog 114 #[.string s] w fun e w' => e = numV ((Lib.decFrom 0 D).map fun (m : Nat) => (m : Int)) ∧ w' = w := by
  have hzw1 : IntKind.i64.wrap ((m : Int) + 1) = (m : Int) + 1 := IntWalk.i64_in _ (by omega)
  have h9I : ¬ ((9 : Int) < (m : Int) + 1) := by omega
  have h1I : ¬ ((m : Int) + 1 < 1) := by omega
  have h1J : ((decide (ci = 48)) && decide ((1 : Int) < (m : Int) + 1)) = false := by
    rcases n48 with h | h
    · simp [h]
    · subst h; simp
  by_cases e48 : ci = 48
  · have h0 : m = 0 := by rcases n48 with h | h; · exact absurd e48 h
                          · exact h
    have h0J : ¬ ((1 : Int) < (m : Int) + 1) := by omega
    clear h1J n48
    obtain ⟨O, hO⟩ : ∃ O, Lib.decFrom 0 D = O := ⟨_, rfl⟩
    rw [hO]
    replace hO := Lib.hid hO
    go_enter Tryz.func114, Tryz.ntmps114
    go_wp2_with fail
    go_loopw [6, 7] (fun n i W => ∃ (k q : Nat), k ≤ m + 1 ∧ i = .int .i64 ((k : Int)) ∧ n = .int .i64 (q : Int) ∧ Lib.decFrom 0 (D.take k) = some q ∧ W = w) (fun _ i _ => 20 - (intOf i).toNat)
    case atStart => exact ⟨0, 0, Nat.zero_le _, rfl, rfl, by simp [Lib.decFrom], rfl⟩
    case round =>
      obtain ⟨k, q, hk, rfl, rfl, hdm, rfl⟩ := hrel
      have hq := Lib.decFrom_take_lt hdm (by omega)
      replace hdm := Lib.hid hdm
      by_cases hlt : k < m + 1
      · have hkI : (k : Int) < (m : Int) + 1 := by omega
        have hkD : k < D.length := by have := hDl.out; omega
        have xk := ixD k hkD
        have h256 : (D[k]).toNat < 256 := (D[k]).toNat_lt
        have iw : IntKind.i64.wrap ((k : Int) + 1) = (k : Int) + 1 := IntWalk.i64_in _ (by omega)
        clear ixD
        cases hv : Lib.digitVal D[k] with
        | none =>
          obtain rfl : O = none := by rw [← hO.out]; exact dec_none hkD hv
          have nd : ¬ (48 ≤ (D[k]).toNat ∧ (D[k]).toNat ≤ 57) := fun h => by unfold Lib.digitVal at hv; rw [if_pos h] at hv; cases hv
          clear hv hdm hO hDl hlt
          generalize (D[k]).toNat = b at *
          have cn := fun W => in12_any (b : Int) W
          have dc : (decide (48 ≤ (b : Int)) && decide ((b : Int) ≤ 57)) = false := by
            rw [← Bool.not_eq_true]; simp; omega
          rw [dc] at cn
          clear dc nd
          have bw : IntKind.i64.wrap (b : Int) = (b : Int) := IntWalk.i64_in _ (by omega)
          go_wp2_with fail
          go_at_call 171
          refine (cn _).mono ?_
          rintro e W1 ⟨rfl, rfl⟩
          go_wp2_with fail
          go_ret2
          exact ⟨rfl, rfl⟩
        | some d =>
          have hn := Lib.decFrom_take D k 0 q D[k] d hdm.out (by rw [List.getElem?_eq_getElem hkD]) hv
          have hd : 48 ≤ (D[k]).toNat ∧ (D[k]).toNat ≤ 57 ∧ d = (D[k]).toNat - 48 := by
            unfold Lib.digitVal at hv
            split at hv
            · rename_i h; cases hv; exact ⟨h.1, h.2, rfl⟩
            · cases hv
          clear hv hdm
          replace hn := Lib.hid hn
          generalize (D[k]).toNat = b at *
          obtain ⟨h48, h57, rfl⟩ := hd
          have cn := fun W => in12_any (b : Int) W
          have dc : (decide (48 ≤ (b : Int)) && decide ((b : Int) ≤ 57)) = true := by simp; omega
          rw [dc] at cn
          clear dc
          have bw : IntKind.i64.wrap (b : Int) = (b : Int) := IntWalk.i64_in _ (by omega)
          have mw : IntKind.i64.wrap (10 * (q : Int)) = 10 * (q : Int) := IntWalk.i64_in _ (by omega)
          have mw1 : IntKind.i64.wrap (10 * (q : Int) + (b : Int)) = 10 * (q : Int) + (b : Int) := IntWalk.i64_in _ (by omega)
          have mw2 : IntKind.i64.wrap (10 * (q : Int) + (b : Int) - 48) = 10 * (q : Int) + (b : Int) - 48 := IntWalk.i64_in _ (by omega)
          go_wp2_with fail
          go_at_call 171
          refine (cn _).mono ?_
          rintro e W1 ⟨rfl, rfl⟩
          go_wp2_with fail
          go_round
          case rel => exact ⟨k + 1, q * 10 + (b - 48), by omega, by go_num, by congr 1; omega, hn.out, trivial⟩
          case measure => simp [intOf]; omega
      · obtain rfl : k = m + 1 := by omega
        obtain rfl : O = some q := by rw [← hO.out, ← hdm.out, List.take_of_length_le (by have := hDl.out; omega)]
        have mn : IntKind.i64.wrap (-(q : Int)) = -(q : Int) := IntWalk.i64_in _ (by omega)
        clear hdm hO ixD
        go_wp2_with fail
        go_ret2
        exact ⟨rfl, rfl⟩
  · clear h1J n48
    obtain ⟨O, hO⟩ : ∃ O, Lib.decFrom 0 D = O := ⟨_, rfl⟩
    rw [hO]
    replace hO := Lib.hid hO
    go_enter Tryz.func114, Tryz.ntmps114
    go_wp2_with fail
    go_loopw [6, 7] (fun n i W => ∃ (k q : Nat), k ≤ m + 1 ∧ i = .int .i64 ((k : Int)) ∧ n = .int .i64 (q : Int) ∧ Lib.decFrom 0 (D.take k) = some q ∧ W = w) (fun _ i _ => 20 - (intOf i).toNat)
    case atStart => exact ⟨0, 0, Nat.zero_le _, rfl, rfl, by simp [Lib.decFrom], rfl⟩
    case round =>
      obtain ⟨k, q, hk, rfl, rfl, hdm, rfl⟩ := hrel
      have hq := Lib.decFrom_take_lt hdm (by omega)
      replace hdm := Lib.hid hdm
      by_cases hlt : k < m + 1
      · have hkI : (k : Int) < (m : Int) + 1 := by omega
        have hkD : k < D.length := by have := hDl.out; omega
        have xk := ixD k hkD
        have h256 : (D[k]).toNat < 256 := (D[k]).toNat_lt
        have iw : IntKind.i64.wrap ((k : Int) + 1) = (k : Int) + 1 := IntWalk.i64_in _ (by omega)
        clear ixD
        cases hv : Lib.digitVal D[k] with
        | none =>
          obtain rfl : O = none := by rw [← hO.out]; exact dec_none hkD hv
          have nd : ¬ (48 ≤ (D[k]).toNat ∧ (D[k]).toNat ≤ 57) := fun h => by unfold Lib.digitVal at hv; rw [if_pos h] at hv; cases hv
          clear hv hdm hO hDl hlt
          generalize (D[k]).toNat = b at *
          have cn := fun W => in12_any (b : Int) W
          have dc : (decide (48 ≤ (b : Int)) && decide ((b : Int) ≤ 57)) = false := by
            rw [← Bool.not_eq_true]; simp; omega
          rw [dc] at cn
          clear dc nd
          have bw : IntKind.i64.wrap (b : Int) = (b : Int) := IntWalk.i64_in _ (by omega)
          go_wp2_with fail
          go_at_call 171
          refine (cn _).mono ?_
          rintro e W1 ⟨rfl, rfl⟩
          go_wp2_with fail
          go_ret2
          exact ⟨rfl, rfl⟩
        | some d =>
          have hn := Lib.decFrom_take D k 0 q D[k] d hdm.out (by rw [List.getElem?_eq_getElem hkD]) hv
          have hd : 48 ≤ (D[k]).toNat ∧ (D[k]).toNat ≤ 57 ∧ d = (D[k]).toNat - 48 := by
            unfold Lib.digitVal at hv
            split at hv
            · rename_i h; cases hv; exact ⟨h.1, h.2, rfl⟩
            · cases hv
          clear hv hdm
          replace hn := Lib.hid hn
          generalize (D[k]).toNat = b at *
          obtain ⟨h48, h57, rfl⟩ := hd
          have cn := fun W => in12_any (b : Int) W
          have dc : (decide (48 ≤ (b : Int)) && decide ((b : Int) ≤ 57)) = true := by simp; omega
          rw [dc] at cn
          clear dc
          have bw : IntKind.i64.wrap (b : Int) = (b : Int) := IntWalk.i64_in _ (by omega)
          have mw : IntKind.i64.wrap (10 * (q : Int)) = 10 * (q : Int) := IntWalk.i64_in _ (by omega)
          have mw1 : IntKind.i64.wrap (10 * (q : Int) + (b : Int)) = 10 * (q : Int) + (b : Int) := IntWalk.i64_in _ (by omega)
          have mw2 : IntKind.i64.wrap (10 * (q : Int) + (b : Int) - 48) = 10 * (q : Int) + (b : Int) - 48 := IntWalk.i64_in _ (by omega)
          go_wp2_with fail
          go_at_call 171
          refine (cn _).mono ?_
          rintro e W1 ⟨rfl, rfl⟩
          go_wp2_with fail
          go_round
          case rel => exact ⟨k + 1, q * 10 + (b - 48), by omega, by go_num, by congr 1; omega, hn.out, trivial⟩
          case measure => simp [intOf]; omega
      · obtain rfl : k = m + 1 := by omega
        obtain rfl : O = some q := by rw [← hO.out, ← hdm.out, List.take_of_length_le (by have := hDl.out; omega)]
        have mn : IntKind.i64.wrap (-(q : Int)) = -(q : Int) := IntWalk.i64_in _ (by omega)
        clear hdm hO ixD
        go_wp2_with fail
        go_ret2
        exact ⟨rfl, rfl⟩
end
theorem byte_ne {c : UInt8} {k : UInt8} (h : c ≠ k) : ¬ ((c.toNat : Int) = (k.toNat : Int)) := fun e => h (UInt8.toNat_inj.1 (by omega))
set_option maxRecDepth 100000 in
set_option maxHeartbeats 4000000 in
theorem Number_any (s : ByteArray) (w : World) (hs : s.size ≤ 1000) : Calls Tryz.prog 114 #[.string s] w fun e w' => e = numV (numD s.data.toList) ∧ w' = w := by
  obtain ⟨L, hL⟩ : ∃ L, s.data.toList = L := ⟨_, rfl⟩
  have hz : s.size = L.length := by rw [← hL]; rfl
  have ix := str_ix s L hL
  rw [hL]
  clear hL
  rcases L with _ | ⟨c, r⟩
  · simp only [List.length_nil] at hz
    clear ix
    go_enter Tryz.func114, Tryz.ntmps114
    go_wp2_with fail
    go_ret2
    exact ⟨rfl, rfl⟩
  simp only [List.length_cons] at hz
  have x0 := ix 0 (by simp)
  simp only [List.getElem_cons_zero, Int.ofNat_zero, Int.cast_ofNat_Int] at x0
  obtain ⟨m, hm⟩ : ∃ m, r.length = m := ⟨_, rfl⟩
  have hzI : (s.size : Int) = (m : Int) + 1 := by omega
  have hzw : IntKind.i64.wrap (m : Int) = (m : Int) := IntWalk.i64_in _ (by omega)
  have hzw1 : IntKind.i64.wrap ((m : Int) + 1) = (m : Int) + 1 := IntWalk.i64_in _ (by omega)
  have x1 : ∀ c1 r1, r = c1 :: r1 → ∀ W : World, (Instr.index 9 (.string s) (.int .i64 1)).run Tryz.prog W = .ok (.int .u8 (c1.toNat : Int)) W := fun c1 r1 e => by
    subst e
    exact ix 1 (by simp)
  rw [numD_cons]
  by_cases hc : c = 45
  · subst hc
    rw [if_pos rfl]
    replace x0 : ∀ W : World, (Instr.index 9 (.string s) (.int .i64 0)).run Tryz.prog W = .ok (.int .u8 45) W := x0
    by_cases g : 1 ≤ r.length ∧ r.length ≤ 9 ∧ r.head? ≠ some 48
    · rw [if_pos g]
      obtain ⟨c1, r1, hr1⟩ := List.exists_cons_of_length_pos (show 0 < r.length by omega)
      refine num_neg s w m r hzI x0 (c1.toNat : Int) (x1 c1 r1 hr1) (byte_ne (k := 48) (fun e => g.2.2 (by rw [hr1, e]; rfl))) (by omega) (by omega) (Lib.hid hm) (fun k hk W => ?_)
      have := ix (k + 1) (by simpa using hk) W
      rw [show ((k + 1 : Nat) : Int) = 1 + (k : Int) by omega] at this
      simpa using this
    · rw [if_neg g]
      by_cases h1 : m < 1
      · have h1I : (m : Int) < 1 := by omega
        clear ix x1 g hm hz
        go_enter Tryz.func114, Tryz.ntmps114
        go_wp2_with fail
        go_ret2
        exact ⟨rfl, rfl⟩
      have h1I : ¬ ((m : Int) < 1) := by omega
      by_cases h9 : 9 < m
      · have h9I : (9 : Int) < (m : Int) := by omega
        clear ix x1 g hm hz
        go_enter Tryz.func114, Tryz.ntmps114
        go_wp2_with fail
        go_ret2
        exact ⟨rfl, rfl⟩
      have h9I : ¬ ((9 : Int) < (m : Int)) := by omega
      obtain ⟨c1, r1, hr1⟩ := List.exists_cons_of_length_pos (show 0 < r.length by omega)
      have hc1 : c1 = 48 := by
        rcases Classical.em (c1 = 48) with e | e
        · exact e
        · exact absurd ⟨by omega, by omega, fun h => e (by rw [hr1] at h; simpa using h)⟩ g
      subst hc1
      replace x1 : ∀ W : World, (Instr.index 9 (.string s) (.int .i64 1)).run Tryz.prog W = .ok (.int .u8 48) W := x1 _ _ hr1
      have h1J : (1 : Int) < (m : Int) + 1 := by omega
      clear ix g hm hz hr1
      go_enter Tryz.func114, Tryz.ntmps114
      go_wp2_with fail
      go_ret2
      exact ⟨rfl, rfl⟩
  · rw [if_neg hc]
    have n45 : ¬ ((c.toNat : Int) = 45) := byte_ne (k := 45) hc
    by_cases g : r.length ≤ 8 ∧ (c = 48 → r = [])
    · rw [if_pos g]
      refine num_pos s w m (c :: r) (c.toNat : Int) hzI x0 n45 ?_ (by omega) (Lib.hid (by simp [hm])) (fun k hk W => ix k hk W)
      by_cases e : c = 48
      · right; rw [← hm, g.2 e]; rfl
      · left; exact byte_ne (k := 48) e
    · rw [if_neg g]
      have h1I : ¬ ((m : Int) + 1 < 1) := by omega
      by_cases h9 : 8 < m
      · have h9I : (9 : Int) < (m : Int) + 1 := by omega
        generalize (c.toNat : Int) = ci at *
        clear ix x1 g hm hz
        go_enter Tryz.func114, Tryz.ntmps114
        go_wp2_with fail
        go_ret2
        exact ⟨rfl, rfl⟩
      have h9I : ¬ ((9 : Int) < (m : Int) + 1) := by omega
      have hc48 : c = 48 ∧ r ≠ [] := by
        rcases Classical.em (c = 48) with e | e
        · exact ⟨e, fun h => g ⟨by omega, fun _ => h⟩⟩
        · exact absurd ⟨by omega, fun h => absurd h e⟩ g
      obtain ⟨rfl, hr⟩ := hc48
      have h1J : (1 : Int) < (m : Int) + 1 := by have := List.length_pos_iff.2 hr; omega
      replace x0 : ∀ W : World, (Instr.index 9 (.string s) (.int .i64 0)).run Tryz.prog W = .ok (.int .u8 48) W := x0
      clear ix x1 g hm hz hr
      go_enter Tryz.func114, Tryz.ntmps114
      go_wp2_with fail
      go_ret2
      exact ⟨rfl, rfl⟩
end Go.Proofs.YticjeianiahppaaGreatDoor
