/- book, laws: what the reference reads of bytes -/
import Derived.Test.YticjeianiahppaaGreatDoorGu
namespace Go.Proofs.YticjeianiahppaaGreatDoor
set_option linter.unusedVariables false
set_option linter.unusedSimpArgs false
set_option linter.unnecessarySimpa false
open Go.RowKit Go.Flow
theorem ext_bytes (L : List UInt8) (i j : Nat) : (⟨L.toArray⟩ : ByteArray).extract i j = ⟨((L.drop i).take (j - i)).toArray⟩ := byt_of (by
  rw [ByteArray.data_extract, Array.toList_extract, List.extract_eq_take_drop])
/-- The record of the line of a length begins some bytes. -/
def Mt (D : List UInt8) (i m : Nat) : Prop := 10 + m ≤ D.length ∧ D.take (10 + m) = recL ((D.drop 9).take m) i
theorem mt_rec {D : List UInt8} {i m : Nat} (h : Mt D i m) (h80 : m ≤ 80) : recAt D i = some ((D.drop 9).take m) := by
  have hl : ((D.drop 9).take m).length = m := by have := h.1; rw [List.length_take, List.length_drop]; omega
  have := recAt_rec (s := (D.drop 9).take m) i (D.drop (10 + m)) (by omega)
  rwa [← h.2, List.take_append_drop] at this
theorem none_mt {D : List UInt8} {i : Nat} (h : ∀ m, m ≤ 80 → ¬ Mt D i m) : recAt D i = none := by
  cases e : recAt D i with
  | none => rfl
  | some s =>
    exfalso
    obtain ⟨h80, r, rfl⟩ := recAt_some e
    have hd := rec_drop s i r
    refine h s.length h80 ⟨by rw [List.length_append, zLh]; omega, ?_⟩
    rw [hd, List.take_left' (zLh s i)]
def lenV : Value → Nat
  | .slice _ n _ => n
  | _ => 0
def oneV : Value → Nat
  | .bool true => 1
  | _ => 0
def okV : Value → Nat
  | .int _ n => n.toNat
  | _ => 0
set_option maxRecDepth 100000 in
set_option maxHeartbeats 8000000 in
theorem Read_ref (L : List UInt8) (m : Nat) (en : L.length = m) (hm : m ≤ 9000) (w : World) :
    Calls Tryz.prog 68 #[.string ⟨L.toArray⟩] w fun e w' => (∃ a c, e = .returned (.tuple #[.slice a (readL 50 L 0).length c, .int .i64 (zIe (readL 50 L 0) : Int)]) ∧ OwnL 9 1 w.heap.size w' a c (readL 50 L 0).length (strsV (readL 50 L 0))) ∧ Below w.heap.size w w' := by
  obtain ⟨R, hR⟩ : ∃ R, readL 50 L 0 = R := ⟨_, rfl⟩
  rw [hR]
  have hz : (⟨L.toArray⟩ : ByteArray).size = m := by rw [← en]; rfl
  obtain ⟨B, hB⟩ : ∃ B : ByteArray, (⟨L.toArray⟩ : ByteArray) = B := ⟨_, rfl⟩
  have hex : ∀ i j, B.extract i j = ⟨((L.drop i).take (j - i)).toArray⟩ := fun i j => by rw [← hB]; exact ext_bytes L i j
  rw [hB] at hz ⊢
  clear hB
  replace hex := Lib.hid hex
  replace hR := Lib.hid hR
  go_enter Tryz.func68, Tryz.ntmps68
  go_wp2
  go_loopw [4, 5, 6] (fun ls at_ more X => ∃ (pre : List (List UInt8)) (a : Option Addr) (c : Nat) (mb : Bool), ls = .slice a pre.length c ∧ at_ = .int .i64 (zIe pre : Int) ∧ more = .bool mb ∧ OwnL 9 1 w.heap.size X a c pre.length (strsV pre) ∧ pre.length ≤ 50 ∧ zIe pre ≤ m ∧
      Hid (R = pre ++ if mb then readL (50 - pre.length) (L.drop (zIe pre)) pre.length else []) ∧ Below w.heap.size w X) (fun ls _ more _ => 50 - lenV ls + oneV more)
  case atStart => exact ⟨[], none, 0, true, rfl, rfl, rfl, OwnL.nil _ _ _ _, by simp, Nat.zero_le _, Lib.hid (by rw [← hR.out]; rfl), Below.refl _ _⟩
  case round =>
    obtain ⟨pre, a, c, mb, rfl, rfl, rfl, own, h50, hat, hrd, bX⟩ := hrel
    cases mb
    · have hp : pre = R := by have := hrd.out; simpa using this.symm
      subst hp
      go_wp2_with fail
      go_ret2
      exact ⟨⟨a, c, rfl, own⟩, bX⟩
    by_cases hlt : pre.length < 50
    rotate_left
    · have hp : pre = R := by
        have := hrd.out
        rw [show 50 - pre.length = 0 by omega] at this
        simpa [readL] using this.symm
      have h5I : ¬ (pre.length : Int) < 50 := by omega
      subst hp
      go_wp2_with fail
      go_ret2
      exact ⟨⟨a, c, rfl, own⟩, bX⟩
    have h5I : (pre.length : Int) < 50 := by omega
    obtain ⟨D, hD⟩ : ∃ D, L.drop (zIe pre) = D := ⟨_, rfl⟩
    have hDl : D.length = m - zIe pre := by rw [← hD, List.length_drop, en]
    have hsz : zIe (pre) = zIe pre := rfl
    rw [hD] at hrd
    have dr : ∀ k, L.drop (zIe pre + k) = D.drop k := fun k => by rw [← hD, List.drop_drop]
    obtain ⟨t, ht⟩ : ∃ t, zIe pre = t := ⟨_, rfl⟩
    obtain ⟨i, hi⟩ : ∃ i, pre.length = i := ⟨_, rfl⟩
    rw [ht] at hat hDl dr ⊢
    rw [hi] at hlt h5I hrd
    replace hD := Lib.hid hD
    replace ht := Lib.hid ht
    replace hDl := Lib.hid hDl
    replace dr := Lib.hid dr
    have hi0 := Lib.hid hi
    rw [hi] at own h50 ⊢
    clear hi hsz
    go_wp2_with fail
    go_loopw [4, 5, 6, 7] (fun ls at_ more n Y => ∃ (k : Nat) (mb : Bool), n = .int .i64 (k : Int) ∧ more = .bool mb ∧ k ≤ 82 ∧ Below w.heap.size w Y ∧
      ((mb = false ∧ k ≤ 81 ∧ ls = .slice a i c ∧ at_ = .int .i64 (t : Int) ∧ OwnL 9 1 w.heap.size Y a c i (strsV pre) ∧ Hid (∀ j, j < k → ¬ Mt D i j)) ∨
       (mb = true ∧ ∃ (s : List UInt8) (a' : Option Addr) (c' : Nat), ls = .slice a' (i + 1) c' ∧ at_ = .int .i64 ((t + 10 + s.length : Nat) : Int) ∧ OwnL 9 1 w.heap.size Y a' c' (i + 1) (strsV (pre ++ [s])) ∧ Hid (recAt D i = some s ∧ t + 10 + s.length ≤ m)))) (fun _ _ _ n _ => 82 - okV n)
    case atStart => exact ⟨0, false, rfl, rfl, by omega, bX, .inl ⟨rfl, by omega, rfl, rfl, own, Lib.hid fun j hj => absurd hj (Nat.not_lt_zero j)⟩⟩
    case round =>
      obtain ⟨k, mb, rfl, rfl, hk82, bY, ⟨rfl, hk, rfl, rfl, oY, hno⟩ | ⟨rfl, s, a', c', rfl, rfl, oY, hre⟩⟩ := hrel
      · by_cases hin : k ≤ 80 ∧ t + 10 + k ≤ m
        · obtain ⟨hk80, hfit⟩ := hin
          have hk8I : (k : Int) ≤ 80 := by omega
          have hfI : (t : Int) + 10 + (k : Int) ≤ (m : Int) := by omega
          have w1 : IntKind.i64.wrap ((t : Int) + 10) = (t : Int) + 10 := IntWalk.i64_in _ (by omega)
          have w2 : IntKind.i64.wrap ((t : Int) + 10 + (k : Int)) = (t : Int) + 10 + (k : Int) := IntWalk.i64_in _ (by omega)
          have w3 : IntKind.i64.wrap ((t : Int) + 9) = (t : Int) + 9 := IntWalk.i64_in _ (by omega)
          have w4 : IntKind.i64.wrap ((t : Int) + 9 + (k : Int)) = (t : Int) + 9 + (k : Int) := IntWalk.i64_in _ (by omega)
          have w5 : IntKind.i64.wrap ((k : Int) + 1) = (k : Int) + 1 := IntWalk.i64_in _ (by omega)
          have e1 : B.extract (t + 9) (t + 9 + k) = ⟨((D.drop 9).take k).toArray⟩ := by rw [hex.out, dr.out, show t + 9 + k - (t + 9) = k by omega]
          have e2 : B.extract t (t + 10 + k) = ⟨(D.take (10 + k)).toArray⟩ := by
            have := dr.out 0
            rw [Nat.add_zero, List.drop_zero] at this
            rw [hex.out, this, show t + 10 + k - t = 10 + k by omega]
          have hS : ((D.drop 9).take k).length = k := by have := hDl.out; rw [List.length_take, List.length_drop]; omega
          have hRc := fun W => Record_ref ⟨((D.drop 9).take k).toArray⟩ i W (by show ((D.drop 9).take k).length ≤ 1000; omega) (by omega)
          have hmt : Mt D i k ↔ D.take (10 + k) = recL ((D.drop 9).take k) i := ⟨fun h => h.2, fun h => ⟨by have := hDl.out; omega, h⟩⟩
          have hmr := fun h : Mt D i k => mt_rec h hk80
          obtain ⟨S, hSe⟩ : ∃ S, (D.drop 9).take k = S := ⟨_, rfl⟩
          rw [hSe] at e1 hS hRc hmt hmr
          obtain ⟨T, hTe⟩ : ∃ T, D.take (10 + k) = T := ⟨_, rfl⟩
          rw [hTe] at e2 hmt
          obtain ⟨U, hUe⟩ : ∃ U, recL S i = U := ⟨_, rfl⟩
          have hRc2 : ∀ W, Calls Tryz.prog 124 #[.string ⟨S.toArray⟩, .int .i64 (i : Int)] W fun e w' => e = .returned (.string ⟨U.toArray⟩) ∧ Below W.heap.size W w' := fun W => by rw [← hUe]; exact hRc W
          rw [hUe] at hmt
          clear hRc hSe hTe hUe
          replace hS := Lib.hid hS
          replace hmr := Lib.hid hmr
          by_cases hM : T = U
          · subst hM
            have hm2 := hmr.out (hmt.2 rfl)
            go_upto_region 10 with fail
            (refine zAC 12 (by kernel_rfl) (by kernel_rfl) ?_; simp only [List.take_succ_cons, List.take_zero, List.drop_succ_cons, List.drop_zero]; (repeat (go_big_quiet_step (((go_at_call 124; refine zCj (hRc2 _)))))); refine wpQuiet_nil ?_; rintro _ ⟨ex, rfl⟩; have hex := ex.below; have hexz := ex.size; (try simp at hexz); (try (have hy0 : w.heap.size < ex.to.heap.size := by omega)); (try (have hy1 : w.heap.size + 1 < ex.to.heap.size := by omega)); (try (have hy2 : w.heap.size + 2 < ex.to.heap.size := by omega)))
            obtain ⟨w1, hX⟩ : ∃ x : World, x = ex.to := ⟨_, rfl⟩
            rw [← hX] at hex ⊢
            clear hX hexz
            have b1 := bY.trans (hex.mono bY.size)
            have o1 := oY.kept hex
            clear hmt
            go_wp2_with (at_builtin; refine zCd zIN rfl _ _ rfl w.heap.size a i c _ rfl o1 1 1 rfl rfl (fun u hu => ?c1) ?c2 ?c3 ?c4 ?_)
            case c1 => simp at hu; subst hu; rfl
            case c2 => unfold maxLen; omega
            case c3 => omega
            case c4 => exact b1.size
            intro a2 c2 w2 o2 b3 _
            go_wp2_with fail
            go_round
            case rel => exact ⟨k + 1, true, by go_num, rfl, by omega, b1.trans b3, .inr ⟨rfl, S, a2, c2, rfl, by rw [hS.out]; rfl, by unfold strsV at o2 ⊢; rw [List.map_append]; exact o2, Lib.hid ⟨hm2, by rw [hS.out]; omega⟩⟩⟩
            case measure => simp [okV]; omega
          · have hn2 : ¬ Mt D i k := fun h => hM (hmt.1 h)
            have hMf : (T == U) = false := by simpa using hM
            clear hmt
            go_upto_region 10 with fail
            (refine zAC 12 (by kernel_rfl) (by kernel_rfl) ?_; simp only [List.take_succ_cons, List.take_zero, List.drop_succ_cons, List.drop_zero]; (repeat (go_big_quiet_step (((go_at_call 124; refine zCj (hRc2 _)))))); refine wpQuiet_nil ?_; rintro _ ⟨ex, rfl⟩; have hex := ex.below; have hexz := ex.size; (try simp at hexz); (try (have hy0 : w.heap.size < ex.to.heap.size := by omega)); (try (have hy1 : w.heap.size + 1 < ex.to.heap.size := by omega)); (try (have hy2 : w.heap.size + 2 < ex.to.heap.size := by omega)))
            obtain ⟨w1, hX⟩ : ∃ x : World, x = ex.to := ⟨_, rfl⟩
            rw [← hX] at hex ⊢
            clear hX hexz
            have b1 := bY.trans (hex.mono bY.size)
            have o1 := oY.kept hex
            go_wp2_with fail
            go_round
            case rel => exact ⟨k + 1, false, by go_num, rfl, by omega, b1, .inl ⟨rfl, by omega, rfl, rfl, o1, Lib.hid fun j hj => by
              by_cases hjk : j < k
              · exact hno.out j hjk
              · obtain rfl : j = k := by omega
                exact hn2⟩⟩
            case measure => simp [okV]; omega
        · have hall : ∀ j, j ≤ 80 → ¬ Mt D i j := fun j hj hm2 => by
            by_cases hjk : j < k
            · exact hno.out j hjk hm2
            · have := hm2.1
              have := hDl.out
              omega
          have hnone := none_mt hall
          have hr2 : Hid (R = pre) := Lib.hid (by
            have := hrd.out
            rw [if_pos trivial, readL_none hnone, List.append_nil] at this
            exact this)
          clear hall hnone
          by_cases hk8 : k ≤ 80
          · have hk8I : (k : Int) ≤ 80 := by omega
            have w1 : IntKind.i64.wrap ((t : Int) + 10) = (t : Int) + 10 := IntWalk.i64_in _ (by omega)
            have w2 : IntKind.i64.wrap ((t : Int) + 10 + (k : Int)) = (t : Int) + 10 + (k : Int) := IntWalk.i64_in _ (by omega)
            have hfI : ¬ (t : Int) + 10 + (k : Int) ≤ (m : Int) := by omega
            go_wp2_with fail
            go_round
            case rel => exact ⟨pre, a, c, false, by rw [hi0.out], by rw [ht.out], rfl, by rw [hi0.out]; exact oY, by rw [hi0.out]; exact h50, by rw [ht.out]; exact hat, Lib.hid (by rw [hr2.out]; simp), bY⟩
            case measure => simp [lenV, oneV]
          · have hk8I : ¬ (k : Int) ≤ 80 := by omega
            go_wp2_with fail
            go_round
            case rel => exact ⟨pre, a, c, false, by rw [hi0.out], by rw [ht.out], rfl, by rw [hi0.out]; exact oY, by rw [hi0.out]; exact h50, by rw [ht.out]; exact hat, Lib.hid (by rw [hr2.out]; simp), bY⟩
            case measure => simp [lenV, oneV]
      · obtain ⟨hre1, hre2⟩ := hre.out
        obtain ⟨t2, ht2⟩ : ∃ t2, t + 10 + s.length = t2 := ⟨_, rfl⟩
        rw [ht2] at hre2 ⊢
        have hsz : zIe (pre ++ [s]) = t2 := by
          rw [size_app, ht.out, ← ht2]
          simp [zIe]; omega
        have hln : (pre ++ [s]).length = i + 1 := by rw [List.length_append, hi0.out]; rfl
        have hr3 : Hid (R = (pre ++ [s]) ++ if true then readL (50 - (pre ++ [s]).length) (L.drop (zIe (pre ++ [s]))) (pre ++ [s]).length else []) := Lib.hid (by
          have h1 := hrd.out
          rw [if_pos trivial, show 50 - i = (50 - (i + 1)) + 1 by omega, readL_cons hre1] at h1
          rw [if_pos rfl, hsz, hln, h1, ← ht2, Nat.add_assoc t 10 s.length, dr.out]
          simp)
        replace hsz := Lib.hid hsz
        replace hln := Lib.hid hln
        replace ht2 := Lib.hid ht2
        clear hre hre1
        have w1 : IntKind.i64.wrap ((t2 : Int) + 10) = (t2 : Int) + 10 := IntWalk.i64_in _ (by omega)
        have w2 : IntKind.i64.wrap ((t2 : Int) + 10 + (k : Int)) = (t2 : Int) + 10 + (k : Int) := IntWalk.i64_in _ (by omega)
        by_cases hk8 : k ≤ 80
        · have hk8I : (k : Int) ≤ 80 := by omega
          by_cases hf : t2 + 10 + k ≤ m
          · have hfI : (t2 : Int) + 10 + (k : Int) ≤ (m : Int) := by omega
            go_wp2_with fail
            go_round
            case rel => exact ⟨pre ++ [s], a', c', true, by rw [hln.out], by rw [hsz.out], rfl, by rw [hln.out]; exact oY, by rw [hln.out]; omega, by rw [hsz.out]; exact hre2, hr3, bY⟩
            case measure => simp [lenV, oneV]; omega
          · have hfI : ¬ (t2 : Int) + 10 + (k : Int) ≤ (m : Int) := by omega
            go_wp2_with fail
            go_round
            case rel => exact ⟨pre ++ [s], a', c', true, by rw [hln.out], by rw [hsz.out], rfl, by rw [hln.out]; exact oY, by rw [hln.out]; omega, by rw [hsz.out]; exact hre2, hr3, bY⟩
            case measure => simp [lenV, oneV]; omega
        · have hk8I : ¬ (k : Int) ≤ 80 := by omega
          go_wp2_with fail
          go_round
          case rel => exact ⟨pre ++ [s], a', c', true, by rw [hln.out], by rw [hsz.out], rfl, by rw [hln.out]; exact oY, by rw [hln.out]; omega, by rw [hsz.out]; exact hre2, hr3, bY⟩
          case measure => simp [lenV, oneV]; omega
end Go.Proofs.YticjeianiahppaaGreatDoor
