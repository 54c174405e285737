/- book, laws: records and files as the reference writes them -/
import Derived.Test.YticjeianiahppaaGreatDoorGo
import Derived.Test.YticjeianiahppaaGreatDoorDC
namespace Go.Proofs.YticjeianiahppaaGreatDoor
set_option linter.unusedVariables false
set_option linter.unusedSimpArgs false
set_option linter.unnecessarySimpa false
open Go.RowKit Go.Flow
theorem byt_of {s : ByteArray} {L : List UInt8} (h : s.data.toList = L) : s = ⟨L.toArray⟩ := by
  subst h; obtain ⟨⟨l⟩⟩ := s; rfl
theorem cat_bytes (a b : List UInt8) : (⟨a.toArray⟩ : ByteArray) ++ ⟨b.toArray⟩ = ⟨(a ++ b).toArray⟩ := byt_of (by rw [ByteArray.data_append, Array.toList_append])
theorem cat_lists (a b : List UInt8) (h : a.length + b.length ≤ 1000000) (W : World) : (Op.stringOp .add ⟨a.toArray⟩ ⟨b.toArray⟩).run Tryz.prog W = .ok (.string ⟨(a ++ b).toArray⟩) W := by
  rw [← cat_bytes]; exact zNF _ _ (by simpa [ByteArray.size] using h) W
theorem byte_src (X : World) (D : UInt8) : SrcAt (X.alloc (.cells #[.int .u8 (D.toNat : Int)] 5)) (some ⟨X.heap.size, 0, none⟩) (zDB [D]) := fun j u hu => by
  match j, hu with
  | 0, hu => simp [zDB] at hu; subst hu; exact ⟨_, 0, rfl, by simp⟩
  | j + 1, hu => simp [zDB] at hu
set_option maxRecDepth 100000 in
set_option maxHeartbeats 4000000 in
theorem wide_ref (n many : Nat) (w : World) (hn : n ≤ 1000000000) (hm : many ≤ 100) : Calls Tryz.prog 184 #[.int .i64 (n : Int), .int .i64 (many : Int)] w fun e w' => e = .returned (.string ⟨(zCH n many).toArray⟩) ∧ Below w.heap.size w w' := by
  go_enter Tryz.func184, Tryz.ntmps184
  go_wp2
  go_loopw [0, 5, 6] (fun m o i X => ∃ j : Nat, j ≤ many ∧ i = .int .i64 j ∧ m = .int .i64 (n / 10 ^ j : Nat) ∧ o = .string ⟨(zCH n j).toArray⟩ ∧ Below w.heap.size w X) (fun _ _ i _ => many - (intOf i).toNat)
  case atStart => exact ⟨0, Nat.zero_le _, rfl, by simp, rfl, Below.refl _ _⟩
  case round =>
    obtain ⟨j, hj, rfl, rfl, rfl, bX⟩ := hrel
    have hwf := zKG n j
    have hwl := zCC n j
    obtain ⟨m, hmm⟩ : ∃ m, n / 10 ^ j = m := ⟨_, rfl⟩
    have hm1 : m ≤ 1000000000 := by rw [← hmm]; exact Nat.le_trans (Nat.div_le_self _ _) hn
    have hpw : n / 10 ^ (j + 1) = m / 10 := by rw [Nat.pow_succ, ← Nat.div_div_eq_div_mul, hmm]
    rw [hmm] at hwf ⊢
    obtain ⟨Y, hY⟩ : ∃ Y, zCH n j = Y := ⟨_, rfl⟩
    rw [hY] at hwf hwl ⊢
    replace hwf := Lib.hid hwf
    replace hpw := Lib.hid hpw
    replace hwl := Lib.hid hwl
    replace hY := Lib.hid hY
    clear hmm
    by_cases hlt : j < many
    · have hltI : (j : Int) < (many : Int) := by omega
      have jw : IntKind.i64.wrap ((j : Int) + 1) = (j : Int) + 1 := IntWalk.i64_in _ (by omega)
      have hw8 : IntKind.u8.wrap (48 + ((m % 10 : Nat) : Int)) = 48 + ((m % 10 : Nat) : Int) := by rw [IntKind.wrap_u8]; omega
      have iwd : IntKind.i64.wrap (48 + ((m % 10 : Nat) : Int)) = 48 + ((m % 10 : Nat) : Int) := IntWalk.i64_in _ (by omega)
      have hv : (48 + (m : Int) % 10) = ((UInt8.ofNat (48 + m % 10)).toNat : Int) := by rw [zPK (Nat.mod_lt _ (by omega))]; omega
      have cv := conv_str (wr.alloc (.cells #[.int .u8 (48 + (m : Int) % 10)] 5)) (some ⟨wr.heap.size, 0, none⟩) 1 1 [UInt8.ofNat (48 + m % 10)] rfl (by rw [hv]; exact byte_src wr _)
      have ct := cat_lists [UInt8.ofNat (48 + m % 10)] Y (by have := hwl.out; simp; omega)
      generalize UInt8.ofNat (48 + m % 10) = D at cv ct hwf
      clear hv
      go_wp2_with fail
      go_round
      case rel => exact ⟨j + 1, by omega, by go_num, by rw [hpw.out]; rfl, by rw [hwf.out]; first | done | rfl, bX.alloc bX.size _⟩
      case measure => simp [intOf]; omega
    · obtain rfl : j = many := by omega
      go_wp2_with fail
      go_ret
      exact ⟨by rw [hY.out]; rfl, bX⟩
set_option maxRecDepth 100000 in
set_option maxHeartbeats 4000000 in
theorem Record_ref (s : ByteArray) (i : Nat) (w : World) (hs : s.size ≤ 1000) (hi : i ≤ 1000) : Calls Tryz.prog 124 #[.string s, .int .i64 (i : Int)] w fun e w' => e = .returned (.string ⟨(recL s.data.toList i).toArray⟩) ∧ Below w.heap.size w w' := by
  have hsz : s.data.toList.length = s.size := Array.length_toList
  have iw1 : IntKind.i64.wrap ((i : Int) + 1) = (i : Int) + 1 := IntWalk.i64_in _ (by omega)
  have iw2 : IntKind.i64.wrap (23 * ((i : Int) + 1)) = 23 * ((i : Int) + 1) := IntWalk.i64_in _ (by omega)
  go_enter Tryz.func124, Tryz.ntmps124
  go_wp2
  go_loopw [5, 6] (fun n ix X => ∃ k : Nat, k ≤ s.size ∧ ix = .int .i64 k ∧ n = .int .i64 (preW s.data.toList i k : Int) ∧ Below w.heap.size w X) (fun _ ix _ => s.size - (intOf ix).toNat)
  case atStart => exact ⟨0, Nat.zero_le _, rfl, by simp [preW, sumW], Below.refl _ _⟩
  case round =>
    obtain ⟨k, hk, rfl, rfl, hb⟩ := hrel
    have pl := zPI (s := s.data.toList) (i := i) (k := k) (by omega) hi (by omega)
    obtain ⟨n, hn⟩ : ∃ n, preW s.data.toList i k = n := ⟨_, rfl⟩
    rw [hn] at pl ⊢
    have Hn := Lib.hid hn
    clear hn
    by_cases hlt : k < s.size
    · have hkI : (k : Int) < (s.size : Int) := by omega
      have hk0 : (0 : Int) ≤ (k : Int) := by omega
      have hkL : k < s.data.toList.length := by omega
      have hb8 : (s.data.toList[k]).toNat < 256 := (s.data.toList[k]).toNat_lt
      have hix : ∀ W : World, (Instr.index 9 (.string s) (.int .i64 (k : Int))).run Tryz.prog W = .ok (.int .u8 ((s.data.toList[k]).toNat : Int)) W := fun W => by
        rw [run_index_string W 9 s .i64 (k : Int) Tryz.underlying9, dif_pos ⟨hk0, hkI⟩]
        rfl
      have hp := zLo (i := i) hkL
      rw [Hn.out] at hp
      generalize (s.data.toList[k]).toNat = x at hb8 hix hp
      have Hp := Lib.hid hp
      clear hp
      have iwk : IntKind.i64.wrap ((k : Int) + 1) = (k : Int) + 1 := IntWalk.i64_in _ (by omega)
      have hm0 : 0 ≤ ((k : Int) + 1) * (x : Int) := Int.mul_nonneg (by omega) (by omega)
      have hm1 : ((k : Int) + 1) * (x : Int) ≤ 1001 * 256 := by
        have h1 : ((k : Int) + 1) * (x : Int) ≤ 1001 * (x : Int) := Int.mul_le_mul_of_nonneg_right (by omega) (by omega)
        omega
      have iwm : IntKind.i64.wrap (((k : Int) + 1) * (x : Int)) = ((k : Int) + 1) * (x : Int) := IntWalk.i64_in _ (by omega)
      have iws : IntKind.i64.wrap ((n : Int) + ((k : Int) + 1) * (x : Int)) = (n : Int) + ((k : Int) + 1) * (x : Int) := IntWalk.i64_in _ (by omega)
      have iwx : IntKind.i64.wrap (x : Int) = (x : Int) := IntWalk.i64_in _ (by omega)
      go_wp2
      go_round
      case rel => exact ⟨k + 1, by omega, by go_num, by rw [Hp.out]; rfl, hb⟩
      case measure => simp [intOf]; omega
    · obtain rfl : k = s.size := by omega
      obtain ⟨ck, hck⟩ : ∃ ck, chkL s.data.toList i = ck := ⟨_, rfl⟩
      have e : n % 99989 = ck := by
        rw [← hck]
        unfold chkL
        rw [← Hn.out]; unfold preW
        rw [List.take_of_length_le (by omega)]
      have hckl : ck < 99989 := by rw [← hck]; exact zQO _ _
      have eI : (n : Int).tmod 99989 = (ck : Int) := by rw [← e]; rfl
      have eI2 : (n : Int) % 99989 = (ck : Int) := by rw [← e]; rfl
      have hrec : recL s.data.toList i = ((((zCH s.size 2 ++ [45]) ++ zCH ck 5) ++ [45]) ++ s.data.toList) ++ [10] := by
        unfold recL
        rw [hck, hsz]; simp
      have W1 := fun W => wide_ref s.size 2 W (by omega) (by omega)
      have W2 := fun W => wide_ref ck 5 W (by omega) (by omega)
      have l1 := zCC s.size 2
      have l2 := zCC ck 5
      generalize zCH s.size 2 = A at W1 l1 hrec
      generalize zCH ck 5 = B at W2 l2 hrec
      have c1 := cat_lists A [45] (by simp; omega)
      obtain ⟨X1, h1⟩ : ∃ X, A ++ [45] = X := ⟨_, rfl⟩
      have z1 : X1.length = 3 := by rw [← h1, List.length_append, l1]; rfl
      have c2 := cat_lists X1 B (by omega)
      obtain ⟨X2, h2⟩ : ∃ X, X1 ++ B = X := ⟨_, rfl⟩
      have z2 : X2.length = 8 := by rw [← h2, List.length_append, l2, z1]
      have c3 := cat_lists X2 [45] (by simp; omega)
      obtain ⟨X3, h3⟩ : ∃ X, X2 ++ [45] = X := ⟨_, rfl⟩
      have z3 : X3.length = 9 := by rw [← h3, List.length_append, z2]; rfl
      have c4 := cat_lists X3 s.data.toList (by omega)
      have hse : s = ⟨s.data.toList.toArray⟩ := byt_of rfl
      rw [← hse] at c4
      obtain ⟨X4, h4⟩ : ∃ X, X3 ++ s.data.toList = X := ⟨_, rfl⟩
      have z4 : X4.length = 9 + s.size := by rw [← h4, List.length_append, z3, hsz]
      have c5 := cat_lists X4 [10] (by simp; omega)
      obtain ⟨X5, h5⟩ : ∃ X, X4 ++ [10] = X := ⟨_, rfl⟩
      rw [h1] at c1 hrec
      rw [h2] at c2 hrec
      rw [h3] at c3 hrec
      rw [h4] at c4 hrec
      rw [h5] at c5 hrec
      replace hrec := Lib.hid hrec
      clear h1 h2 h3 h4 h5 z1 z2 z3 z4
      replace l1 := Lib.hid l1
      replace l2 := Lib.hid l2
      clear hse hck e iw1 iw2
      go_wp2_with fail
      go_at_call 184
      refine (W1 _).mono ?_
      rintro e1 w1 ⟨rfl, b1⟩
      go_wp2_with fail
      go_at_call 184
      refine (W2 _).mono ?_
      rintro e2 w2 ⟨rfl, b2⟩
      go_wp2_with fail
      go_ret
      exact ⟨by rw [hrec.out]; rfl, (hb.trans (b1.mono hb.size)).trans (b2.mono (Nat.le_trans hb.size b1.size))⟩
set_option maxRecDepth 100000 in
set_option maxHeartbeats 4000000 in
theorem File_ref (a : Option Addr) (c : Nat) (l : List ByteArray) (w : World) (hl : zAs w a l) (h50 : l.length ≤ 50) (h80 : ∀ s ∈ l, s.size ≤ 80) : Calls Tryz.prog 70 #[.slice a l.length c] w fun e w' => e = .returned (.string ⟨(zDT l).toArray⟩) ∧ Below w.heap.size w w' := by
  go_enter Tryz.func70, Tryz.ntmps70
  go_wp2
  go_loopw [3, 4] (fun o i X => ∃ k : Nat, k ≤ l.length ∧ i = .int .i64 k ∧ o = .string ⟨(zDT (l.take k)).toArray⟩ ∧ Below w.heap.size w X) (fun _ i _ => l.length - (intOf i).toNat)
  case atStart => exact ⟨0, Nat.zero_le _, rfl, rfl, Below.refl _ _⟩
  case round =>
    obtain ⟨k, hk, rfl, rfl, bX⟩ := hrel
    by_cases hlt : k < l.length
    · have hltI : (k : Int) < (l.length : Int) := by omega
      have hk0 : (0 : Int) ≤ (k : Int) := by omega
      have iw : IntKind.i64.wrap ((k : Int) + 1) = (k : Int) + 1 := IntWalk.i64_in _ (by omega)
      obtain ⟨b, off, rfl, hbl, hc⟩ := (hl.below bX) k hlt
      have hsz := h80 _ (List.getElem_mem hlt)
      have hft := zMi hlt
      have hfl : (zDT (l.take k)).length ≤ 90 * k := by unfold zDT; rw [zOM]; exact zHg h80 k
      have hrl := zLh (l[k].data.toList) k
      have hsl : (l[k].data.toList).length = l[k].size := Array.length_toList
      have R := fun W => Record_ref l[k] k W (by omega) (by omega)
      generalize l[k] = s at hc hsz hft hrl hsl R
      generalize zDT (l.take k) = F at hft hfl ⊢
      generalize recL s.data.toList k = G at hft hrl R
      have ct := cat_lists F G (by omega)
      replace hft := Lib.hid hft
      replace hsl := Lib.hid hsl
      replace hrl := Lib.hid hrl
      go_wp2_with fail
      go_at_call 124
      refine (R _).mono ?_
      rintro e w1 ⟨rfl, b1⟩
      go_wp2_with fail
      go_round
      case rel => exact ⟨k + 1, by omega, by go_num, by rw [hft.out], bX.trans (b1.mono bX.size)⟩
      case measure => simp [intOf]; omega
    · obtain rfl : k = l.length := by omega
      simp only [List.take_length]
      go_wp2_with fail
      go_ret
      exact ⟨rfl, bX⟩
end Go.Proofs.YticjeianiahppaaGreatDoor
