/- flash: what is misread -/
import Derived.Test.YtnofcpihkglmmaaFr
import Derived.Deep.DeepCutAuto
import Derived.ChangeKeysEq
namespace Go.Proofs.Ytnofcpihkglmmaa
set_option linter.unusedVariables false
set_option linter.unusedSimpArgs false
set_option linter.unnecessarySimpa false
open Go.RowKit Go.Flow
/-- How what is misread goes on. -/
def Nx (κ : Nat) (s r l : List UInt8) : Prop :=
  (κ = 0 ∧ ∃ x, s = x :: l ∧ r = [x]) ∨ (κ = 1 ∧ (∃ x, s = x :: l) ∧ r = []) ∨ (κ = 2 ∧ s = 45 :: l ∧ r = [46, 46]) ∨ (κ = 3 ∧ s = 46 :: 46 :: l ∧ r = [45]) ∨ (κ = 4 ∧ (∃ x, s = x :: l) ∧ r = []) ∨ (κ = 5 ∧ l = s ∧ r = [32])
def kCost (κ : Nat) : Nat := if κ = 0 then 0 else 1
theorem Nx.der {κ : Nat} {s r l : List UInt8} (h : Nx κ s r l) {a b : List UInt8} {e : Nat} (hd : Der a b e) : ∃ a', a' ++ l = a ++ s ∧ Der a' (b ++ r) (e + kCost κ) := by
  rcases h with ⟨rfl, x, rfl, rfl⟩ | ⟨rfl, ⟨x, rfl⟩, rfl⟩ | ⟨rfl, rfl, rfl⟩ | ⟨rfl, rfl, rfl⟩ | ⟨rfl, ⟨x, rfl⟩, rfl⟩ | ⟨rfl, rfl, rfl⟩
  · exact ⟨a ++ [x], by simp, hd.copy x⟩
  · exact ⟨a ++ [x], by simp, by rw [List.append_nil]; exact hd.miss x⟩
  · exact ⟨a ++ [45], by simp, hd.split⟩
  · exact ⟨a ++ [46, 46], by simp, hd.join⟩
  · exact ⟨a ++ [x], by simp, by rw [List.append_nil]; exact hd.miss x⟩
  · exact ⟨a, by simp, hd.gap⟩
theorem Nx.less {κ : Nat} {s r l : List UInt8} (h : Nx κ s r l) : l.length < s.length + kCost κ ∧ l.length ≤ s.length := by
  rcases h with ⟨rfl, x, rfl, rfl⟩ | ⟨rfl, ⟨x, rfl⟩, rfl⟩ | ⟨rfl, rfl, rfl⟩ | ⟨rfl, rfl, rfl⟩ | ⟨rfl, ⟨x, rfl⟩, rfl⟩ | ⟨rfl, rfl, rfl⟩ <;> simp [kCost] <;> omega
theorem Nx.le {κ : Nat} {s r l : List UInt8} (h : Nx κ s r l) : r.length ≤ 2 := by
  rcases h with ⟨rfl, x, rfl, rfl⟩ | ⟨rfl, ⟨x, rfl⟩, rfl⟩ | ⟨rfl, rfl, rfl⟩ | ⟨rfl, rfl, rfl⟩ | ⟨rfl, ⟨x, rfl⟩, rfl⟩ | ⟨rfl, rfl, rfl⟩ <;> simp
theorem idx_arr (cs : Array Value) (κ : Nat) (v : Value) (w : World) (hk : κ ≤ 5) (hv : cs[κ]? = some v) : (Instr.index 102 (.agg cs) (.int .i64 (κ : Int))).run Try.prog w = .ok v w := by
  have hn : 0 ≤ (κ : Int) ∧ (κ : Int) < 6 := by omega
  have hs := Try.sizeOf9
  have hp := run_part_plain (P := Try.prog) (w := w) (e := 9) (by kernel_rfl) hv
  simp [Instr.index, run_underlying Try.underlying102, asIntOf, hn, go_sem, hp]
  rw [if_pos (by omega), hv]
  rfl
def BoolP (P : Bool → Prop) (v : Value) : Prop := ∃ q, v = .bool q ∧ P q
def KindP (lim : Prop) (v : Value) : Prop := ∃ κ : Nat, κ ≤ 5 ∧ v = .int .i64 (κ : Int) ∧ (κ = 0 ∨ lim)
/-- What a step writes. -/
def WrK (κ : Nat) (s r : List UInt8) : Prop := (κ = 0 ∧ ∃ x l, s = x :: l ∧ r = [x]) ∨ (κ = 1 ∧ r = []) ∨ (κ = 2 ∧ r = [46, 46]) ∨ (κ = 3 ∧ r = [45]) ∨ (κ = 4 ∧ r = []) ∨ (κ = 5 ∧ r = [32])
def WrP (κ : Nat) (s : List UInt8) (v : Value) : Prop := ∃ W : ByteArray, v = .string W ∧ WrK κ s W.data.toList ∧ W.size ≤ 2
theorem nx_of {κ : Nat} {s r l : List UInt8} (h1 : StL κ s l) (h2 : WrK κ s r) : Nx κ s r l := by
  rcases h1 with ⟨rfl, x, rfl⟩ | ⟨rfl, x, rfl⟩ | ⟨rfl, rfl⟩ | ⟨rfl, rfl⟩ | ⟨rfl, x, rfl⟩ | ⟨rfl, rfl⟩
  · rcases h2 with ⟨_, y, l', e, rfl⟩ | ⟨h, _⟩ | ⟨h, _⟩ | ⟨h, _⟩ | ⟨h, _⟩ | ⟨h, _⟩ <;> first | (cases h; done) | skip
    injection e with e1 e2
    subst e1
    exact .inl ⟨rfl, _, rfl, rfl⟩
  all_goals
    rcases h2 with ⟨h, _⟩ | ⟨h, h2⟩ | ⟨h, h2⟩ | ⟨h, h2⟩ | ⟨h, h2⟩ | ⟨h, h2⟩ <;> first | (cases h; done) | (subst h2; simp [Nx])
theorem f2Step_any (κ : Nat) (hk : κ ≤ 5) (sent read : ByteArray) (w : World) (hs : sent.size ≤ 1000000) : Calls Try.prog 53 #[.int .i64 (κ : Int), .string sent, .string read] w fun e w' => StepR κ sent e ∧ Below w.heap.size w w' := by
  rcases (show κ = 0 ∨ κ = 1 ∨ κ = 2 ∨ κ = 3 ∨ κ = 4 ∨ κ = 5 by omega) with rfl | rfl | rfl | rfl | rfl | rfl
  · exact f2Step0 sent read w hs
  · exact f2Step1 sent read w hs
  · exact f2Step2 sent read w hs
  · exact f2Step3 sent read w hs
  · exact f2Step4 sent read w hs
  · exact f2Step5 sent read w hs
section
variable (S : ByteArray) (aw : Option Addr) (ws : List Int) (cw : Nat) (E : Nat) (w : World) (hS : S.size ≤ 100) (hw : W16At w aw ws) (hu : ∀ x ∈ ws, 0 ≤ x ∧ x ≤ 65535) (hwl : ws.length ≤ 9223372036854775807) (hE : E ≤ 10)
include hS hw hu hwl hE
set_option maxRecDepth 100000 in
set_option maxHeartbeats 4000000 in
theorem f2Misread : Calls Try.prog 25 #[.string S, .slice aw ws.length cw, .int .i64 (E : Int)] w fun e w' => ∃ (Z : ByteArray) (a : Option Addr) (n c : Nat), (e = .returned (.tuple #[.string Z, .slice a n c]) ∧ ∃ k, k ≤ E ∧ Der S.data.toList Z.data.toList k) ∧ Below w.heap.size w w' := by
  obtain ⟨L, hL⟩ : ∃ L, S.data.toList = L := ⟨_, rfl⟩
  have hLs : L.length = S.size := by rw [← hL]; simp
  rw [hL]
  have HL := Lib.hid hL
  have HLs := Lib.hid hLs
  have Hu := Lib.hid hu
  clear hL hLs hu
  go_enter Try.func25, Try.ntmps25
  go_upto_region 4 with fail
  go_loopw [0, 2, 8, 9, 10] (fun s0 e0 z0 l0 i0 X => ∃ (s z : ByteArray) (j n k : Nat) (a : Option Addr) (c : Nat) (cons : List UInt8), s0 = .string s ∧ e0 = .int .i64 ((E : Int) - (j : Int)) ∧ z0 = .string z ∧ l0 = .slice a n c ∧ i0 = .int .i64 k ∧ j ≤ E ∧ cons ++ s.data.toList = L ∧ Der cons z.data.toList j ∧ Below w.heap.size w X ∧ (∃ xs, OwnL 3 1 w.heap.size X a c n xs) ∧ k + s.size + (E - j) ≤ S.size + E ∧ n ≤ k ∧ z.size ≤ 2 * k) (fun s0 e0 _ _ _ _ => (match s0 with | .string s => s.size | _ => 0) + (intOf e0).toNat)
  case atStart => exact ⟨S, ⟨#[]⟩, 0, 0, 0, none, 0, [], rfl, by simp, rfl, rfl, rfl, by omega, by rw [List.nil_append]; exact HL.out, Der.nil, Below.refl _ _, ⟨[], OwnL.nil _ _ _ _⟩, by omega, by omega, Nat.le_refl _⟩
  case round =>
    obtain ⟨s, z, j, n, k, a, c, cons, rfl, rfl, rfl, rfl, rfl, hj, hcs, hd, hb, ⟨xs, ho⟩, hm, hn, hz⟩ := hrel
    rename World => X
    have Hcs := Lib.hid hcs
    have Hd := Lib.hid hd
    clear hcs hd
    by_cases h0 : s.size = 0
    · have he : (s.toList == []) = true := by rw [str_nil]; simpa using h0
      have hfin : Der L z.data.toList j := by
        have : s.data.toList = [] := List.eq_nil_of_length_eq_zero (by rw [Array.length_toList]; exact h0)
        rw [← Hcs.out, this, List.append_nil]
        exact Hd.out
      have Hfin := Lib.hid hfin
      clear hfin h0
      have hen : (!(s.toList == [])) = false := by rw [he]; rfl
      go_wp2
      refine bodyPost_ret (results_tmp2 rfl _ _ _) rfl ?_
      first | exact ⟨z, a, n, c, ⟨rfl, j, hj, Hfin.out⟩, hb⟩ | exact ⟨⟨z, a, n, c, rfl, j, hj, Hfin.out⟩, hb⟩
    · have he : (s.toList == []) = false := by rw [str_nil]; simpa using h0
      have hen : (!(s.toList == [])) = true := by rw [he]; rfl
      have hwd := f2word aw ws cw k X (hw.below hb) Hu.out hwl (by omega)
      go_upto_region 8 with (go_at_call 52; refine hwd.mono ?_; rintro _ _ ⟨v, rfl, hv0, hv1, rfl⟩)
      clear hwd
      go_cut [30] (fun q wx => BoolP (fun q => q = true → j < E) q ∧ wx = X)
      case first =>
        cases hm3 : (v % 3 == 0)
        · go_wp2_with fail
          go_meet
          case rel => exact ⟨⟨false, rfl, fun h => by cases h⟩, rfl⟩
        · have hm4 : v % 3 = 0 := by simpa using hm3
          go_wp2_with fail
          go_meet
          case rel => exact ⟨⟨decide (j < E), rfl, fun h => by simpa using h⟩, rfl⟩
      case rest =>
        obtain ⟨⟨q, rfl, hq⟩, hwc⟩ := hcut
        subst hwc
        have Hq := Lib.hid hq
        clear hq
        go_upto_if 30 with fail
        go_cut [11] (fun v wx => KindP (j < E) v ∧ wx = wc)
        case first =>
          cases q
          · go_wp2
            go_meet
            case rel => exact ⟨⟨0, by omega, rfl, .inl rfl⟩, rfl⟩
          · have hr : IntKind.i64.wrap (1 + v / 4 % 5) = 1 + v / 4 % 5 := IntWalk.i64_in _ (by omega)
            go_wp2_with fail
            go_meet
            case rel => exact ⟨⟨(1 + v / 4 % 5).toNat, by omega, by go_num, .inr (Hq.out (by trivial))⟩, rfl⟩
        case rest =>
          obtain ⟨⟨κ, hκ, rfl, hlim⟩, hwc⟩ := hcut
          subst hwc
          have hs1 : s.size ≤ 1000 := by omega
          go_upto_region 10 with fail
          go_cut [13] (fun v wx => WrP κ s.data.toList v ∧ wx = wc)
          case first =>
            have hhd := head_cons s (by omega)
            have hlen1 : (s.extract 0 1).data.toList = [s[0]] := by
              rw [Lib.extract_data, hhd]; rfl
            have hsz1 : (s.extract 0 1).size ≤ 2 := by rw [ByteArray.size_extract]; omega
            have Hhd := Lib.hid hhd
            have Hl1 := Lib.hid hlen1
            have Hs1 := Lib.hid hsz1
            have h1s : (1 : Int) ≤ (s.size : Int) := by omega
            clear hhd hlen1 hsz1
            rcases (show κ = 0 ∨ κ = 1 ∨ κ = 2 ∨ κ = 3 ∨ κ = 4 ∨ κ = 5 by omega) with rfl | rfl | rfl | rfl | rfl | rfl
            · have hidx : ∀ w, (Instr.index 102 (.agg #[.string (s.extract 0 1), .string ⟨#[]⟩, .string ⟨#[46, 46]⟩, .string ⟨#[45]⟩, .string ⟨#[]⟩, .string ⟨#[32]⟩]) (.int .i64 0)).run Try.prog w = .ok (.string (s.extract 0 1)) w := fun w => idx_arr _ 0 _ w (by omega) rfl
              go_wp2_with fail
              go_meet
              case rel => exact ⟨⟨_, rfl, .inl ⟨rfl, _, _, Hhd.out, Hl1.out⟩, Hs1.out⟩, rfl⟩
            · have hidx : ∀ w, (Instr.index 102 (.agg #[.string (s.extract 0 1), .string ⟨#[]⟩, .string ⟨#[46, 46]⟩, .string ⟨#[45]⟩, .string ⟨#[]⟩, .string ⟨#[32]⟩]) (.int .i64 1)).run Try.prog w = .ok (.string ((⟨#[]⟩ : ByteArray))) w := fun w => idx_arr _ 1 _ w (by omega) rfl
              go_wp2_with fail
              go_meet
              case rel => exact ⟨⟨⟨#[]⟩, rfl, .inr (.inl ⟨rfl, rfl⟩), by show (0 : Nat) ≤ 2; omega⟩, rfl⟩
            · have hidx : ∀ w, (Instr.index 102 (.agg #[.string (s.extract 0 1), .string ⟨#[]⟩, .string ⟨#[46, 46]⟩, .string ⟨#[45]⟩, .string ⟨#[]⟩, .string ⟨#[32]⟩]) (.int .i64 2)).run Try.prog w = .ok (.string ((⟨#[46, 46]⟩ : ByteArray))) w := fun w => idx_arr _ 2 _ w (by omega) rfl
              go_wp2_with fail
              go_meet
              case rel => exact ⟨⟨⟨#[46, 46]⟩, rfl, .inr (.inr (.inl ⟨rfl, rfl⟩)), Nat.le_refl _⟩, rfl⟩
            · have hidx : ∀ w, (Instr.index 102 (.agg #[.string (s.extract 0 1), .string ⟨#[]⟩, .string ⟨#[46, 46]⟩, .string ⟨#[45]⟩, .string ⟨#[]⟩, .string ⟨#[32]⟩]) (.int .i64 3)).run Try.prog w = .ok (.string ((⟨#[45]⟩ : ByteArray))) w := fun w => idx_arr _ 3 _ w (by omega) rfl
              go_wp2_with fail
              go_meet
              case rel => exact ⟨⟨⟨#[45]⟩, rfl, .inr (.inr (.inr (.inl ⟨rfl, rfl⟩))), by show (1 : Nat) ≤ 2; omega⟩, rfl⟩
            · have hidx : ∀ w, (Instr.index 102 (.agg #[.string (s.extract 0 1), .string ⟨#[]⟩, .string ⟨#[46, 46]⟩, .string ⟨#[45]⟩, .string ⟨#[]⟩, .string ⟨#[32]⟩]) (.int .i64 4)).run Try.prog w = .ok (.string ((⟨#[]⟩ : ByteArray))) w := fun w => idx_arr _ 4 _ w (by omega) rfl
              go_wp2_with fail
              go_meet
              case rel => exact ⟨⟨⟨#[]⟩, rfl, .inr (.inr (.inr (.inr (.inl ⟨rfl, rfl⟩)))), by show (0 : Nat) ≤ 2; omega⟩, rfl⟩
            · have hidx : ∀ w, (Instr.index 102 (.agg #[.string (s.extract 0 1), .string ⟨#[]⟩, .string ⟨#[46, 46]⟩, .string ⟨#[45]⟩, .string ⟨#[]⟩, .string ⟨#[32]⟩]) (.int .i64 5)).run Try.prog w = .ok (.string ((⟨#[32]⟩ : ByteArray))) w := fun w => idx_arr _ 5 _ w (by omega) rfl
              go_wp2_with fail
              go_meet
              case rel => exact ⟨⟨⟨#[32]⟩, rfl, .inr (.inr (.inr (.inr (.inr ⟨rfl, rfl⟩)))), by show (1 : Nat) ≤ 2; omega⟩, rfl⟩
          case rest =>
            obtain ⟨⟨W, rfl, hWk, hWs⟩, hwc⟩ := hcut
            subst hwc
            have HWk := Lib.hid hWk
            clear hWk
            have hstep := f2Step_any κ hκ s W wc (by omega)
            go_upto_region 12 with (go_at_call 53; refine hstep.mono ?_; rintro _ w5 ⟨⟨l, r, b, rfl, hst⟩, hb5⟩)
            have Hst := Lib.hid hst
            clear hst hstep
            cases b
            · have h1s : (1 : Int) ≤ (s.size : Int) := by omega
              have h0s : (0 : Int) ≤ (s.size : Int) := by omega
              go_upto_region 13 with fail
              (refine wp_region_ext 7 (by kernel_rfl) (by kernel_rfl) ?_; simp only [List.take_succ_cons, List.take_zero, List.drop_succ_cons, List.drop_zero]; (repeat (go_big_quiet_step ((fail)))); refine wpQuiet_nil ?_; rintro _ ⟨ex, rfl⟩; have hex := ex.below; have hexz := ex.size; (try simp at hexz); (try (have hy0 : w.heap.size < ex.to.heap.size := by omega)); (try (have hy1 : w.heap.size + 1 < ex.to.heap.size := by omega)); (try (have hy2 : w.heap.size + 2 < ex.to.heap.size := by omega)))
              go_upto_region 14 with fail
              have hnx : Nx 0 s.data.toList (s.extract 0 1).data.toList (s.extract 1 s.size).data.toList := .inl ⟨rfl, s[0], by rw [ext_data]; exact head_cons s (by omega), by rw [Lib.extract_data, head_cons s (by omega)]; rfl⟩
              obtain ⟨cons2, hc2, hd2⟩ := hnx.der Hd.out
              have hless := hnx.less
              have hcost : kCost 0 ≤ E - j := by show (0:Nat) ≤ _; omega
              rw [Hcs.out] at hc2
              have Hc2 := Lib.hid hc2
              have Hd2 := Lib.hid hd2
              have hsl : s.data.toList.length = s.size := Array.length_toList
              have hll : (s.extract 1 s.size).data.toList.length = (s.extract 1 s.size).size := Array.length_toList
              rw [hsl, hll] at hless
              have Hless := Lib.hid hless
              have hWz : (z ++ s.extract 0 1).size = z.size + (s.extract 0 1).size := ByteArray.size_append
              have hW2 : (s.extract 0 1).size ≤ 2 := by rw [ByteArray.size_extract]; omega
              have hzz : z.size ≤ 300 := by omega
              have Hwz := Lib.hid hWz
              have hcs := f2Cost (0 : Nat)
              have hcv : (if ((0 : Nat) : Int) = 0 then (0 : Int) else 1) = ((kCost 0 : Nat) : Int) := by unfold kCost; by_cases h : 0 = 0 <;> simp [h]
              rw [hcv] at hcs
              have hwr : IntKind.i64.wrap ((E : Int) - (j : Int) - ((kCost 0 : Nat) : Int)) = (E : Int) - (j : Int) - ((kCost 0 : Nat) : Int) := IntWalk.i64_in _ (by omega)
              obtain ⟨ct, hct⟩ : ∃ ct, kCost 0 = ct := ⟨_, rfl⟩
              rw [hct] at hcost hless hcs hwr
              have Hct := Lib.hid hct
              clear hc2 hd2 hnx hsl hll hWz hcv hct hless
              have hb1 : Below w.heap.size w ex.to := (hb.trans (hb5.mono hb.size)).trans (hex.mono (by have := hb5.size; have := hb.size; omega))
              have ho1 : OwnL 3 1 w.heap.size ex.to a c n xs := (ho.kept hb5).kept hex
              have hbz := hb1.size
              have hcapn : n + 1 ≤ 1000 := by omega
              obtain ⟨X6, hX6⟩ : ∃ z : World, z = ex.to := ⟨_, rfl⟩
              rw [← hX6] at hb1 ho1 hbz ⊢
              clear hX6
              have hba : Below X6.heap.size X6 (X6.alloc (.cells #[.int .i64 ((0 : Nat) : Int)] 3)) := (Below.refl _ _).alloc (Nat.le_refl _) _
              go_wp2_with (first | (at_builtin; refine wpList_app elIntF rfl _ _ rfl w.heap.size a n c xs rfl (ho1.kept hba) (some ⟨X6.heap.size, 0, none⟩) 1 1 [.int .i64 ((0 : Nat) : Int)] rfl (fun e => by cases e) (by simp) (Cells.src (Cells.new X6 #[.int .i64 ((0 : Nat) : Int)] 3)) (fun u hu => by simp at hu; subst hu; rfl) (by unfold maxLen; omega) (by omega) (Nat.le_trans hbz hba.size) ?_) | fail)
              intro a6 c6 w6 hown6 hb6
              have hB6 : Below w.heap.size w w6 := (hb1.trans (hba.mono hbz)).trans hb6
              clear hb1 ho1 hb6 hba
              go_wp2_with (go_at_call 54; refine (hcs _).mono ?_; rintro _ _ ⟨rfl, rfl⟩)
              go_roundw
              case rel => exact ⟨s.extract 1 s.size, z ++ s.extract 0 1, j + ct, n + 1, k + 1, a6, c6, cons2, rfl, by rw [show ((E : Int) - ((j + ct : Nat) : Int)) = (E : Int) - (j : Int) - (ct : Int) by push_cast; omega], rfl, rfl, by go_num, by omega, Hc2.out, by rw [← Hct.out]; simpa using Hd2.out, hB6, ⟨_, hown6⟩, by have := Hless.out; rw [Hct.out] at this; omega, by omega, by rw [Hwz.out]; omega⟩
              case measure => have := Hless.out; rw [Hct.out] at this; simp [intOf]; omega
            · go_upto_region 14 with fail
              have hnx : Nx κ s.data.toList (W).data.toList (l).data.toList := nx_of (Hst.out rfl) HWk.out
              obtain ⟨cons2, hc2, hd2⟩ := hnx.der Hd.out
              have hless := hnx.less
              have hcost : kCost κ ≤ E - j := by unfold kCost; split <;> omega
              rw [Hcs.out] at hc2
              have Hc2 := Lib.hid hc2
              have Hd2 := Lib.hid hd2
              have hsl : s.data.toList.length = s.size := Array.length_toList
              have hll : (l).data.toList.length = (l).size := Array.length_toList
              rw [hsl, hll] at hless
              have Hless := Lib.hid hless
              have hWz : (z ++ W).size = z.size + (W).size := ByteArray.size_append
              have hW2 : (W).size ≤ 2 := hWs
              have hzz : z.size ≤ 300 := by omega
              have Hwz := Lib.hid hWz
              have hcs := f2Cost (κ : Nat)
              have hcv : (if ((κ : Nat) : Int) = 0 then (0 : Int) else 1) = ((kCost κ : Nat) : Int) := by unfold kCost; by_cases h : κ = 0 <;> simp [h]
              rw [hcv] at hcs
              have hwr : IntKind.i64.wrap ((E : Int) - (j : Int) - ((kCost κ : Nat) : Int)) = (E : Int) - (j : Int) - ((kCost κ : Nat) : Int) := IntWalk.i64_in _ (by omega)
              obtain ⟨ct, hct⟩ : ∃ ct, kCost κ = ct := ⟨_, rfl⟩
              rw [hct] at hcost hless hcs hwr
              have Hct := Lib.hid hct
              clear hc2 hd2 hnx hsl hll hWz hcv hct hless
              have hb1 : Below w.heap.size w w5 := hb.trans (hb5.mono hb.size)
              have ho1 : OwnL 3 1 w.heap.size w5 a c n xs := ho.kept hb5
              have hbz := hb1.size
              have hcapn : n + 1 ≤ 1000 := by omega
              obtain ⟨X6, hX6⟩ : ∃ z : World, z = w5 := ⟨_, rfl⟩
              rw [← hX6] at hb1 ho1 hbz ⊢
              clear hX6
              have hba : Below X6.heap.size X6 (X6.alloc (.cells #[.int .i64 ((κ : Nat) : Int)] 3)) := (Below.refl _ _).alloc (Nat.le_refl _) _
              go_wp2_with (first | (at_builtin; refine wpList_app elIntF rfl _ _ rfl w.heap.size a n c xs rfl (ho1.kept hba) (some ⟨X6.heap.size, 0, none⟩) 1 1 [.int .i64 ((κ : Nat) : Int)] rfl (fun e => by cases e) (by simp) (Cells.src (Cells.new X6 #[.int .i64 ((κ : Nat) : Int)] 3)) (fun u hu => by simp at hu; subst hu; rfl) (by unfold maxLen; omega) (by omega) (Nat.le_trans hbz hba.size) ?_) | fail)
              intro a6 c6 w6 hown6 hb6
              have hB6 : Below w.heap.size w w6 := (hb1.trans (hba.mono hbz)).trans hb6
              clear hb1 ho1 hb6 hba
              go_wp2_with (go_at_call 54; refine (hcs _).mono ?_; rintro _ _ ⟨rfl, rfl⟩)
              go_roundw
              case rel => exact ⟨l, z ++ W, j + ct, n + 1, k + 1, a6, c6, cons2, rfl, by rw [show ((E : Int) - ((j + ct : Nat) : Int)) = (E : Int) - (j : Int) - (ct : Int) by push_cast; omega], rfl, rfl, by go_num, by omega, Hc2.out, by rw [← Hct.out]; simpa using Hd2.out, hB6, ⟨_, hown6⟩, by have := Hless.out; rw [Hct.out] at this; omega, by omega, by rw [Hwz.out]; omega⟩
              case measure => have := Hless.out; rw [Hct.out] at this; simp [intOf]; omega
end
end Go.Proofs.Ytnofcpihkglmmaa
