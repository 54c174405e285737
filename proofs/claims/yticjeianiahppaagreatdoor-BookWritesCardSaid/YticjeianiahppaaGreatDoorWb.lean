/- book, laws: BookWrites: Write, and Recover of any bytes, against the reference -/
import Derived.Test.YticjeianiahppaaGreatDoorGv
import Derived.Test.YticjeianiahppaaGreatDoorVi
namespace Go.Proofs.YticjeianiahppaaGreatDoor
set_option linter.unusedVariables false
set_option linter.unusedSimpArgs false
set_option linter.unnecessarySimpa false
open Go.RowKit Go.Flow
theorem fault_any (a : Option Addr) (c : Nat) (l : List ByteArray) (w : World) (hl : zAs w a l) (hn : l.length ≤ 9223372036854775807) :
    Calls Tryz.prog 39 #[.slice a l.length c] w fun e w' => e = .returned (.int .i64 (zBF l)) ∧ Below w.heap.size w w' := by
  have R := zN0 a c l w hl hn
  have e : zBF l = if zFa l then 0 else 3 := by
    unfold zBF zFa
    rw [Bool.and_comm]
  rw [e]
  clear e
  cases h : zFa l
  all_goals
    rw [h] at R
    clear h
    go_enter Tryz.func39, Tryz.ntmps39
    go_wp2_with fail
    go_at_call 98
    refine R.mono ?_
    rintro e w1 ⟨rfl, b1⟩
    go_wp2_with fail
    go_ret
    exact ⟨rfl, b1⟩
theorem readL_len : ∀ (k : Nat) (b : List UInt8) (i : Nat), (readL k b i).length ≤ k
  | 0, _, _ => Nat.le_refl 0
  | k + 1, b, i => by
    unfold readL
    split
    · exact Nat.zero_le _
    · exact Nat.succ_le_succ (readL_len k _ _)
theorem strs_bytes (R : List (List UInt8)) : strsV R = (R.map fun x => (⟨x.toArray⟩ : ByteArray)).map Value.string := by
  unfold strsV
  rw [List.map_map]; rfl
set_option maxRecDepth 100000 in
set_option maxHeartbeats 8000000 in
theorem bookWrites_walk (a : Option Addr) (l : List ByteArray) (c : Nat) (ab : Option Addr) (L : List UInt8) (cb : Nat) (w : World) (hl : zAs w a l) (hn : a = none → c = 0) (hm : l.length ≤ 9223372036854775807) (hc : l.length ≤ c)
    (hb : SrcAt w ab (zDB L)) (hbn : ab = none → cb = 0) (hbm : L.length ≤ 9223372036854775807) (hbc : L.length ≤ cb) (hv : Vars w) :
    Calls Tryz.prog 15 #[.slice a l.length c, .slice ab L.length cb] w fun e w' => e = .returned (.bool true) ∧ Below w.heap.size w w' := by
  have th := zOe a c l w hl hm
  cases hr : zIa l
  · rw [hr] at th
    clear hr
    go_enter Tryz.func15, Tryz.ntmps15
    go_wp2_with fail
    go_at_call 36
    refine th.mono ?_
    rintro e W1 ⟨rfl, b1⟩
    go_wp2_with fail
    go_at_call 37
    refine (zQX W1 (hv.below b1)).mono ?_
    rintro e W2 ⟨rfl, b2⟩
    go_wp2_with fail
    go_ret
    exact ⟨rfl, b1.trans (b2.mono b1.size)⟩
  · have h55 : l.length ≤ 55 := by
      unfold zIa at hr
      rw [Bool.and_eq_true, decide_eq_true_eq] at hr
      exact hr.2
    rw [hr] at th
    clear hr
    by_cases h5 : 5000 < L.length
    · have h5I : (5000 : Int) < (L.length : Int) := by omega
      go_enter Tryz.func15, Tryz.ntmps15
      go_wp2_with fail
      go_at_call 36
      refine th.mono ?_
      rintro e W1 ⟨rfl, b1⟩
      go_wp2_with fail
      go_at_call 37
      refine (zQX W1 (hv.below b1)).mono ?_
      rintro e W2 ⟨rfl, b2⟩
      go_wp2_with fail
      go_ret
      exact ⟨rfl, b1.trans (b2.mono b1.size)⟩
    have h5I : ¬ (5000 : Int) < (L.length : Int) := by omega
    obtain ⟨m, hLm⟩ : ∃ m, L.length = m := ⟨_, rfl⟩
    rw [hLm] at hbm hbc h5 h5I ⊢
    have ls := fun W (b : Below w.heap.size w W) => zFH a c l W (hl.below b) hn (by omega)
    have wr := fun W a' c' (h : zAs W a' l) => zNY a' c' l W h hm
    have ft := fun W (b : Below w.heap.size w W) => fault_any a c l W (hl.below b) hm
    have fl := fun W (b : Below w.heap.size w W) (h : zBF l = 0) => File_ref a c l W (hl.below b) (zFM h).1 (zFM h).2
    have hBz := fun h : zBF l = 0 => file_le (zFM h).2 (zFM h).1
    have rc := fun W (b : Below w.heap.size w W) a' c' (hc' : m ≤ c') h => Recover_any a' c' m L W hLm (by omega) hc' h (hv.below b)
    have rd := fun W => Read_ref L m hLm (by omega) W
    have hR5 : (readL 50 L 0).length ≤ 1000 := Nat.le_trans (readL_len 50 L 0) (by omega)
    simp only [strs_bytes] at rc rd
    obtain ⟨X, hX⟩ : ∃ X, (readL 50 L 0).map (fun x => (⟨x.toArray⟩ : ByteArray)) = X := ⟨_, rfl⟩
    have hXl : (readL 50 L 0).length = X.length := by rw [← hX, List.length_map]
    rw [hXl] at hR5
    simp only [hX, hXl] at rc rd
    generalize zIe (readL 50 L 0) = z at rc rd
    obtain ⟨B, hB⟩ : ∃ B, zDT l = B := ⟨_, rfl⟩
    unfold zNZ at wr
    simp only [hB] at wr fl hBz
    clear hX hXl hB
    go_enter Tryz.func15, Tryz.ntmps15
    go_wp2_with fail
    go_at_call 36
    refine th.mono ?_
    rintro e W1 ⟨rfl, b1⟩
    go_wp2_with fail
    go_at_call 38
    refine (ls W1 b1).mono ?_
    rintro e W2 ⟨⟨a2, c2, rfl, o2⟩, b2⟩
    have t2 := b1.trans (b2.mono b1.size)
    clear th b1 b2 ls
    go_wp2_with fail
    go_at_call 66
    refine (wr W2 a2 c2 o2.strs).mono ?_
    rintro e W3 ⟨hwp, b3⟩
    have t3 := t2.trans (b3.mono t2.size)
    obtain ⟨af, nf, cf, E, rfl, hE⟩ : ∃ af nf cf E, e = .returned (.tuple #[.slice af nf cf, .int .i64 E]) ∧ ((zBF l = 0 ∧ E = 0 ∧ nf = B.length ∧ OwnL 5 1 W2.heap.size W3 af cf B.length (zDB B)) ∨ (zBF l = 3 ∧ E = 3 ∧ nf = 0)) := by
      rcases hwp with ⟨h1, ae, ce, rfl, o⟩ | ⟨h1, rfl⟩
      · exact ⟨_, _, _, _, rfl, .inl ⟨h1, rfl, rfl, o⟩⟩
      · exact ⟨_, _, _, _, rfl, .inr ⟨h1, rfl, rfl⟩⟩
    replace hE := Lib.hid hE
    clear hwp wr o2 b3 t2
    have hb3 := zAO hb t3
    go_wp2_with (at_builtin; refine zA2 zQN rfl _ _ rfl W3.heap.size none 0 0 [] rfl (OwnL.nil _ _ _ _) ab m cb (zDB L) rfl (fun h => ⟨by have := hbn h; omega, hbn h⟩) (by rw [zLD]; omega) hb3 (zLC _) (by unfold maxLen; omega) (by omega) (Nat.le_refl _) ?_)
    intro a4 c4 W4 o4 b4
    replace o4 : OwnL 5 1 W3.heap.size W4 a4 c4 m (zDB L) := by simpa using o4
    have t4 := t3.trans (b4.mono t3.size)
    have f4 := o4.fits.1
    go_wp2_with fail
    go_at_call 67
    refine (rc W4 t4 a4 c4 f4 (SrcAt.own o4)).mono ?_
    rintro e W5 ⟨⟨a5, c5, rfl, o5⟩, b5⟩
    have t5 := t4.trans (b5.mono t4.size)
    have cv := conv_str W5 ab cb m L hLm (zAO hb t5)
    clear rc o4 f4 t4
    go_wp2_with fail
    go_at_call 68
    refine (rd W5).mono ?_
    rintro e W6 ⟨⟨a6, c6, rfl, o6⟩, b6⟩
    have t6 := t5.trans (b6.mono t5.size)
    clear cv rd
    go_wp2_with fail
    go_at_call 69
    refine (texts_as a5 a6 c5 c6 X.length X W6 rfl (o5.kept b6).strs o6.strs hR5).mono ?_
    rintro e W7 ⟨rfl, b7⟩
    have t7 := t6.trans (b7.mono t6.size)
    clear o5 o6
    go_wp2_with fail
    go_at_call 39
    refine (ft W7 t7).mono ?_
    rintro e W8 ⟨rfl, b8⟩
    have t8 := t7.trans (b8.mono t7.size)
    rcases hE.out with ⟨h0, rfl, rfl, oF⟩ | ⟨h3, rfl, rfl⟩
    · rw [h0]
      have oF8 := ((((oF.kept b4).kept b5).kept b6).kept b7).kept b8
      have cvx := fun (e : Ext W8) => conv_str e.to af cf B.length B rfl (SrcAt.own (oF8.kept e.below))
      have flx := fun (e : Ext W8) => fl e.to (t8.trans (e.below.mono t8.size)) h0
      have awx := fun (e : Ext W8) => zQX e.to (hv.below (t8.trans (e.below.mono t8.size)))
      clear fl ft hE oF oF8 b4 b5 b6 b7 b8 t5 t6 t7 hb3 h0
      go_upto_region 11 with fail
      (refine zAC 13 (by kernel_rfl) (by kernel_rfl) ?_; simp only [List.take_succ_cons, List.take_zero, List.drop_succ_cons, List.drop_zero]; (repeat (go_big_quiet_step (((first | (go_at_call 70; refine zCj (flx _)) | (go_at_call 37; refine zCj (awx _))))))); refine wpQuiet_nil ?_; rintro _ ⟨ex, rfl⟩; have hex := ex.below; have hexz := ex.size; (try simp at hexz); (try (have hy0 : w.heap.size < ex.to.heap.size := by omega)); (try (have hy1 : w.heap.size + 1 < ex.to.heap.size := by omega)); (try (have hy2 : w.heap.size + 2 < ex.to.heap.size := by omega)))
      go_wp2
      go_ret
      exact ⟨rfl, t8.trans (hex.mono t8.size)⟩
    · rw [h3]
      go_wp2_with fail
      go_at_call 37
      refine (zQX W8 (hv.below t8)).mono ?_
      rintro e W9 ⟨rfl, b9⟩
      go_wp2_with fail
      go_ret
      exact ⟨rfl, t8.trans (b9.mono t8.size)⟩
end Go.Proofs.YticjeianiahppaaGreatDoor
