/- book, laws: BookStops -/
import Derived.Test.YticjeianiahppaaGreatDoorGo
import Derived.Test.YticjeianiahppaaGreatDoorVi
namespace Go.Proofs.YticjeianiahppaaGreatDoor
set_option linter.unusedVariables false
set_option linter.unusedSimpArgs false
set_option linter.unnecessarySimpa false
open Go.RowKit Go.Flow
set_option maxRecDepth 100000 in
set_option maxHeartbeats 8000000 in
theorem bookStops_walk (a : Option Addr) (l : List ByteArray) (c : Nat) (cut : Int) (w : World) (hl : StrsAt w a l) (hn : a = none → c = 0) (hm : l.length ≤ 9223372036854775807) (hc : l.length ≤ c) (hcut : 0 ≤ cut ∧ cut ≤ 65535) (hv : Vars w) :
    Calls Tryz.prog 16 #[.slice a l.length c, .int .u16 cut] w fun e w' => e = .returned (.bool true) ∧ Below w.heap.size w w' := by
  have rd : Calls _ _ #[.slice a l.length c, .int .i64 50] w _ := ready_any a c 50 l w hl hm
  cases hr : readyB l 50
  · rw [hr] at rd
    clear hr
    go_enter Tryz.func16, Tryz.ntmps16
    go_wp2_with fail
    go_at_call 55
    refine rd.mono ?_
    rintro e W1 ⟨rfl, b1⟩
    go_wp2_with fail
    go_at_call 37
    refine (awake_any W1 (hv.below b1)).mono ?_
    rintro e W2 ⟨rfl, b2⟩
    go_wp2_with fail
    go_ret
    exact ⟨rfl, b1.trans (b2.mono b1.size)⟩
  · obtain ⟨h0, _, h50⟩ := ready_ok hr
    rw [hr] at rd
    clear hr
    have h80 := (fault_ok h0).2
    have ls := fun W (b : Below w.heap.size w W) => list_any a c l W (hl.below b) hn (by omega)
    have wr := fun W a' c' (h : StrsAt W a' l) => Write_any a' c' l W h (by omega)
    have hBz := file_le h80 h50
    have hBl := fileB_len l
    have rw1 := read_whole h80 h50
    have rf := read_first h80 h50
    obtain ⟨B, hB⟩ : ∃ B, fileB l = B := ⟨_, rfl⟩
    unfold WritePost at wr
    simp only [hB] at wr
    rw [hB] at hBz hBl rw1
    simp only [hB] at rf
    have cutw : IntKind.i64.wrap cut = cut := IntWalk.i64_in _ (by omega)
    have bw : IntKind.i64.wrap ((B.length : Int) + 1) = (B.length : Int) + 1 := IntWalk.i64_in _ (by omega)
    obtain ⟨k, hk, hkm⟩ : ∃ k : Nat, k ≤ B.length ∧ cut.tmod ((B.length : Int) + 1) = (k : Int) := by
      refine ⟨cut.toNat % (B.length + 1), by have := Nat.mod_lt cut.toNat (show 0 < B.length + 1 by omega); omega, ?_⟩
      have : cut = ((cut.toNat : Nat) : Int) := by omega
      rw [this, show (B.length : Int) + 1 = ((B.length + 1 : Nat) : Int) by omega]; simp [Int.tmod]
    have kw : IntKind.i64.wrap (k : Int) = (k : Int) := IntWalk.i64_in _ (by omega)
    have bne : ¬ (B.length : Int) + 1 = 0 := by omega
    have hk0 : (0 : Int) ≤ (k : Int) := by omega
    obtain ⟨j0, hj0'⟩ : ∃ j, (wholeL (linesL l) k).1 = j := ⟨_, rfl⟩
    have hj0l : j0 ≤ l.length := by rw [← hj0', ← lines_len l]; exact whole_le _ _
    have rfk := rf k
    rw [hj0'] at rfk
    have rA := fun W (b : Below w.heap.size w W) a' c' (hc' : B.length ≤ c') h => Recover_as a' c' B.length l.length (B.length : Int) B l W rfl (by omega) hc' h (hv.below b) rw1 rfl (by rw [← hBl])
    have rB := fun W (b : Below w.heap.size w W) a' c' (hc' : k ≤ c') h => Recover_as a' c' k j0 (sizeL (linesL (l.take j0)) : Int) (B.take k) (l.take j0) W (by rw [List.length_take]; omega) (by omega) hc' h (hv.below b) rfk (by rw [List.length_take]; omega) rfl
    have hwi := fun (j : Nat) (h1 : j ≤ l.length) (h2 : sizeL (linesL (l.take j)) ≤ k) (h3 : ∀ h : j < l.length, k < sizeL (linesL (l.take j)) + (10 + (l[j]).size)) => whole_is (linesL l) k j (by rw [lines_len]; exact h1) (by rw [lines_take]; exact h2) (fun h => by
      rw [lines_take]
      have := h3 (by rw [lines_len] at h; exact h)
      simpa [linesL] using this)
    have hsz : ∀ j (h : j < l.length), sizeL (linesL (l.take (j + 1))) = sizeL (linesL (l.take j)) + (10 + (l[j]).size) := fun j h => by
      rw [List.take_succ_eq_append_getElem h]
      unfold linesL
      rw [List.map_append, size_app]
      simp [sizeL]
    replace hB := Lib.hid hB
    replace hBl := Lib.hid hBl
    replace hsz := Lib.hid hsz
    replace hwi := Lib.hid hwi
    replace hj0' := Lib.hid hj0'
    clear rw1 rf rfk
    go_enter Tryz.func16, Tryz.ntmps16
    go_wp2_with fail
    go_at_call 55
    refine rd.mono ?_
    rintro e W1 ⟨rfl, b1⟩
    clear rd
    go_wp2_with fail
    go_at_call 38
    refine (ls W1 b1).mono ?_
    rintro e W2 ⟨⟨a2, c2, rfl, o2⟩, b2⟩
    have t2 := b1.trans (b2.mono b1.size)
    go_wp2_with fail
    go_at_call 66
    refine (wr W2 a2 c2 o2.strs).mono ?_
    rintro e W3 ⟨⟨_, ae, ce, rfl, o3⟩ | ⟨h3, rfl⟩, b3⟩
    rotate_left
    · rw [h0] at h3; cases h3
    have t3 := t2.trans (b3.mono t2.size)
    have hce := o3.fits.1
    have hcI : (k : Int) ≤ (ce : Int) := by omega
    clear b1 b2 b3 t2 o2 wr ls
    go_wp2_with (at_builtin; refine wpList_app elByte rfl _ _ rfl W3.heap.size none 0 0 [] rfl (OwnL.nil _ _ _ _) ae B.length ce (bytesV B) rfl (fun h => by subst h; exact o3.isnil) (by rw [bytesV_len]; omega) (SrcAt.own o3) (bytesV_one _) (by unfold maxLen; omega) (by omega) (Nat.le_refl _) ?_)
    intro a4 c4 W4 o4 b4
    replace o4 : OwnL 5 1 W3.heap.size W4 a4 c4 B.length (bytesV B) := by simpa using o4
    have t4 := t3.trans (b4.mono t3.size)
    have o3 := o3.kept b4
    have f4 := o4.fits.1
    go_wp2_with fail
    go_at_call 67
    refine (rA W4 t4 a4 c4 f4 (SrcAt.own o4)).mono ?_
    rintro e W5 ⟨⟨a7, c7, rfl, o7⟩, b5⟩
    have t5 := t4.trans (b5.mono t4.size)
    have o3 := o3.kept b5
    clear b4 b5 t4 o4 rA f4
    go_wp2_with (at_builtin; refine wpList_app elByte rfl _ _ rfl W5.heap.size none 0 0 [] rfl (OwnL.nil _ _ _ _) ae k ce (bytesV (B.take k)) rfl (fun h => by subst h; have := o3.isnil; exact ⟨by omega, this.2⟩) (by rw [bytesV_len, List.length_take]; omega) (src_take (SrcAt.own o3) k) (bytesV_one _) (by unfold maxLen; omega) (by omega) (Nat.le_refl _) ?_)
    intro a6 c6 W6 o6 b6
    replace o6 : OwnL 5 1 W5.heap.size W6 a6 c6 k (bytesV (B.take k)) := by simpa using o6
    have t6 := t5.trans (b6.mono t5.size)
    have o7 := o7.kept b6
    have f6 := o6.fits.1
    clear o3
    go_wp2_with fail
    go_at_call 67
    refine (rB W6 t6 a6 c6 f6 (SrcAt.own o6)).mono ?_
    rintro e W7 ⟨⟨a9, c9, rfl, o9⟩, b7⟩
    have t7 := t6.trans (b7.mono t6.size)
    have s7 := (o7.kept b7).strs
    have s9 := o9.strs
    clear b6 b7 t6 t5 o6 o7 o9 rB f6
    go_wp2_with fail
    go_loopw [12, 13] (fun h m U => ∃ j : Nat, j ≤ l.length ∧ h = .int .i64 (sizeL (linesL (l.take j)) : Int) ∧ m = .int .i64 j ∧ sizeL (linesL (l.take j)) ≤ k ∧ Below W7.heap.size W7 U) (fun _ m _ => l.length - (intOf m).toNat)
    case atStart => exact ⟨0, Nat.zero_le _, rfl, rfl, Nat.zero_le _, Below.refl _ _⟩
    case round =>
      obtain ⟨j, hj, rfl, rfl, hs, hb⟩ := hrel
      have tU := t7.trans (hb.mono t7.size)
      by_cases hlt : j < l.length
      · have hltI : (j : Int) < (l.length : Int) := by omega
        have hj0 : (0 : Int) ≤ (j : Int) := by omega
        have jw : IntKind.i64.wrap ((j : Int) + 1) = (j : Int) + 1 := IntWalk.i64_in _ (by omega)
        obtain ⟨bb, off, ra, lb, hcl⟩ := (hl.below tU) j hlt
        have h80j := h80 _ (List.getElem_mem hlt)
        have hsz' := hsz.out j hlt
        have hw' := fun (hx : k < sizeL (linesL (l.take j)) + (10 + (l[j]).size)) => hwi.out j hj hs (fun _ => hx)
        generalize l[j] = s at hcl h80j hsz' hw'
        replace hw' := Lib.hid hw'
        subst ra
        by_cases hfit : sizeL (linesL (l.take j)) + 10 + s.size ≤ k
        · have hfitI : (sizeL (linesL (l.take j)) : Int) + 10 + (s.size : Int) ≤ (k : Int) := by omega
          replace hsz' := Lib.hid hsz'
          go_wp2_with fail
          go_round
          case rel => exact ⟨j + 1, by omega, by rw [hsz'.out]; first | rfl | (congr 1; done) | (congr 1; omega), by go_num, by rw [hsz'.out]; omega, hb⟩
          case measure => simp [intOf]; omega
        · have hfitI : ¬ (sizeL (linesL (l.take j)) : Int) + 10 + (s.size : Int) ≤ (k : Int) := by omega
          have hw := hw'.out (by omega)
          have e0 : j0 = j := by have := hj0'.out; rw [hw] at this; exact this.symm
          subst e0
          clear hsz' hw' hw
          go_wp2_with fail
          go_at_call 69
          refine (texts_as a7 _ c7 c l.length l _ rfl (s7.below hb) (hl.below tU) (by omega)).mono ?_
          rintro e U1 ⟨rfl, u1⟩
          have t1 := tU.trans (u1.mono tU.size)
          go_wp2_with fail
          go_at_call 69
          refine (texts_as a9 _ c9 c j0 (l.take j0) U1 (by rw [List.length_take]; omega) ((s9.below hb).below u1) ((hl.take j0).below t1) (by omega)).mono ?_
          rintro e U2 ⟨rfl, u2⟩
          have t2 := t1.trans (u2.mono t1.size)
          go_wp2_with fail
          go_at_call 37
          refine (awake_any U2 (hv.below t2)).mono ?_
          rintro e U3 ⟨rfl, u3⟩
          go_wp2_with fail
          go_ret
          exact ⟨rfl, t2.trans (u3.mono t2.size)⟩
      · obtain rfl : j = l.length := by omega
        have hw := hwi.out l.length (Nat.le_refl _) hs (fun h => absurd h (Nat.lt_irrefl _))
        have e0 : j0 = l.length := by have := hj0'.out; rw [hw] at this; exact this.symm
        subst e0
        go_wp2_with fail
        go_at_call 69
        refine (texts_as a7 _ c7 c l.length l _ rfl (s7.below hb) (hl.below tU) (by omega)).mono ?_
        rintro e U1 ⟨rfl, u1⟩
        have t1 := tU.trans (u1.mono tU.size)
        go_wp2_with fail
        go_at_call 69
        refine (texts_as a9 _ c9 c l.length (l.take l.length) U1 (by rw [List.length_take]; omega) ((s9.below hb).below u1) ((hl.take l.length).below t1) (by omega)).mono ?_
        rintro e U2 ⟨rfl, u2⟩
        have t2 := t1.trans (u2.mono t1.size)
        go_wp2_with fail
        go_at_call 37
        refine (awake_any U2 (hv.below t2)).mono ?_
        rintro e U3 ⟨rfl, u3⟩
        go_wp2_with fail
        go_ret
        exact ⟨rfl, t2.trans (u3.mono t2.size)⟩
end Go.Proofs.YticjeianiahppaaGreatDoor
