/- copies: can -/
import Derived.Test.YtfclemnkcpadpaaPa
namespace Go.Proofs.Ytfclemnkcpadpaa
set_option linter.unusedVariables false
set_option linter.unusedSimpArgs false
set_option linter.unnecessarySimpa false
open Go.RowKit Go.Flow Go.Shelf

theorem someN_succ (p : Post) (i h k : Nat) : someN p i h (k + 1) = (someN p i h k || (decide (h < 101) && hrF p i k h)) := by
  simp [someN, List.range_succ, Bool.or_assoc]
theorem canB_bad {p : Post} {i h k : Nat} (hk : k < p.routes.length) (hb : badK p i h k = true) : canB p i h = false := by
  unfold canB
  rw [show (List.range p.routes.length).all (fun k => !badK p i h k) = false by
    rw [List.all_eq_false]; exact ⟨k, by simpa using hk, by simp [hb]⟩]
  rfl
theorem canB_end {p : Post} {i h : Nat} (hb : ∀ k, k < p.routes.length → badK p i h k = false) : canB p i h = someN p i h p.routes.length := by
  unfold canB
  rw [show (List.range p.routes.length).all (fun k => !badK p i h k) = true by
    rw [List.all_eq_true]; intro k hk; simp [hb k (by simpa using hk)]]
  rfl
theorem below_succ {P : Nat → Prop} {k : Nat} (h : ∀ j, j < k → P j) (hk : P k) : ∀ j, j < k + 1 → P j := fun j hj => by
  by_cases e : j = k
  · subst e; exact hk
  · exact h j (by omega)

set_option maxRecDepth 100000 in
set_option maxHeartbeats 4000000 in
theorem can_any (a : Option Addr) (c : Nat) (ar : Option Addr) (cr : Nat) (p : Post) (Bw i h : Nat) (w : World) (hw : WorkAt p a c ar cr Bw w) (hr : RoutesAt w ar p.routes) (r3 : p.routes.length ≤ 3) (hi : i < p.sends.length) (n4 : p.sends.length ≤ 4) (hh : ∀ k, k < p.routes.length → hrList (hrF p i k) ≠ []) (h101 : h ≤ 101) :
    Calls Try.prog 107 #[.pointer (some ⟨Bw, 0, none⟩), .int .i64 i, .int .i64 h] w fun e w' => e = .returned (.bool (canB p i h)) ∧ Below w.heap.size w w' := by
  obtain ⟨Bm, nm, cW, hH⟩ := hw
  have q1 := cW.cell 1
  have q3 := cW.cell 3
  have lW := cW.lt
  simp at q1 q3
  have h0 : Hid (someN p i h 0 = ((h : Int) == 101)) := Lib.hid (by simp only [someN, List.range_zero, List.any_nil, Bool.or_false]; rw [Bool.eq_iff_iff]; simp; omega)
  obtain ⟨B, hB⟩ : ∃ B, canB p i h = B := ⟨_, rfl⟩
  have Hbad : Hid (∀ k, k < p.routes.length → badK p i h k = true → B = false) := Lib.hid (fun k hk hb => by rw [← hB]; exact canB_bad hk hb)
  have Hend : Hid ((∀ k, k < p.routes.length → badK p i h k = false) → B = someN p i h p.routes.length) := Lib.hid (fun hb => by rw [← hB]; exact canB_end hb)
  rw [hB]
  clear hB
  go_enter Try.func107, Try.ntmps107
  go_wp2
  go_loopw [7, 19] (fun v o wr => ∃ k : Nat, k ≤ p.routes.length ∧ o = .int .i64 k ∧ v = .bool (someN p i h k) ∧ (∀ j, j < k → badK p i h j = false) ∧ Below w.heap.size w wr) (fun _ o _ => p.routes.length - (intOf o).toNat)
  case atStart => exact ⟨0, Nat.zero_le _, rfl, by rw [h0.out], fun j hj => absurd hj (Nat.not_lt_zero j), Below.refl _ _⟩
  case round =>
    obtain ⟨k, hk, rfl, rfl, hno, hb⟩ := hrel
    have Hno := Lib.hid hno
    clear hno
    have p3 := below_c hb lW q3
    have lP := cell_ltK p3
    by_cases hkl : k < p.routes.length
    · obtain ⟨b4, off4, al, ca, rfl, hbl4, e0, e1, eL⟩ := (hr.below hb) k hkl
      have Hs := Lib.hid (someN_succ p i h k)
      have hly : Hid (lossyK p k = p.routes[k].lossy) := Lib.hid (by unfold lossyK; rw [List.getElem?_eq_getElem hkl]; rfl)
      have Hbk : Hid (badK p i h k = (!lossyK p k && decide (lastH (hrF p i k) < (h : Int)))) := Lib.hid rfl
      obtain ⟨Sb, hrun, hSC⟩ := (hH.below hb).look i k ⟨hi, hkl⟩ (by omega) (by omega)
      have hrun' := fun o => hrun ⟨wr.alloc o, (Below.refl _ _).alloc (Nat.le_refl _) _⟩
      dsimp only at hrun'
      clear hrun
      obtain ⟨lo, hlo⟩ : ∃ x, p.routes[k].lossy = x := ⟨_, rfl⟩
      rw [hlo] at e1 hly
      clear hlo
      rw [hly.out] at Hbk
      have hkI : (k : Int) < (p.routes.length : Int) := by omega
      have wb : ∀ o, Below wr.heap.size wr (wr.alloc o) := fun o => (Below.refl _ _).alloc (Nat.le_refl _) _
      have hS2 := fun (hl : h < 101) o => (hSC.below (wb o)) h hl
      have lS := hSC.lt
      obtain ⟨s, hse⟩ : ∃ s, someN p i h k = s := ⟨_, rfl⟩
      have Hsf : Hid (s = false → h < 101) := Lib.hid (fun e => by
        have : someN p i h k = false := by rw [hse, e]
        simp only [someN, Bool.or_eq_false_iff, decide_eq_false_iff_not] at this
        omega)
      rw [hse] at Hs ⊢
      clear hse
      obtain ⟨z, hz⟩ : ∃ z, lastH (hrF p i k) = z := ⟨_, rfl⟩
      have hl := fun o => last_any Sb (hrF p i k) z (Lib.hid hz) (wr.alloc o) (hSC.below (wb o)) (hh k hkl)
      rw [hz] at Hbk
      obtain ⟨fv, hfv⟩ : ∃ fv, hrF p i k h = fv := ⟨_, rfl⟩
      rw [hfv] at Hs hS2
      clear hz hSC hfv h0
      cases lo
      · by_cases hzh : z < (h : Int)
        · have hB : B = false := Hbad.out k hkl (by rw [Hbk.out]; simpa using hzh)
          subst hB
          clear Hbad Hend
          go_wp2_with fail
          go_at_call 103
          with_reducible refine (hl _).mono ?_
          rintro e w1 ⟨rfl, hb1⟩
          go_wp2
          go_ret
          exact ⟨rfl, hb.trans (((wb _).trans (hb1.mono (wb _).size)).mono hb.size)⟩
        · have hbk : badK p i h k = false := by rw [Hbk.out]; simpa using hzh
          have Hbk2 := Lib.hid hbk
          clear hbk
          cases s
          · have h1 := Hsf.out rfl
            have h1I : (h : Int) < 101 := by omega
            have hS3 := hS2 h1
            clear hS2
            go_wp2_with fail
            go_at_call 103
            with_reducible refine (hl _).mono ?_
            rintro e w1 ⟨rfl, hb1⟩
            have hS4 := below_cell hb1 (hS3 _)
            have lS4 := cell_ltK hS4
            go_wp2
            go_roundw
            case rel => exact ⟨k + 1, by omega, by go_num, by rw [Hs.out]; simp [h1], below_succ Hno.out Hbk2.out, hb.trans (((wb _).trans (hb1.mono (wb _).size)).mono hb.size)⟩
            case measure => simp [intOf]; omega
          · go_wp2_with fail
            go_at_call 103
            with_reducible refine (hl _).mono ?_
            rintro e w1 ⟨rfl, hb1⟩
            go_wp2
            go_roundw
            case rel => exact ⟨k + 1, by omega, by go_num, by rw [Hs.out]; rfl, below_succ Hno.out Hbk2.out, hb.trans (((wb _).trans (hb1.mono (wb _).size)).mono hb.size)⟩
            case measure => simp [intOf]; omega
      · have hbk : badK p i h k = false := by rw [Hbk.out]; rfl
        have Hbk2 := Lib.hid hbk
        clear hbk
        cases s
        · have h1 := Hsf.out rfl
          have h1I : (h : Int) < 101 := by omega
          have hS3 := hS2 h1
          clear hS2
          go_wp2
          go_roundw
          case rel => exact ⟨k + 1, by omega, by go_num, by rw [Hs.out]; simp [h1], below_succ Hno.out Hbk2.out, hb.trans ((wb _).mono hb.size)⟩
          case measure => simp [intOf]; omega
        · go_wp2
          go_roundw
          case rel => exact ⟨k + 1, by omega, by go_num, by rw [Hs.out]; rfl, below_succ Hno.out Hbk2.out, hb.trans ((wb _).mono hb.size)⟩
          case measure => simp [intOf]; omega
    · obtain rfl : k = p.routes.length := by omega
      have hB := Hend.out Hno.out
      obtain ⟨s, hse⟩ : ∃ s, someN p i h p.routes.length = s := ⟨_, rfl⟩
      rw [hse] at hB ⊢
      subst hB
      clear hse Hend Hbad
      go_wp2
      go_ret
      exact ⟨rfl, hb⟩
end Go.Proofs.Ytfclemnkcpadpaa
