/- copies: Odd -/
import Derived.Test.YtfclemnkcpadpaaKy
namespace Go.Proofs.Ytfclemnkcpadpaa
set_option linter.unusedVariables false
set_option linter.unusedSimpArgs false
set_option linter.unnecessarySimpa false
open Go.RowKit Go.Flow Go.Shelf

theorem nextR_free {p : Post} (h0 : postErr p = 0) : ∀ (r i : Nat) (f : Int), i + r = p.sends.length → nextR p [] r i f ≠ none
  | 0, i, f, _ => by simp [nextR]
  | r + 1, i, f, h => by
    intro e
    obtain ⟨m, hm, _, hc, _⟩ := earliest_spec h0 (show i < p.sends.length by omega)
    unfold nextR at e
    rw [List.findSome?_eq_none_iff] at e
    have := e m (by simp; omega)
    rw [hc] at this
    simp only [fitsB, List.any_nil, Bool.not_false, Bool.and_self, if_true, Option.map_eq_none_iff] at this
    exact nextR_free h0 r (i + 1) _ (by omega) this
theorem searchF_nil {p : Post} (h0 : postErr p = 0) : (searchF p []).isSome = true := by
  cases h : searchF p [] with
  | none => exact absurd h (nextR_free h0 _ _ _ (by omega))
  | some _ => rfl
theorem leaveR_all {p : Post} (h0 : postErr p = 0) (l : List Ent) : ∀ (r i : Nat) (out : List Int), leaveR p l r i out [] r ≠ none
  | 0, i, out => by simp [leaveR, searchF_nil h0]
  | r + 1, i, out => by
    intro e
    rw [leaveR, if_neg (by omega), if_pos (by omega)] at e
    cases h : leaveR p l r (i + 1) (out ++ [(i : Int)]) [] (r + 1 - 1) with
    | none => exact leaveR_all h0 l r (i + 1) _ (by simpa using h)
    | some z => rw [h] at e; cases e
def oddM (p : Post) (l : List Ent) (m : Nat) : Option (List Int) := leaveR p l l.length 0 [] [] m
def oddF (p : Post) (l : List Ent) : List Int := ((List.range (l.length + 1)).findSome? (oddM p l)).getD []
def oddOut (p : Post) (l : List Ent) : List Int := if bookErr p l = 0 then oddF p l else []
theorem oddF_some {p : Post} {l : List Ent} {k : Nat} {z : List Int} (hk : k < l.length + 1) (h : ∀ j, j < k → oddM p l j = none) (h2 : oddM p l k = some z) : oddF p l = z := by
  unfold oddF
  rw [show l.length + 1 = k + (1 + (l.length - k)) by omega, List.range_add, List.findSome?_append, show (List.range k).findSome? (oddM p l) = none by rw [List.findSome?_eq_none_iff]; intro x hx; exact h x (by simpa using hx)]
  rw [Nat.add_comm 1, List.range_succ_eq_map]
  simp [h2]
theorem bookErr_ok {p : Post} {l : List Ent} (h : bookErr p l = 0) : postErr p = 0 ∧ l.length ≤ 8 ∧ l.all (entOk p.sends.length) = true := by
  unfold bookErr at h
  split at h
  · rename_i h1; exact absurd h h1
  · rename_i h1
    split at h
    · omega
    · split at h
      · exact ⟨by simpa using h1, by omega, by assumption⟩
      · omega
theorem bookErr_bd (p : Post) (l : List Ent) : 0 ≤ bookErr p l ∧ bookErr p l ≤ 3 := by
  have := postErr_bd p
  unfold bookErr
  split
  · omega
  · split
    · omega
    · split <;> omega

set_option maxRecDepth 100000 in
set_option maxHeartbeats 4000000 in
theorem Odd_any (a : Option Addr) (c : Nat) (ar : Option Addr) (cr : Nat) (p : Post) (al : Option Addr) (l : List Ent) (cl : Nat) (w : World) (hs : IntsAt w a p.sends) (hr : RoutesAt w ar p.routes) (sm : PostSmall p) (he : EntsAt w al l) (hl : l.length ≤ 1000000) :
    Calls Try.prog 40 #[.agg #[.slice a p.sends.length c, .slice ar p.routes.length cr, .int .i64 p.pat], .slice al l.length cl] w fun e w' => RetInts (bookErr p l) (oddOut p l) e w' ∧ Below w.heap.size w w' := by
  obtain ⟨W0, hW0⟩ : ∃ z : World, z = (w.alloc (.cells #[.slice a p.sends.length c, .slice ar p.routes.length cr, .int .i64 p.pat] 34)).alloc (.cells #[.slice al l.length cl] 36) := ⟨_, rfl⟩
  have t0 : Below w.heap.size w W0 := by rw [hW0]; exact ((Below.refl _ _).alloc (Nat.le_refl _) _).alloc (by simp) _
  have z0 : W0.heap.size = w.heap.size + 1 + 1 := by rw [hW0]; simp
  have C0 : Cells W0 w.heap.size #[.slice a p.sends.length c, .slice ar p.routes.length cr, .int .i64 p.pat] 34 := by rw [hW0]; exact (Cells.new _ _ _).alloc _
  have L0 : Cells W0 (w.heap.size + 1) #[.slice al l.length cl] 36 := by rw [hW0]; exact Cells.new' _ _ _ _ (by simp)
  have bk := fun W (b : Below w.heap.size w W) => booked_any a c ar cr p al l cl W (hs.below b) (hr.below b) sm (he.below b) hl
  have bd := bookErr_bd p l
  by_cases h0 : bookErr p l = 0
  · have hO : oddOut p l = oddF p l := by unfold oddOut; rw [if_pos h0]
    rw [h0] at bk ⊢
    rw [hO]
    obtain ⟨oF, hoF⟩ : ∃ z, oddF p l = z := ⟨_, rfl⟩
    rw [hoF]
    have HoF := Lib.hid hoF
    clear hoF
    obtain ⟨hp0, l8, _⟩ := bookErr_ok h0
    have wrk := fun W (b : Below w.heap.size w W) => work_any a c ar cr p W (hs.below b) (hr.below b) hp0
    have Hp := Lib.hid hp0
    clear h0 hO bd hp0
    go_enter Try.func40, Try.ntmps40
    go_wp2_with fail
    rw [← hW0]
    clear hW0
    go_at_call 78
    with_reducible refine (bk _ t0).mono ?_
    rintro e w1 ⟨rfl, hb1⟩
    have C1 := C0.below hb1
    have L1 := L0.below hb1
    have t1 : Below w.heap.size w w1 := t0.trans (hb1.mono t0.size)
    have k0 := C1.cell 0
    have k1 := C1.cell 1
    have k2 := C1.cell 2
    have lC := C1.lt
    have lL := L1.lt
    simp at k0 k1 k2
    clear bk C0 L0
    go_wp2_with fail
    go_at_call 70
    with_reducible refine (wrk _ t1).mono ?_
    rintro e w2 ⟨Bw, rfl, hBw, hW, hb2⟩
    have t2 : Below w.heap.size w w2 := t1.trans (hb2.mono t1.size)
    have L2 := L1.below hb2
    have z2 := hb2.size
    clear k0 k1 k2 lC C1 L1 lL wrk
    obtain ⟨WB, hWB⟩ : ∃ z : World, z = w2.alloc (.cells #[.pointer (some ⟨Bw, 0, none⟩)] 125) := ⟨_, rfl⟩
    have bB : Below w2.heap.size w2 WB := by rw [hWB]; exact (Below.refl _ _).alloc (Nat.le_refl _) _
    have zB : WB.heap.size = w2.heap.size + 1 := by rw [hWB]; simp
    have tB : Below w.heap.size w WB := t2.trans (bB.mono t2.size)
    have S0 : Sta p l a c ar cr Bw al cl w2.heap.size (w.heap.size + 1) WB := by
      refine ⟨hW.below bB, hs.below tB, hr.below tB, he.below tB, ?_, ?_⟩
      · have h : Cells WB w2.heap.size #[.pointer (some ⟨Bw, 0, none⟩)] 125 := by rw [hWB]; exact Cells.new _ _ _
        have := h.cell 0; simpa using this
      · have := (L2.below bB).cell 0; simpa using this
    obtain ⟨W1, hW1⟩ : ∃ z : World, z = (WB.alloc (.cells #[.slice none 0 0] 22)).alloc (.cells #[.func (.func 79) #[] #[.pointer (some ⟨w.heap.size + 1, 0, none⟩), .pointer (some ⟨w2.heap.size + 1, 0, none⟩), .pointer (some ⟨w2.heap.size, 0, none⟩), .pointer (some ⟨w2.heap.size + 1 + 1, 0, none⟩)]] 137) := ⟨_, rfl⟩
    have b1 : Below WB.heap.size WB W1 := by rw [hW1]; exact ((Below.refl _ _).alloc (Nat.le_refl _) _).alloc (by simp) _
    have z1 : W1.heap.size = w2.heap.size + 1 + 1 + 1 := by rw [hW1]; simp; omega
    have cF : Cells W1 (w2.heap.size + 1) #[.slice none 0 0] 22 := by rw [hW1]; exact (Cells.new' _ _ _ _ zB.symm).alloc _
    have cN : Cells W1 (w2.heap.size + 1 + 1) #[.func (.func 79) #[] #[.pointer (some ⟨w.heap.size + 1, 0, none⟩), .pointer (some ⟨w2.heap.size + 1, 0, none⟩), .pointer (some ⟨w2.heap.size, 0, none⟩), .pointer (some ⟨w2.heap.size + 1 + 1, 0, none⟩)]] 137 := by rw [hW1]; exact Cells.new' _ _ _ _ (by simp; omega)
    have kn : W1.cell? ⟨w2.heap.size + 1 + 1, 0, none⟩ = some (.func (.func 79) #[] #[.pointer (some ⟨w.heap.size + 1, 0, none⟩), .pointer (some ⟨w2.heap.size + 1, 0, none⟩), .pointer (some ⟨w2.heap.size, 0, none⟩), .pointer (some ⟨w2.heap.size + 1 + 1, 0, none⟩)]) := by have := cN.cell 0; simpa using this
    have G1 : Gr (w2.heap.size + 1) W1 W1 := ⟨World.grownBy.refl _ _, cF.frozen 0, _, by have := cF.cell 0; simpa using this⟩
    have kl : W1.cell? ⟨w.heap.size + 1, 0, none⟩ = some (.slice al l.length cl) := by have := ((L2.below bB).below b1).cell 0; simpa using this
    have ln := cell_ltK kn
    have ll := cell_ltK kl
    have t3 : Below w.heap.size w W1 := tB.trans (b1.mono tB.size)
    have hlv : ∀ (k : Nat) X, k ≤ 1000 → Gr (w2.heap.size + 1) W1 X → Calls Try.prog 79 #[.slice none 0 0, .slice none 0 0, .int .i64 0, .int .i64 k, .pointer (some ⟨w.heap.size + 1, 0, none⟩), .pointer (some ⟨w2.heap.size + 1, 0, none⟩), .pointer (some ⟨w2.heap.size, 0, none⟩), .pointer (some ⟨w2.heap.size + 1 + 1, 0, none⟩)] X (LeavePost (w2.heap.size + 1) X (oddM p l k)) := fun k X hk g => by
      have := leave_any p l a c ar cr Bw al cl w2.heap.size (w2.heap.size + 1) (w.heap.size + 1) (w2.heap.size + 1 + 1) WB S0 Hp.out (by omega) (by omega) (by omega)
        l.length 0 k [] none 0 [] none 0 X (by omega) hk (by simp) (by simp) (IntsAt.nil _ _) (fun _ => ⟨rfl, rfl⟩) (fun _ h => by cases h) (EntsAt.nil _ _) (fun _ => ⟨rfl, rfl⟩) (fun _ h => by cases h) (b1.trans (g.toBelow (by omega) (by omega))) (g.cell (by omega) kn) ⟨World.grownBy.refl _ _, g.f, g.v⟩
      rw [show ((0 : Nat) : Int) = 0 from rfl, List.length_nil, List.length_nil] at this
      exact this
    have hw1 : IntKind.i64.wrap ((l.length : Int) + 1) = (l.length : Int) + 1 := IntWalk.i64_in _ (by omega)
    have kl2 := kl
    rw [hW1, hWB] at kl2
    have ll2 : w.heap.size + 1 < w2.heap.size + 1 + 1 + 1 := by omega
    have HW1 := Lib.hid hW1
    have HWB := Lib.hid hWB
    clear hWB hW1
    go_wp2
    rw [← HWB.out, ← HW1.out]
    clear HWB HW1 cF cN L2 kl2 ll2
    go_loopw [23] (fun o wr => ∃ k : Nat, k ≤ l.length + 1 ∧ o = .int .i64 k ∧ (∀ j, j < k → oddM p l j = none) ∧ Gr (w2.heap.size + 1) W1 wr) (fun o _ => l.length + 1 - (intOf o).toNat)
    case atStart => exact ⟨0, by omega, rfl, fun j hj => absurd hj (Nat.not_lt_zero j), G1⟩
    case round =>
      obtain ⟨k, hk, rfl, hno, hg⟩ := hrel
      have Hno := Lib.hid hno
      clear hno
      have knr := hg.cell (by omega) kn
      have lnr := cell_ltK knr
      have tr : Below w.heap.size w wr := t3.trans (hg.toBelow (by omega) (by omega))
      by_cases hkl : k < l.length + 1
      · have hkI : (k : Int) < (l.length : Int) + 1 := by omega
        have hcl := hlv k wr (by omega) hg
        obtain ⟨o, ho⟩ : ∃ o, oddM p l k = o := ⟨_, rfl⟩
        rw [ho] at hcl
        cases o with
        | none =>
          have Ho := Lib.hid ho
          clear ho
          go_wp2_with (go_at_call 79; (with_reducible refine hcl.mono ?_); rintro e w5 ⟨rfl, hg5⟩)
          go_roundw
          case rel => exact ⟨k + 1, by omega, by go_num, below_succ Hno.out Ho.out, hg.trans hg5⟩
          case measure => simp [intOf]; omega
        | some z =>
          have hF := oddF_some hkl Hno.out ho
          obtain rfl : oF = z := by rw [← HoF.out]; exact hF
          clear hF ho HoF
          go_wp2_with (go_at_call 79; (with_reducible refine hcl.mono ?_); rintro e w5 ⟨rfl, hg5, a9, c9, hf9, hi9⟩; have lf9 := cell_ltK hf9)
          go_ret2
          exact ⟨⟨a9, c9, rfl, hi9⟩, tr.trans (hg5.toBelow (by have := t2.size; omega) (by have := tr.size; omega))⟩
      · exact absurd (Hno.out l.length (by omega)) (leaveR_all Hp.out l l.length 0 [])
  · have hO : oddOut p l = [] := by unfold oddOut; rw [if_neg h0]
    rw [hO]
    obtain ⟨E, hEe⟩ : ∃ E, bookErr p l = E := ⟨_, rfl⟩
    rw [hEe] at bk bd h0 ⊢
    have hne : (E != 0) = true := by simpa using h0
    clear h0 hO hEe
    go_enter Try.func40, Try.ntmps40
    go_wp2_with fail
    rw [← hW0]
    clear hW0
    go_at_call 78
    with_reducible refine (bk _ t0).mono ?_
    rintro e w1 ⟨rfl, hb1⟩
    have t1 : Below w.heap.size w w1 := t0.trans (hb1.mono t0.size)
    go_wp2_with fail
    go_ret2
    exact ⟨⟨none, 0, rfl, IntsAt.nil _ _⟩, t1⟩
end Go.Proofs.Ytfclemnkcpadpaa
