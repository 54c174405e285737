/- copies: Hours -/
import Derived.Test.YtfclemnkcpadpaaKn
namespace Go.Proofs.Ytfclemnkcpadpaa
set_option linter.unusedVariables false
set_option linter.unusedSimpArgs false
set_option linter.unnecessarySimpa false
open Go.RowKit Go.Flow Go.Shelf

def inLen (n : Int) (l : Nat) : Bool := decide (0 ≤ n) && decide (n ≤ (l : Int) - 1)
def hoursErr (p : Post) (n r : Int) : Int := if postErr p ≠ 0 then postErr p else if inLen n p.sends.length && inLen r p.routes.length then 0 else 2
def hoursOut (p : Post) (n r : Int) : List Int := if hoursErr p n r = 0 then hrList (hrF p n.toNat r.toNat) else []
def RetInts (E : Int) (l : List Int) (e : Ending) (w' : World) : Prop := ∃ a c, e = .returned (.tuple #[.slice a l.length c, .int .i64 E]) ∧ IntsAt w' a l

set_option maxHeartbeats 4000000 in
theorem Hours_any (a : Option Addr) (c : Nat) (ar : Option Addr) (cr : Nat) (p : Post) (n r : Int) (w : World) (hs : IntsAt w a p.sends) (hr : RoutesAt w ar p.routes) (sm : PostSmall p) :
    Calls Try.prog 28 #[.agg #[.slice a p.sends.length c, .slice ar p.routes.length cr, .int .i64 p.pat], .int .i64 n, .int .i64 r] w fun e w' => RetInts (hoursErr p n r) (hoursOut p n r) e w' ∧ Below w.heap.size w w' := by
  have chk := fun W (b : Below w.heap.size w W) => checkPost_any a c ar cr p W (hs.below b) (hr.below b) sm
  have bd := postErr_bd p
  have l1 := sm.s
  have l2 := sm.r
  have C0 : Cells (w.alloc (.cells #[.slice a p.sends.length c, .slice ar p.routes.length cr, .int .i64 p.pat] 34)) w.heap.size #[.slice a p.sends.length c, .slice ar p.routes.length cr, .int .i64 p.pat] 34 := Cells.new _ _ _
  have t0 : Below w.heap.size w (w.alloc (.cells #[.slice a p.sends.length c, .slice ar p.routes.length cr, .int .i64 p.pat] 34)) := (Below.refl _ _).alloc (Nat.le_refl _) _
  by_cases h0 : postErr p = 0
  · have Hp := Lib.hid h0
    rw [h0] at chk
    cases hn : inLen n p.sends.length
    · have hE : hoursErr p n r = 2 := by unfold hoursErr; rw [if_neg (by simp [h0]), hn]; rfl
      have hO : hoursOut p n r = [] := by unfold hoursOut; rw [if_neg (by rw [hE]; decide)]
      rw [hE, hO]
      have hwi := fun W => within_any n 0 ((p.sends.length : Int) - 1) W
      rw [show (decide (0 ≤ n) && decide (n ≤ (p.sends.length : Int) - 1)) = false from hn] at hwi
      clear h0 hE hO bd hn
      go_enter Try.func28, Try.ntmps28
      go_wp2_with fail
      go_at_call 20
      with_reducible refine (chk _ t0).mono ?_
      rintro e w1 ⟨rfl, hb1⟩
      have C1 := C0.below hb1
      have t1 : Below w.heap.size w w1 := t0.trans (hb1.mono t0.size)
      have k0 := C1.cell 0
      have lC := C1.lt
      simp at k0
      go_wp2_with (go_at_call 69; (with_reducible refine (hwi _).mono ?_); rintro e w2 ⟨rfl, rfl⟩)
      go_ret2
      exact ⟨⟨none, 0, rfl, IntsAt.nil _ _⟩, t1⟩
    cases hm : inLen r p.routes.length
    · have hE : hoursErr p n r = 2 := by unfold hoursErr; rw [if_neg (by simp [h0]), hm, Bool.and_false]; rfl
      have hO : hoursOut p n r = [] := by unfold hoursOut; rw [if_neg (by rw [hE]; decide)]
      rw [hE, hO]
      have hwi := fun W => within_any n 0 ((p.sends.length : Int) - 1) W
      rw [show (decide (0 ≤ n) && decide (n ≤ (p.sends.length : Int) - 1)) = true from hn] at hwi
      have hwj := fun W => within_any r 0 ((p.routes.length : Int) - 1) W
      rw [show (decide (0 ≤ r) && decide (r ≤ (p.routes.length : Int) - 1)) = false from hm] at hwj
      clear h0 hE hO bd hn hm
      go_enter Try.func28, Try.ntmps28
      go_wp2_with fail
      go_at_call 20
      with_reducible refine (chk _ t0).mono ?_
      rintro e w1 ⟨rfl, hb1⟩
      have C1 := C0.below hb1
      have t1 : Below w.heap.size w w1 := t0.trans (hb1.mono t0.size)
      have k0 := C1.cell 0
      have k1 := C1.cell 1
      have lC := C1.lt
      simp at k0 k1
      go_wp2_with fail
      go_at_call 69
      with_reducible refine (hwi _).mono ?_
      rintro e w2 ⟨rfl, rfl⟩
      go_wp2_with fail
      go_at_call 69
      with_reducible refine (hwj _).mono ?_
      rintro e w2 ⟨rfl, rfl⟩
      go_wp2_with fail
      go_ret2
      exact ⟨⟨none, 0, rfl, IntsAt.nil _ _⟩, t1⟩
    · have hE : hoursErr p n r = 0 := by unfold hoursErr; rw [if_neg (by simp [h0]), hn, hm]; rfl
      have hO : hoursOut p n r = hrList (hrF p n.toNat r.toNat) := by unfold hoursOut; rw [if_pos hE]
      rw [hE, hO]
      have hwi := fun W => within_any n 0 ((p.sends.length : Int) - 1) W
      rw [show (decide (0 ≤ n) && decide (n ≤ (p.sends.length : Int) - 1)) = true from hn] at hwi
      have hwj := fun W => within_any r 0 ((p.routes.length : Int) - 1) W
      rw [show (decide (0 ≤ r) && decide (r ≤ (p.routes.length : Int) - 1)) = true from hm] at hwj
      simp only [inLen, Bool.and_eq_true, decide_eq_true_eq] at hn hm
      obtain ⟨N, rfl⟩ := Int.eq_ofNat_of_zero_le hn.1
      obtain ⟨R, rfl⟩ := Int.eq_ofNat_of_zero_le hm.1
      have wrk := fun W (b : Below w.heap.size w W) => work_any a c ar cr p W (hs.below b) (hr.below b) h0
      simp only [Int.toNat_natCast]
      clear h0 hE hO bd
      go_enter Try.func28, Try.ntmps28
      go_wp2_with fail
      go_at_call 20
      with_reducible refine (chk _ t0).mono ?_
      rintro e w1 ⟨rfl, hb1⟩
      have C1 := C0.below hb1
      have t1 : Below w.heap.size w w1 := t0.trans (hb1.mono t0.size)
      have k0 := C1.cell 0
      have k1 := C1.cell 1
      have k2 := C1.cell 2
      have lC := C1.lt
      simp at k0 k1 k2
      go_wp2_with fail
      go_at_call 69
      with_reducible refine (hwi _).mono ?_
      rintro e w2 ⟨rfl, rfl⟩
      go_wp2_with fail
      go_at_call 69
      with_reducible refine (hwj _).mono ?_
      rintro e w2 ⟨rfl, rfl⟩
      go_wp2_with fail
      go_at_call 70
      with_reducible refine (wrk _ t1).mono ?_
      rintro e w2 ⟨Bw, rfl, hBw, ⟨Bm, nm, cW, hH⟩, hb2⟩
      have q3 := cW.cell 3
      have lW := cW.lt
      simp at q3
      obtain ⟨Sb, hrun, hSC⟩ := hH.look N R ⟨by omega, by omega⟩ (by omega) (by omega)
      have hrun' := hrun ⟨w2, Below.refl _ _⟩
      dsimp only at hrun'
      clear hrun
      go_wp2_with fail
      go_at_call 71
      refine (list_any Sb (hrF p N R) _ (Lib.hid rfl) w2 hSC).mono ?_
      rintro e w3 ⟨⟨aL, cL, rfl, ho⟩, hb3⟩
      go_wp2_with fail
      go_ret2
      exact ⟨⟨aL, cL, rfl, ho.ints.1⟩, t1.trans ((hb2.trans (hb3.mono hb2.size)).mono t1.size)⟩
  · have hE : hoursErr p n r = postErr p := by unfold hoursErr; rw [if_pos h0]
    have hO : hoursOut p n r = [] := by unfold hoursOut; rw [if_neg (by rw [hE]; exact h0)]
    rw [hE, hO]
    obtain ⟨E, hEe⟩ : ∃ E, postErr p = E := ⟨_, rfl⟩
    rw [hEe] at chk bd h0 ⊢
    have hne : (E != 0) = true := by simpa using h0
    clear h0 hE hO hEe
    go_enter Try.func28, Try.ntmps28
    go_wp2_with fail
    go_at_call 20
    with_reducible refine (chk _ t0).mono ?_
    rintro e w1 ⟨rfl, hb1⟩
    have t1 : Below w.heap.size w w1 := t0.trans (hb1.mono t0.size)
    go_wp2_with fail
    go_ret2
    exact ⟨⟨none, 0, rfl, IntsAt.nil _ _⟩, t1⟩
end Go.Proofs.Ytfclemnkcpadpaa
