/- copies: booked -/
import Derived.Test.YtfclemnkcpadpaaKw
namespace Go.Proofs.Ytfclemnkcpadpaa
set_option linter.unusedVariables false
set_option linter.unusedSimpArgs false
set_option linter.unnecessarySimpa false
open Go.RowKit Go.Flow Go.Shelf

def entOk (n : Nat) (e : Ent) : Bool := inR e.num (0, (n : Int) - 1) && inR e.at_ (0, 100)
def bookErr (p : Post) (l : List Ent) : Int := if postErr p ≠ 0 then postErr p else if 8 < l.length then 3 else if l.all (entOk p.sends.length) then 0 else 2
set_option maxHeartbeats 400000 in
theorem entOk_meets (a : Option Addr) (n c : Nat) (B : Nat) (w : World) (hc : w.cell? ⟨B, 0, none⟩ = some (.slice a n c)) (hn : n ≤ 1000) (e : Ent) : Meets Try.prog w 104 #[] #[.pointer (some ⟨B, 0, none⟩)] (.agg #[.int .i64 e.num, .int .i64 e.at_, .bool e.skip]) (entOk n e) := by
  intro w' hb'
  have hc' := below_cell hb' hc
  have lB := cell_ltK hc'
  clear hc
  show Calls Try.prog 104 #[.agg #[.int .i64 e.num, .int .i64 e.at_, .bool e.skip], .pointer (some ⟨B, 0, none⟩)] w' _
  have wb : ∀ o, Below w'.heap.size w' (w'.alloc o) := fun o => (Below.refl _ _).alloc (Nat.le_refl _) _
  have h1 := fun W => within_any e.num 0 ((n : Int) - 1) W
  have h2 := fun W => within_any e.at_ 0 100 W
  cases hx : (decide (0 ≤ e.num) && decide (e.num ≤ (n : Int) - 1))
  · rw [hx] at h1
    go_enter Try.func104, Try.ntmps104
    go_wp2_with (go_at_call 69; (with_reducible refine (h1 _).mono ?_); rintro e w1 ⟨rfl, rfl⟩)
    go_ret
    exact ⟨ret_b (by unfold entOk inR; rw [hx]; rfl), wb _⟩
  · rw [hx] at h1
    go_enter Try.func104, Try.ntmps104
    go_wp2_with (go_at_call 69; first | ((with_reducible refine (h1 _).mono ?_); rintro e w1 ⟨rfl, rfl⟩) | ((with_reducible refine (h2 _).mono ?_); rintro e w1 ⟨rfl, rfl⟩))
    go_ret
    exact ⟨ret_b (by unfold entOk inR; rw [hx]; rfl), wb _⟩

set_option maxRecDepth 100000 in
set_option maxHeartbeats 4000000 in
theorem booked_any (a : Option Addr) (c : Nat) (ar : Option Addr) (cr : Nat) (p : Post) (al : Option Addr) (l : List Ent) (cl : Nat) (w : World) (hs : IntsAt w a p.sends) (hr : RoutesAt w ar p.routes) (sm : PostSmall p) (he : EntsAt w al l) (hl : l.length ≤ 1000000) :
    Calls Try.prog 78 #[.agg #[.slice a p.sends.length c, .slice ar p.routes.length cr, .int .i64 p.pat], .slice al l.length cl] w fun e w' => e = .returned (.int .i64 (bookErr p l)) ∧ Below w.heap.size w w' := by
  have chk := fun W (b : Below w.heap.size w W) => checkPost_any a c ar cr p W (hs.below b) (hr.below b) sm
  have bd := postErr_bd p
  have C0 : Cells (w.alloc (.cells #[.slice a p.sends.length c, .slice ar p.routes.length cr, .int .i64 p.pat] 34)) w.heap.size #[.slice a p.sends.length c, .slice ar p.routes.length cr, .int .i64 p.pat] 34 := Cells.new _ _ _
  have t0 : Below w.heap.size w (w.alloc (.cells #[.slice a p.sends.length c, .slice ar p.routes.length cr, .int .i64 p.pat] 34)) := (Below.refl _ _).alloc (Nat.le_refl _) _
  by_cases h0 : postErr p = 0
  · obtain ⟨n4, _⟩ := postErr_ok h0
    rw [h0] at chk
    have hE : Hid (bookErr p l = if 8 < l.length then 3 else if l.all (entOk p.sends.length) then 0 else 2) := Lib.hid (by unfold bookErr; rw [if_neg (by simpa using h0)])
    obtain ⟨E, hEe⟩ : ∃ E, bookErr p l = E := ⟨_, rfl⟩
    rw [hEe] at hE ⊢
    clear h0 bd hEe
    go_enter Try.func78, Try.ntmps78
    go_wp2_with fail
    go_at_call 20
    with_reducible refine (chk _ t0).mono ?_
    rintro e w1 ⟨rfl, hb1⟩
    have C1 := C0.below hb1
    have t1 : Below w.heap.size w w1 := t0.trans (hb1.mono t0.size)
    have k0 := C1.cell 0
    simp at k0
    have lC := C1.lt
    clear C0 chk C1
    by_cases h8 : 8 < l.length
    · have h8I : (8 : Int) < (l.length : Int) := by omega
      have e3 := hE.out
      rw [if_pos h8] at e3
      subst e3
      clear hE
      go_wp2
      go_ret
      exact ⟨rfl, t1⟩
    · have h8I : ¬ (8 : Int) < (l.length : Int) := by omega
      have e3 := hE.out
      rw [if_neg h8] at e3
      have hal := all_entry al l cl 104 #[] #[.pointer (some ⟨w.heap.size, 0, none⟩)] (entOk p.sends.length) w1 (by omega) (he.below t1) (enters Try.func104 (by kernel_rfl) rfl) (fun x _ => entOk_meets a p.sends.length c w.heap.size w1 k0 (by omega) x)
      clear hE
      cases hq : l.all (entOk p.sends.length)
      · rw [hq] at hal e3
        replace e3 : E = 2 := e3
        subst e3
        clear hq
        go_wp2_with (go_at_call 87; (with_reducible refine hal.mono ?_); rintro e w2 ⟨rfl, hb2⟩)
        go_ret
        exact ⟨rfl, t1.trans (hb2.mono t1.size)⟩
      · rw [hq] at hal e3
        replace e3 : E = 0 := e3
        subst e3
        clear hq
        go_wp2_with (go_at_call 87; (with_reducible refine hal.mono ?_); rintro e w2 ⟨rfl, hb2⟩)
        go_ret
        exact ⟨rfl, t1.trans (hb2.mono t1.size)⟩
  · have hE : bookErr p l = postErr p := by unfold bookErr; rw [if_pos h0]
    rw [hE]
    obtain ⟨E, hEe⟩ : ∃ E, postErr p = E := ⟨_, rfl⟩
    rw [hEe] at chk bd h0 ⊢
    have hne : (E != 0) = true := by simpa using h0
    clear h0 hE hEe
    go_enter Try.func78, Try.ntmps78
    go_wp2_with fail
    go_at_call 20
    with_reducible refine (chk _ t0).mono ?_
    rintro e w1 ⟨rfl, hb1⟩
    have t1 : Below w.heap.size w w1 := t0.trans (hb1.mono t0.size)
    go_wp2_with fail
    go_ret
    exact ⟨rfl, t1⟩
end Go.Proofs.Ytfclemnkcpadpaa
