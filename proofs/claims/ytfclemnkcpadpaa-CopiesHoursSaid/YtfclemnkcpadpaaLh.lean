/- copies' laws: ready; what they call, with what it yields under a name -/
import Derived.Test.YtfclemnkcpadpaaLg
import Derived.Test.YtfclemnkcpadpaaPc
namespace Go.Proofs.Ytfclemnkcpadpaa
set_option linter.unusedVariables false
set_option linter.unusedSimpArgs false
set_option linter.unnecessarySimpa false
open Go.RowKit Go.Flow

def readyB (p : Post) : Bool := thinB p && decide (postErr p = 0)
theorem ready_small {p : Post} (h : readyB p = true) : PostSmall p ∧ postErr p = 0 := by
  simp only [readyB, Bool.and_eq_true, decide_eq_true_eq] at h
  exact ⟨thin_small h.1, h.2⟩
section
variable (a : Option Addr) (c : Nat) (ar : Option Addr) (cr : Nat) (p : Post) (w : World)
set_option maxRecDepth 100000 in
set_option maxHeartbeats 1000000 in
theorem ready_eq (B : Bool) (h : Hid (readyB p = B)) (hs : IntsAt w a p.sends) (hr : RoutesAt w ar p.routes) (big : PostBig p) :
    Calls Try.prog 44 #[.agg #[.slice a p.sends.length c, .slice ar p.routes.length cr, .int .i64 p.pat]] w fun e w' => e = .returned (.bool B) ∧ Below w.heap.size w w' := by
  rw [← h.out]
  clear h
  have HB := Lib.hid big
  clear big
  by_cases hT : thinB p = true
  · have SM := Lib.hid (thin_small hT)
    have hq : readyB p = decide (postErr p = 0) := by unfold readyB; rw [hT, Bool.true_and]
    rw [hq]
    have HT := Lib.hid hT
    obtain ⟨E, hE⟩ : ∃ E, postErr p = E := ⟨_, rfl⟩
    have HE := Lib.hid hE
    have hbd : 0 ≤ E ∧ E ≤ 3 := by rw [← hE]; exact postErr_bd p
    rw [hE]
    clear hq hT hE
    go_enter Try.func44, Try.ntmps44
    go_wp2_with fail
    go_at_call 17
    refine (thin_eq a c ar cr p _ true HT (hr.below (by (repeat (first | exact Below.refl _ _ | refine Below.alloc ?_ (by first | omega | (simp; done) | (simp; omega)) _ | refine Below.drew ?_ | refine Below.setCell ?_ (by first | omega | (simp; done) | (simp; omega)) _ | refine Below.trans ?_ (Below.mono (by assumption) (by first | omega | (simp; done) | (simp; omega))))))) HB.out).mono ?_
    rintro e w1 ⟨rfl, b1⟩
    have t1 : Below w.heap.size w w1 := by (repeat (first | exact Below.refl _ _ | refine Below.alloc ?_ (by first | omega | (simp; done) | (simp; omega)) _ | refine Below.drew ?_ | refine Below.setCell ?_ (by first | omega | (simp; done) | (simp; omega)) _ | refine Below.trans ?_ (Below.mono (by assumption) (by first | omega | (simp; done) | (simp; omega)))))
    replace hs := hs.below t1
    replace hr := hr.below t1
    have q0 := box_cells b1 0 rfl
    have q1 := box_cells b1 1 rfl
    have q2 := box_cells b1 2 rfl
    have lB := cell_ltK q0
    go_wp2_with fail
    go_at_call 24
    refine (fault_eq a c ar cr p _ E HE (hs.below (by (repeat (first | exact Below.refl _ _ | refine Below.alloc ?_ (by first | omega | (simp; done) | (simp; omega)) _ | refine Below.drew ?_ | refine Below.setCell ?_ (by first | omega | (simp; done) | (simp; omega)) _ | refine Below.trans ?_ (Below.mono (by assumption) (by first | omega | (simp; done) | (simp; omega))))))) (hr.below (by (repeat (first | exact Below.refl _ _ | refine Below.alloc ?_ (by first | omega | (simp; done) | (simp; omega)) _ | refine Below.drew ?_ | refine Below.setCell ?_ (by first | omega | (simp; done) | (simp; omega)) _ | refine Below.trans ?_ (Below.mono (by assumption) (by first | omega | (simp; done) | (simp; omega))))))) SM).mono ?_
    rintro e w2 ⟨rfl, b2⟩
    have j2 : Below w1.heap.size w1 w2 := by (repeat (first | exact Below.refl _ _ | refine Below.alloc ?_ (by first | omega | (simp; done) | (simp; omega)) _ | refine Below.drew ?_ | refine Below.setCell ?_ (by first | omega | (simp; done) | (simp; omega)) _ | refine Below.trans ?_ (Below.mono (by assumption) (by first | omega | (simp; done) | (simp; omega)))))
    have t2 : Below w.heap.size w w2 := t1.trans (j2.mono t1.size)
    go_wp2_with fail
    go_ret
    exact ⟨rfl, t2⟩
  · have HT : Hid (thinB p = false) := Lib.hid (by simpa using hT)
    have hq : readyB p = false := by unfold readyB; rw [HT.out, Bool.false_and]
    rw [hq]
    clear hq hT
    go_enter Try.func44, Try.ntmps44
    go_wp2_with fail
    go_at_call 17
    refine (thin_eq a c ar cr p _ false HT (hr.below (by (repeat (first | exact Below.refl _ _ | refine Below.alloc ?_ (by first | omega | (simp; done) | (simp; omega)) _ | refine Below.drew ?_ | refine Below.setCell ?_ (by first | omega | (simp; done) | (simp; omega)) _ | refine Below.trans ?_ (Below.mono (by assumption) (by first | omega | (simp; done) | (simp; omega))))))) HB.out).mono ?_
    rintro e w1 ⟨rfl, b1⟩
    have t1 : Below w.heap.size w w1 := by (repeat (first | exact Below.refl _ _ | refine Below.alloc ?_ (by first | omega | (simp; done) | (simp; omega)) _ | refine Below.drew ?_ | refine Below.setCell ?_ (by first | omega | (simp; done) | (simp; omega)) _ | refine Below.trans ?_ (Below.mono (by assumption) (by first | omega | (simp; done) | (simp; omega)))))
    go_wp2_with fail
    go_ret
    exact ⟨rfl, t1⟩
theorem sure_eq (E : Int) (O : List Int) (n : Nat) (hE : Hid (postErr p = E)) (hO : Hid (sureOut p = O)) (hn : Hid (O.length = n)) (hs : IntsAt w a p.sends) (hr : RoutesAt w ar p.routes) (sm : Hid (PostSmall p)) :
    Calls Try.prog 33 #[.agg #[.slice a p.sends.length c, .slice ar p.routes.length cr, .int .i64 p.pat]] w fun e w' => (∃ a c, e = .returned (.tuple #[.slice a n c, .int .i64 E]) ∧ IntsAt w' a O) ∧ Below w.heap.size w w' := by
  rw [← hE.out, ← hn.out, ← hO.out]; exact Surely_any a c ar cr p w hs hr sm.out
theorem spans_eq (E : Int) (O : List (Int × Int)) (n : Nat) (hE : Hid (postErr p = E)) (hO : Hid (spansOut p = O)) (hn : Hid (O.length = n)) (hs : IntsAt w a p.sends) (hr : RoutesAt w ar p.routes) (sm : Hid (PostSmall p)) :
    Calls Try.prog 32 #[.agg #[.slice a p.sends.length c, .slice ar p.routes.length cr, .int .i64 p.pat]] w fun e w' => (∃ a c, e = .returned (.tuple #[.slice a n c, .int .i64 E]) ∧ Recs2At w' a O) ∧ Below w.heap.size w w' := by
  rw [← hE.out, ← hn.out, ← hO.out]; exact Spans_any a c ar cr p w hs hr sm.out
theorem hours_eq (i r : Int) (E : Int) (O : List Int) (n : Nat) (hE : Hid (hoursErr p i r = E)) (hO : Hid (hoursOut p i r = O)) (hn : Hid (O.length = n)) (hs : IntsAt w a p.sends) (hr : RoutesAt w ar p.routes) (sm : Hid (PostSmall p)) :
    Calls Try.prog 28 #[.agg #[.slice a p.sends.length c, .slice ar p.routes.length cr, .int .i64 p.pat], .int .i64 i, .int .i64 r] w fun e w' => (∃ a c, e = .returned (.tuple #[.slice a n c, .int .i64 E]) ∧ IntsAt w' a O) ∧ Below w.heap.size w w' := by
  rw [← hE.out, ← hn.out, ← hO.out]; exact Hours_any a c ar cr p i r w hs hr sm.out
theorem least_eq (E O : Int) (hE : Hid (leastErr p = E)) (hO : Hid (leastOut p = O)) (hs : IntsAt w a p.sends) (hr : RoutesAt w ar p.routes) (sm : Hid (PostSmall p)) :
    Calls Try.prog 34 #[.agg #[.slice a p.sends.length c, .slice ar p.routes.length cr, .int .i64 p.pat]] w fun e w' => e = .returned (.tuple #[.int .i64 O, .int .i64 E]) ∧ Below w.heap.size w w' := by
  rw [← hE.out, ← hO.out]; exact Least_any a c ar cr p w hs hr sm.out
theorem pat_small {p : Post} (sm : PostSmall p) (x : Int) : PostSmall (withPat p x) := ⟨sm.1, sm.2, sm.3, sm.4⟩
theorem postX_eq (x : Int) (hs : IntsAt w a p.sends) (hr : RoutesAt w ar p.routes) (sm : Hid (PostSmall p)) (na : a = none → c = 0) :
    Calls Try.prog 21 #[.agg #[.slice a p.sends.length c, .slice ar p.routes.length cr, .int .i64 x]] w fun e w' => (∃ a c ar cr, e = .returned (.agg #[.slice a p.sends.length c, .slice ar p.routes.length cr, .int .i64 x]) ∧ IntsAt w' a p.sends ∧ RoutesAt w' ar p.routes) ∧ Below w.heap.size w w' :=
  post_eq a c ar cr (withPat p x) w hs hr (Lib.hid (pat_small sm.out x)) na
theorem sureX_eq (x : Int) (E : Int) (O : List Int) (n : Nat) (hE : Hid (postErr (withPat p x) = E)) (hO : Hid (sureOut (withPat p x) = O)) (hn : Hid (O.length = n)) (hs : IntsAt w a p.sends) (hr : RoutesAt w ar p.routes) (sm : Hid (PostSmall p)) :
    Calls Try.prog 33 #[.agg #[.slice a p.sends.length c, .slice ar p.routes.length cr, .int .i64 x]] w fun e w' => (∃ a c, e = .returned (.tuple #[.slice a n c, .int .i64 E]) ∧ IntsAt w' a O) ∧ Below w.heap.size w w' :=
  sure_eq a c ar cr (withPat p x) w E O n hE hO hn hs hr (Lib.hid (pat_small sm.out x))
theorem spansX_eq (x : Int) (E : Int) (O : List (Int × Int)) (n : Nat) (hE : Hid (postErr (withPat p x) = E)) (hO : Hid (spansOut (withPat p x) = O)) (hn : Hid (O.length = n)) (hs : IntsAt w a p.sends) (hr : RoutesAt w ar p.routes) (sm : Hid (PostSmall p)) :
    Calls Try.prog 32 #[.agg #[.slice a p.sends.length c, .slice ar p.routes.length cr, .int .i64 x]] w fun e w' => (∃ a c, e = .returned (.tuple #[.slice a n c, .int .i64 E]) ∧ Recs2At w' a O) ∧ Below w.heap.size w w' :=
  spans_eq a c ar cr (withPat p x) w E O n hE hO hn hs hr (Lib.hid (pat_small sm.out x))
end
end Go.Proofs.Ytfclemnkcpadpaa
