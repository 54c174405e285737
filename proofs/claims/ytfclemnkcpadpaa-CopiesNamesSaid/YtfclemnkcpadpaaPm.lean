/- copies, plain: the document's examples and errors (CopiesNames) -/
import Derived.Test.YtfclemnkcpadpaaPb
import Derived.Test.YtfclemnkcpadpaaSa
import Derived.Test.YtfclemnkcpadpaaRl
namespace Go.Proofs.Ytfclemnkcpadpaa
set_option linter.unusedVariables false
set_option linter.unusedSimpArgs false
set_option linter.unnecessarySimpa false
open Go.RowKit Go.Flow

theorem two_hours00 : hoursOut twoP 0 0 = [1, 2, 3] ∧ hoursErr twoP 0 0 = 0 := by
  refine ⟨?_, by decide +kernel⟩
  unfold hoursOut
  rw [if_pos (by decide +kernel)]
  show hrList (hrF twoP 0 0) = _
  rw [two_hr00]
  decide +kernel
theorem two_hours10 : hoursOut twoP 1 0 = [3, 4, 5] ∧ hoursErr twoP 1 0 = 0 := by
  refine ⟨?_, by decide +kernel⟩
  unfold hoursOut
  rw [if_pos (by decide +kernel)]
  show hrList (hrF twoP 1 0) = _
  rw [two_hr10]
  decide +kernel
theorem two_hours20 : hoursOut twoP 2 0 = [] ∧ hoursErr twoP 2 0 = 2 := by
  refine ⟨?_, by decide +kernel⟩
  unfold hoursOut
  rw [if_neg (by decide +kernel)]
def skipEx : List Ent := [⟨0, 5, true⟩]
def comeEx : List Ent := [⟨0, 5, false⟩]
def fourEx : List Ent := [⟨0, 4, false⟩]
def farEx : List Ent := [⟨0, 101, false⟩]
def nineEx : List Ent := List.replicate 9 ⟨0, 0, false⟩
def truthTwo : List (List (List Int)) := explOut twoP skipEx
theorem skip_book : bookErr twoP skipEx = 0 := by decide +kernel
theorem skip_search : searchF twoP skipEx = some [6, 3] := by rw [two_search]; decide +kernel
theorem truthTwo_eq : truthTwo = truthF twoP [6, 3] := by
  unfold truthTwo explOut
  rw [if_neg (by rw [skip_book]; decide), skip_search]
theorem skip_expl : explErr twoP skipEx = 0 := by
  unfold explErr
  rw [if_neg (by rw [skip_book]; decide), if_pos]
  show (searchF twoP skipEx).isSome = true
  rw [skip_search]; rfl
theorem four_expl : explErr twoP fourEx = 9 ∧ explOut twoP fourEx = [] := by
  have h : searchF twoP fourEx = none := by rw [two_search]; decide +kernel
  have hb : bookErr twoP fourEx = 0 := by decide +kernel
  refine ⟨?_, ?_⟩
  · unfold explErr
    rw [if_neg (by rw [hb]; decide), if_neg]
    show ¬ (searchF twoP fourEx).isSome = true
    rw [h]; decide
  · unfold explOut
    rw [if_neg (by rw [hb]; decide), h]
theorem truthTwo_lit : truthTwo = [[[], [1, 1]], [[1], [1, 2]]] := by
  rw [truthTwo_eq]; decide +kernel
theorem skip_prove : proveB twoP truthTwo skipEx = true := by rw [truthTwo_lit]; decide +kernel
theorem come_prove : proveB twoP truthTwo comeEx = false := by rw [truthTwo_lit]; decide +kernel
theorem none_prove : proveB twoP [] [] = false := by decide +kernel
theorem far_odd : bookErr twoP farEx = 2 ∧ oddOut twoP farEx = [] := by
  have h : bookErr twoP farEx = 2 := by decide +kernel
  exact ⟨h, by unfold oddOut; rw [if_neg (by rw [h]; decide)]⟩
theorem nine_odd : bookErr twoP nineEx = 3 ∧ oddOut twoP nineEx = [] := by
  have h : bookErr twoP nineEx = 3 := by decide +kernel
  exact ⟨h, by unfold oddOut; rw [if_neg (by rw [h]; decide)]⟩
def tEx1 : List (List (List Int)) := [[[1], [1, 2]], [[1], []]]
def tEx2 : List (List (List Int)) := [[[4], [1, 2]], [[], [1, 1]]]
theorem t1_play : playErr twoP tEx1 = 2 ∧ playOut twoP tEx1 = [] := by decide +kernel
theorem t2_play : playErr twoP tEx2 = 11 ∧ playOut twoP tEx2 = [] := by decide +kernel
def slowP : Post := ⟨[30], [⟨[⟨6, 6, []⟩], true⟩, ⟨[⟨0, 6, []⟩, ⟨0, 6, []⟩, ⟨0, 6, [(0, 30)]⟩], false⟩], 5⟩
def manyP : Post := ⟨[1, 2, 3, 4, 5], twoP.routes, 5⟩
def legsP : Post := ⟨[0, 2], [⟨[], true⟩, ⟨[⟨1, 1, [(1, 4)]⟩, ⟨1, 2, []⟩], false⟩], 5⟩
def sameP : Post := ⟨[2, 2], twoP.routes, 5⟩
def lateP : Post := ⟨[0, 2], twoP.routes, 31⟩
def earlyP : Post := ⟨[0, 2], [⟨[⟨1, 3, []⟩], true⟩, ⟨[⟨1, 1, [(1, 31)]⟩, ⟨1, 2, []⟩], false⟩], 5⟩
def lostP : Post := ⟨[0, 2], [⟨[⟨1, 3, []⟩], true⟩], 5⟩
def zeroP : Post := ⟨[], [], 0⟩
theorem many_err : postErr manyP = 3 := by decide +kernel
theorem legs_err : postErr legsP = 1 := by decide +kernel
theorem same_err : postErr sameP = 1 := by decide +kernel
theorem late_err : postErr lateP = 1 := by decide +kernel
theorem early_err : postErr earlyP = 1 := by decide +kernel
theorem zero_err : postErr zeroP = 1 := by decide +kernel
theorem slow_ok : postErr slowP = 0 := by decide +kernel
theorem lost_ok : postErr lostP = 0 := by decide +kernel
theorem slow_hr0 : hrF slowP 0 0 = inL [36] := by
  show routeHr [⟨6, 6, []⟩] ((30 : Nat) : Int) = _
  unfold routeHr
  rw [oneHr_list]
  simp only [List.foldl_cons, List.foldl_nil]
  rw [legHr_list _ _ (by decide) (by decide)]
  exact inL_eq (by decide +kernel) (by decide +kernel)
theorem slow_hr1 : hrF slowP 0 1 = inL [31, 32, 33, 34, 35, 36, 37, 38, 39, 40, 41, 42, 43, 44, 45, 46, 47, 48] := by
  show routeHr [⟨0, 6, []⟩, ⟨0, 6, []⟩, ⟨0, 6, [(0, 30)]⟩] ((30 : Nat) : Int) = _
  unfold routeHr
  rw [oneHr_list]
  simp only [List.foldl_cons, List.foldl_nil]
  rw [legHr_list _ _ (by decide) (by decide), legHr_list _ _ (by decide +kernel) (by decide), legHr_list _ _ (by decide +kernel) (by decide)]
  exact inL_eq (by decide +kernel) (by decide +kernel)
theorem slow_l0 : latestF slowP 0 = 48 := by
  unfold latestF
  rw [show slowP.routes.length = 2 from rfl, latN_succ, latN_succ, slow_hr0, slow_hr1]
  decide +kernel
theorem slow_allSure (x : Nat) : allSure slowP x = decide (18 ≤ x) := by
  unfold allSure
  rw [show slowP.sends.length = 1 from rfl, Bool.eq_iff_iff]
  simp only [List.all_eq_true, List.mem_range, decide_eq_true_eq]
  have e : slowP.sends.getD 0 0 = 30 := rfl
  constructor
  · intro h
    have := h 0 (by omega)
    rw [sureB_pat, slow_l0] at this
    simp only [decide_eq_true_eq] at this
    omega
  · intro h i hi
    obtain rfl : i = 0 := by omega
    rw [sureB_pat, slow_l0]
    simp only [decide_eq_true_eq]
    omega
theorem slow_least : leastOut slowP = 18 ∧ leastErr slowP = 0 := by
  have h : leastF slowP = some 18 := by
    unfold leastF
    rw [show allSure slowP = fun x => decide (18 ≤ x) from funext slow_allSure]
    decide +kernel
  unfold leastOut leastErr
  rw [h, slow_ok]
  decide +kernel
theorem lost_l0 : latestF lostP 0 = 101 := by
  have e : hrF lostP 0 0 = inL [1, 2, 3] := two_hr00
  unfold latestF
  rw [show lostP.routes.length = 1 from rfl, latN_succ, e]
  decide +kernel
theorem lost_allSure (x : Nat) (hx : x ≤ 100) : allSure lostP x = false := by
  unfold allSure
  rw [show lostP.sends.length = 2 from rfl]
  rw [Bool.eq_false_iff]
  intro h
  have := List.all_eq_true.1 h 0 (by simp)
  rw [sureB_pat, lost_l0] at this
  simp only [decide_eq_true_eq] at this
  have e : lostP.sends.getD 0 0 = 0 := rfl
  omega
theorem lost_least : leastErr lostP = 9 ∧ leastOut lostP = 0 := by
  have h : leastF lostP = none := by
    cases hf : leastF lostP with
    | none => rfl
    | some x =>
      unfold leastF at hf
      have h1 := List.find?_some hf
      have h2 := List.mem_of_find?_eq_some hf
      rw [lost_allSure x (by simp at h2; omega)] at h1
      cases h1
  unfold leastErr leastOut
  rw [h, lost_ok]
  decide +kernel
theorem exH00 (a : Option Addr) (c : Nat) (ar : Option Addr) (cr : Nat) (w : World) (hs : IntsAt w a twoP.sends) (hr : RoutesAt w ar twoP.routes) :
    Calls Try.prog 28 #[.agg #[.slice a 2 c, .slice ar 2 cr, .int .i64 5], .int .i64 0, .int .i64 0] w fun e w' => (∃ a c, e = .returned (.tuple #[.slice a 3 c, .int .i64 0]) ∧ IntsAt w' a [1, 2, 3]) ∧ Below w.heap.size w w' := by
  have := Hours_any a c ar cr twoP 0 0 w hs hr two_small
  rw [two_hours00.1, two_hours00.2] at this
  exact this
theorem exH10 (a : Option Addr) (c : Nat) (ar : Option Addr) (cr : Nat) (w : World) (hs : IntsAt w a twoP.sends) (hr : RoutesAt w ar twoP.routes) :
    Calls Try.prog 28 #[.agg #[.slice a 2 c, .slice ar 2 cr, .int .i64 5], .int .i64 1, .int .i64 0] w fun e w' => (∃ a c, e = .returned (.tuple #[.slice a 3 c, .int .i64 0]) ∧ IntsAt w' a [3, 4, 5]) ∧ Below w.heap.size w w' := by
  have := Hours_any a c ar cr twoP 1 0 w hs hr two_small
  rw [two_hours10.1, two_hours10.2] at this
  exact this
theorem exH20 (a : Option Addr) (c : Nat) (ar : Option Addr) (cr : Nat) (w : World) (hs : IntsAt w a twoP.sends) (hr : RoutesAt w ar twoP.routes) :
    Calls Try.prog 28 #[.agg #[.slice a 2 c, .slice ar 2 cr, .int .i64 5], .int .i64 2, .int .i64 0] w fun e w' => (∃ a c, e = .returned (.tuple #[.slice a 0 c, .int .i64 2]) ∧ IntsAt w' a []) ∧ Below w.heap.size w w' := by
  have := Hours_any a c ar cr twoP 2 0 w hs hr two_small
  rw [two_hours20.1, two_hours20.2] at this
  exact this
theorem exExpl (a : Option Addr) (c : Nat) (ar : Option Addr) (cr : Nat) (al : Option Addr) (cl : Nat) (w : World) (hs : IntsAt w a twoP.sends) (hr : RoutesAt w ar twoP.routes) (he : EntsAt w al skipEx) :
    Calls Try.prog 48 #[.agg #[.slice a 2 c, .slice ar 2 cr, .int .i64 5], .slice al 1 cl] w fun e w' => (∃ a c, e = .returned (.tuple #[.slice a 2 c, .int .i64 0]) ∧ TruthAt w' a truthTwo) ∧ Below w.heap.size w w' := by
  refine (explain_eq a c ar cr twoP al skipEx cl w 0 truthTwo 2 (Lib.hid skip_expl) (Lib.hid rfl) (Lib.hid (by rw [truthTwo_lit]; rfl)) hs hr (Lib.hid two_small) he (by decide)).mono ?_
  rintro e w' ⟨⟨a, c, h1, h2, _⟩, hb⟩
  exact ⟨⟨a, c, h1, h2⟩, hb⟩
theorem exExpl4 (a : Option Addr) (c : Nat) (ar : Option Addr) (cr : Nat) (al : Option Addr) (cl : Nat) (w : World) (hs : IntsAt w a twoP.sends) (hr : RoutesAt w ar twoP.routes) (he : EntsAt w al fourEx) :
    Calls Try.prog 48 #[.agg #[.slice a 2 c, .slice ar 2 cr, .int .i64 5], .slice al 1 cl] w fun e w' => (∃ a c, e = .returned (.tuple #[.slice a 0 c, .int .i64 9]) ∧ TruthAt w' a []) ∧ Below w.heap.size w w' := by
  refine (explain_eq a c ar cr twoP al fourEx cl w 9 [] 0 (Lib.hid four_expl.1) (Lib.hid four_expl.2) (Lib.hid rfl) hs hr (Lib.hid two_small) he (by decide)).mono ?_
  rintro e w' ⟨⟨a, c, h1, h2, _⟩, hb⟩
  exact ⟨⟨a, c, h1, h2⟩, hb⟩
theorem truthTwo_small : TruthSmall truthTwo := by rw [truthTwo_lit]; exact ⟨by decide, by decide, by decide⟩
theorem exProve1 (a : Option Addr) (c : Nat) (ar : Option Addr) (cr : Nat) (at_ : Option Addr) (ct : Nat) (al : Option Addr) (cl : Nat) (w : World) (hs : IntsAt w a twoP.sends) (hr : RoutesAt w ar twoP.routes) (ht : TruthAt w at_ truthTwo) (he : EntsAt w al skipEx) :
    Calls Try.prog 52 #[.agg #[.slice a 2 c, .slice ar 2 cr, .int .i64 5], .slice at_ 2 ct, .slice al 1 cl] w fun e w' => e = .returned (.bool true) ∧ Below w.heap.size w w' := by
  exact prove_eq a c ar cr twoP at_ truthTwo 2 ct al skipEx cl w true (Lib.hid skip_prove) (Lib.hid (by rw [truthTwo_lit]; rfl)) hs hr (Lib.hid two_small) ht (Lib.hid truthTwo_small) he (by decide)
theorem exProve2 (a : Option Addr) (c : Nat) (ar : Option Addr) (cr : Nat) (at_ : Option Addr) (ct : Nat) (al : Option Addr) (cl : Nat) (w : World) (hs : IntsAt w a twoP.sends) (hr : RoutesAt w ar twoP.routes) (ht : TruthAt w at_ truthTwo) (he : EntsAt w al comeEx) :
    Calls Try.prog 52 #[.agg #[.slice a 2 c, .slice ar 2 cr, .int .i64 5], .slice at_ 2 ct, .slice al 1 cl] w fun e w' => e = .returned (.bool false) ∧ Below w.heap.size w w' := by
  exact prove_eq a c ar cr twoP at_ truthTwo 2 ct al comeEx cl w false (Lib.hid come_prove) (Lib.hid (by rw [truthTwo_lit]; rfl)) hs hr (Lib.hid two_small) ht (Lib.hid truthTwo_small) he (by decide)
theorem exProve3 (a : Option Addr) (c : Nat) (ar : Option Addr) (cr : Nat) (at_ : Option Addr) (ct : Nat) (al : Option Addr) (cl : Nat) (w : World) (hs : IntsAt w a twoP.sends) (hr : RoutesAt w ar twoP.routes) (ht : TruthAt w at_ []) (he : EntsAt w al []) :
    Calls Try.prog 52 #[.agg #[.slice a 2 c, .slice ar 2 cr, .int .i64 5], .slice at_ 0 ct, .slice al 0 cl] w fun e w' => e = .returned (.bool false) ∧ Below w.heap.size w w' := by
  exact prove_eq a c ar cr twoP at_ [] 0 ct al [] cl w false (Lib.hid none_prove) (Lib.hid rfl) hs hr (Lib.hid two_small) ht (Lib.hid ⟨by decide, by decide, by decide⟩) he (by decide)
theorem slow_small : PostSmall slowP := ⟨by decide, by decide, by decide, by decide⟩
theorem lost_small : PostSmall lostP := ⟨by decide, by decide, by decide, by decide⟩
theorem exLeastS (a : Option Addr) (c : Nat) (ar : Option Addr) (cr : Nat) (w : World) (hs : IntsAt w a slowP.sends) (hr : RoutesAt w ar slowP.routes) :
    Calls Try.prog 34 #[.agg #[.slice a 1 c, .slice ar 2 cr, .int .i64 5]] w fun e w' => e = .returned (.tuple #[.int .i64 18, .int .i64 0]) ∧ Below w.heap.size w w' := by
  have := Least_any a c ar cr slowP w hs hr slow_small
  rw [slow_least.1, slow_least.2] at this
  exact this
theorem exLeastL (a : Option Addr) (c : Nat) (ar : Option Addr) (cr : Nat) (w : World) (hs : IntsAt w a lostP.sends) (hr : RoutesAt w ar lostP.routes) :
    Calls Try.prog 34 #[.agg #[.slice a 2 c, .slice ar 1 cr, .int .i64 5]] w fun e w' => e = .returned (.tuple #[.int .i64 0, .int .i64 9]) ∧ Below w.heap.size w w' := by
  have := Least_any a c ar cr lostP w hs hr lost_small
  rw [lost_least.2, lost_least.1] at this
  exact this
theorem exPlay1 (a : Option Addr) (c : Nat) (ar : Option Addr) (cr : Nat) (at_ : Option Addr) (ct : Nat) (w : World) (hs : IntsAt w a twoP.sends) (hr : RoutesAt w ar twoP.routes) (ht : TruthAt w at_ tEx1) :
    Calls Try.prog 22 #[.agg #[.slice a 2 c, .slice ar 2 cr, .int .i64 5], .slice at_ 2 ct] w fun e w' => (∃ a c, e = .returned (.tuple #[.slice a 0 c, .int .i64 2])) ∧ Below w.heap.size w w' := by
  have := Play_any a c ar cr twoP at_ ct tEx1 w hs hr two_small ht ⟨by decide, by decide, by decide⟩
  rw [t1_play.1, t1_play.2] at this
  refine this.mono ?_
  rintro e w' ⟨⟨a, c, h, _⟩, hb⟩
  exact ⟨⟨a, c, h⟩, hb⟩
theorem exPlay2 (a : Option Addr) (c : Nat) (ar : Option Addr) (cr : Nat) (at_ : Option Addr) (ct : Nat) (w : World) (hs : IntsAt w a twoP.sends) (hr : RoutesAt w ar twoP.routes) (ht : TruthAt w at_ tEx2) :
    Calls Try.prog 22 #[.agg #[.slice a 2 c, .slice ar 2 cr, .int .i64 5], .slice at_ 2 ct] w fun e w' => (∃ a c, e = .returned (.tuple #[.slice a 0 c, .int .i64 11])) ∧ Below w.heap.size w w' := by
  have := Play_any a c ar cr twoP at_ ct tEx2 w hs hr two_small ht ⟨by decide, by decide, by decide⟩
  rw [t2_play.1, t2_play.2] at this
  refine this.mono ?_
  rintro e w' ⟨⟨a, c, h, _⟩, hb⟩
  exact ⟨⟨a, c, h⟩, hb⟩
theorem exOddF (a : Option Addr) (c : Nat) (ar : Option Addr) (cr : Nat) (al : Option Addr) (cl : Nat) (w : World) (hs : IntsAt w a twoP.sends) (hr : RoutesAt w ar twoP.routes) (he : EntsAt w al farEx) :
    Calls Try.prog 40 #[.agg #[.slice a 2 c, .slice ar 2 cr, .int .i64 5], .slice al 1 cl] w fun e w' => (∃ a c, e = .returned (.tuple #[.slice a 0 c, .int .i64 2])) ∧ Below w.heap.size w w' := by
  have := Odd_any a c ar cr twoP al farEx cl w hs hr two_small he (by decide)
  rw [far_odd.1, far_odd.2] at this
  refine this.mono ?_
  rintro e w' ⟨⟨a, c, h, _⟩, hb⟩
  exact ⟨⟨a, c, h⟩, hb⟩
theorem exOddN (a : Option Addr) (c : Nat) (ar : Option Addr) (cr : Nat) (al : Option Addr) (cl : Nat) (w : World) (hs : IntsAt w a twoP.sends) (hr : RoutesAt w ar twoP.routes) (he : EntsAt w al nineEx) :
    Calls Try.prog 40 #[.agg #[.slice a 2 c, .slice ar 2 cr, .int .i64 5], .slice al 9 cl] w fun e w' => (∃ a c, e = .returned (.tuple #[.slice a 0 c, .int .i64 3])) ∧ Below w.heap.size w w' := by
  have := Odd_any a c ar cr twoP al nineEx cl w hs hr two_small he (by decide)
  rw [nine_odd.1, nine_odd.2] at this
  refine this.mono ?_
  rintro e w' ⟨⟨a, c, h, _⟩, hb⟩
  exact ⟨⟨a, c, h⟩, hb⟩
theorem exChk_many (a : Option Addr) (c : Nat) (ar : Option Addr) (cr : Nat) (w : World) (hs : IntsAt w a manyP.sends) (hr : RoutesAt w ar manyP.routes) :
    Calls Try.prog 20 #[.agg #[.slice a 5 c, .slice ar 2 cr, .int .i64 5]] w fun e w' => e = .returned (.int .i64 3) ∧ Below w.heap.size w w' := by
  have := checkPost_any a c ar cr manyP w hs hr ⟨by decide, by decide, by decide, by decide⟩
  rw [many_err] at this
  exact this
theorem exChk_legs (a : Option Addr) (c : Nat) (ar : Option Addr) (cr : Nat) (w : World) (hs : IntsAt w a legsP.sends) (hr : RoutesAt w ar legsP.routes) :
    Calls Try.prog 20 #[.agg #[.slice a 2 c, .slice ar 2 cr, .int .i64 5]] w fun e w' => e = .returned (.int .i64 1) ∧ Below w.heap.size w w' := by
  have := checkPost_any a c ar cr legsP w hs hr ⟨by decide, by decide, by decide, by decide⟩
  rw [legs_err] at this
  exact this
theorem exChk_same (a : Option Addr) (c : Nat) (ar : Option Addr) (cr : Nat) (w : World) (hs : IntsAt w a sameP.sends) (hr : RoutesAt w ar sameP.routes) :
    Calls Try.prog 20 #[.agg #[.slice a 2 c, .slice ar 2 cr, .int .i64 5]] w fun e w' => e = .returned (.int .i64 1) ∧ Below w.heap.size w w' := by
  have := checkPost_any a c ar cr sameP w hs hr ⟨by decide, by decide, by decide, by decide⟩
  rw [same_err] at this
  exact this
theorem exChk_late (a : Option Addr) (c : Nat) (ar : Option Addr) (cr : Nat) (w : World) (hs : IntsAt w a lateP.sends) (hr : RoutesAt w ar lateP.routes) :
    Calls Try.prog 20 #[.agg #[.slice a 2 c, .slice ar 2 cr, .int .i64 31]] w fun e w' => e = .returned (.int .i64 1) ∧ Below w.heap.size w w' := by
  have := checkPost_any a c ar cr lateP w hs hr ⟨by decide, by decide, by decide, by decide⟩
  rw [late_err] at this
  exact this
theorem exChk_early (a : Option Addr) (c : Nat) (ar : Option Addr) (cr : Nat) (w : World) (hs : IntsAt w a earlyP.sends) (hr : RoutesAt w ar earlyP.routes) :
    Calls Try.prog 20 #[.agg #[.slice a 2 c, .slice ar 2 cr, .int .i64 5]] w fun e w' => e = .returned (.int .i64 1) ∧ Below w.heap.size w w' := by
  have := checkPost_any a c ar cr earlyP w hs hr ⟨by decide, by decide, by decide, by decide⟩
  rw [early_err] at this
  exact this
theorem exChk_zero (a : Option Addr) (c : Nat) (ar : Option Addr) (cr : Nat) (w : World) (hs : IntsAt w a zeroP.sends) (hr : RoutesAt w ar zeroP.routes) :
    Calls Try.prog 20 #[.agg #[.slice a 0 c, .slice ar 0 cr, .int .i64 0]] w fun e w' => e = .returned (.int .i64 1) ∧ Below w.heap.size w w' := by
  have := checkPost_any a c ar cr zeroP w hs hr ⟨by decide, by decide, by decide, by decide⟩
  rw [zero_err] at this
  exact this
end Go.Proofs.Ytfclemnkcpadpaa
