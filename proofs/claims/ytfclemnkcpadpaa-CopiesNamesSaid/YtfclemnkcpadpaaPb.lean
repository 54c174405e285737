/- copies, plain: the chapter's post -/
import Derived.Test.YtfclemnkcpadpaaKz
import Derived.Test.YtfclemnkcpadpaaKr
namespace Go.Proofs.Ytfclemnkcpadpaa
set_option linter.unusedVariables false
set_option linter.unusedSimpArgs false
set_option linter.unnecessarySimpa false
open Go.RowKit Go.Flow

def twoP : Post := ⟨[0, 2], [⟨[⟨1, 3, []⟩], true⟩, ⟨[⟨1, 1, [(1, 4)]⟩, ⟨1, 2, []⟩], false⟩], 5⟩
/-- Sets as lists. -/
def inL (L : List Nat) : Hrs := fun n => decide (n ∈ L)
def legL (l : Leg) (L : List Nat) : List Nat := L.flatMap fun (h : Nat) => (List.range (l.hi - l.lo + 1).toNat).map fun (n : Nat) => (awk l ((h : Int) + l.lo + (n : Int))).toNat
theorem legHr_list (l : Leg) (L : List Nat) (hL : ∀ h ∈ L, h < 101) (hp : 0 ≤ l.lo) : legHr l (inL L) = inL (legL l L) := by
  funext m
  unfold legHr inL legL
  rw [Bool.eq_iff_iff]
  simp only [List.any_eq_true, List.mem_range, Bool.and_eq_true, decide_eq_true_eq, List.mem_flatMap, List.mem_map]
  constructor
  · rintro ⟨h, _, h2, n, hn, e⟩
    exact ⟨h, h2, n, hn, by omega⟩
  · rintro ⟨h, h2, n, hn, e⟩
    have := awk_bd l (h + l.lo + n)
    exact ⟨h, hL h h2, h2, n, hn, by omega⟩
theorem inL_eq {A B : List Nat} (h1 : ∀ x ∈ A, x ∈ B) (h2 : ∀ x ∈ B, x ∈ A) : inL A = inL B := by
  funext n
  unfold inL
  rw [Bool.eq_iff_iff]
  simp only [decide_eq_true_eq]
  exact ⟨h1 n, h2 n⟩
theorem oneHr_list (s : Nat) : oneHr (s : Int) = inL [s] := by
  funext n
  unfold oneHr inL
  rw [Bool.eq_iff_iff]
  simp only [decide_eq_true_eq, List.mem_singleton]
  omega
theorem two_hr00 : hrF twoP 0 0 = inL [1, 2, 3] := by
  show routeHr [⟨1, 3, []⟩] ((0 : Nat) : Int) = _
  unfold routeHr
  rw [oneHr_list]
  simp only [List.foldl_cons, List.foldl_nil]
  rw [legHr_list _ _ (by decide) (by decide)]
  exact inL_eq (by decide +kernel) (by decide +kernel)
theorem two_hr01 : hrF twoP 0 1 = inL [6, 7] := by
  show routeHr [⟨1, 1, [(1, 4)]⟩, ⟨1, 2, []⟩] ((0 : Nat) : Int) = _
  unfold routeHr
  rw [oneHr_list]
  simp only [List.foldl_cons, List.foldl_nil]
  rw [legHr_list _ _ (by decide) (by decide), legHr_list _ _ (by decide +kernel) (by decide)]
  exact inL_eq (by decide +kernel) (by decide +kernel)
theorem two_hr10 : hrF twoP 1 0 = inL [3, 4, 5] := by
  show routeHr [⟨1, 3, []⟩] ((2 : Nat) : Int) = _
  unfold routeHr
  rw [oneHr_list]
  simp only [List.foldl_cons, List.foldl_nil]
  rw [legHr_list _ _ (by decide) (by decide)]
  exact inL_eq (by decide +kernel) (by decide +kernel)
theorem two_hr11 : hrF twoP 1 1 = inL [6, 7] := by
  show routeHr [⟨1, 1, [(1, 4)]⟩, ⟨1, 2, []⟩] ((2 : Nat) : Int) = _
  unfold routeHr
  rw [oneHr_list]
  simp only [List.foldl_cons, List.foldl_nil]
  rw [legHr_list _ _ (by decide) (by decide), legHr_list _ _ (by decide +kernel) (by decide)]
  exact inL_eq (by decide +kernel) (by decide +kernel)
theorem two_ok : postErr twoP = 0 := by decide +kernel
theorem two_hours : hoursOut twoP 0 1 = [6, 7] := by
  unfold hoursOut
  rw [if_pos (by decide +kernel)]
  show hrList (hrF twoP 0 1) = _
  rw [two_hr01]
  decide +kernel
theorem two_e0 : earliestF twoP 0 = 1 := by
  unfold earliestF
  rw [show twoP.routes.length = 2 from rfl, earN_succ, earN_succ, two_hr00, two_hr01]
  decide +kernel
theorem two_e1 : earliestF twoP 1 = 3 := by
  unfold earliestF
  rw [show twoP.routes.length = 2 from rfl, earN_succ, earN_succ, two_hr10, two_hr11]
  decide +kernel
theorem two_l0 : latestF twoP 0 = 7 := by
  unfold latestF
  rw [show twoP.routes.length = 2 from rfl, latN_succ, latN_succ, two_hr00, two_hr01]
  decide +kernel
theorem two_l1 : latestF twoP 1 = 7 := by
  unfold latestF
  rw [show twoP.routes.length = 2 from rfl, latN_succ, latN_succ, two_hr10, two_hr11]
  decide +kernel
theorem two_spans : spansOut twoP = [(1, 5), (3, 7)] := by
  unfold spansOut
  rw [if_pos two_ok, show twoP.sends.length = 2 from rfl, spansF_succ, spansF_succ]
  unfold spanAt
  simp only [finN_succ, two_e0, two_e1, two_l0, two_l1]
  decide +kernel
theorem two_sure : sureOut twoP = [1] := by
  unfold sureOut
  rw [if_pos two_ok, show twoP.sends.length = 2 from rfl, sureF_succ, sureF_succ]
  unfold sureB
  rw [two_l0, two_l1]
  decide +kernel
theorem two_allSure (x : Nat) : allSure twoP x = decide (7 ≤ x) := by
  unfold allSure
  rw [show twoP.sends.length = 2 from rfl, Bool.eq_iff_iff]
  simp only [List.all_eq_true, List.mem_range, decide_eq_true_eq]
  constructor
  · intro h
    have := h 0 (by omega)
    rw [sureB_pat, two_l0] at this
    simp only [decide_eq_true_eq] at this
    have e : twoP.sends.getD 0 0 = 0 := rfl
    omega
  · intro h i hi
    rw [sureB_pat]
    simp only [decide_eq_true_eq]
    have e0 : twoP.sends.getD 0 0 = 0 := rfl
    have e1 : twoP.sends.getD 1 0 = 2 := rfl
    match i, hi with
    | 0, _ => rw [two_l0]; omega
    | 1, _ => rw [two_l1]; omega
theorem two_leastF : leastF twoP = some 7 := by
  unfold leastF
  rw [show allSure twoP = fun x => decide (7 ≤ x) from funext two_allSure]
  decide +kernel
theorem two_least : leastOut twoP = 7 ∧ leastErr twoP = 0 := by
  unfold leastOut leastErr
  rw [two_leastF, two_ok]
  decide +kernel

/-! ### search over a table -/
def nextC (C : Nat → Nat → Bool) (p : Post) (l : List Ent) : Nat → Nat → Int → Option (List Int)
  | 0, _, _ => some []
  | r + 1, i, f => (List.range 102).findSome? fun h => if C i h && fitsB l (recvF p i f h) i then (nextC C p l r (i + 1) (recvF p i f h).at_).map ((h : Int) :: ·) else none
theorem findSome_congr {α β : Type} {f g : α → Option β} : ∀ (l : List α), (∀ x ∈ l, f x = g x) → l.findSome? f = l.findSome? g
  | [], _ => rfl
  | a :: l, h => by
    rw [List.findSome?_cons, List.findSome?_cons, h a (by simp), findSome_congr l (fun x hx => h x (by simp [hx]))]
theorem nextC_eq {C : Nat → Nat → Bool} {p : Post} (h : ∀ i x, i < p.sends.length → x < 102 → canB p i x = C i x) (l : List Ent) : ∀ (r i : Nat) (f : Int), i + r = p.sends.length → nextR p l r i f = nextC C p l r i f
  | 0, _, _, _ => rfl
  | r + 1, i, f, hi => by
    unfold nextR nextC
    refine findSome_congr _ ?_
    intro x hx
    rw [h i x (by omega) (by simpa using hx), nextC_eq h l r (i + 1) _ (by omega)]
def leaveC (S : List Ent → Bool) (l : List Ent) : Nat → Nat → List Int → List Ent → Nat → Option (List Int)
  | 0, _, out, kept, m => if 0 < m then none else if S kept then some out else none
  | r + 1, i, out, kept, m => if r + 1 < m then none else
    match (if 0 < m then leaveC S l r (i + 1) (out ++ [(i : Int)]) kept (m - 1) else none) with
    | some z => some z
    | none => leaveC S l r (i + 1) out (kept ++ [l.getD i ⟨0, 0, false⟩]) m
theorem leaveC_eq {S : List Ent → Bool} {p : Post} (h : ∀ kept, (searchF p kept).isSome = S kept) (l : List Ent) : ∀ (r i : Nat) (out : List Int) (kept : List Ent) (m : Nat), leaveR p l r i out kept m = leaveC S l r i out kept m
  | 0, i, out, kept, m => by unfold leaveR leaveC; rw [h]
  | r + 1, i, out, kept, m => by
    unfold leaveR leaveC
    rw [leaveC_eq h l r, leaveC_eq h l r]
    split
    · rfl
    · cases (if 0 < m then leaveC S l r (i + 1) (out ++ [(i : Int)]) kept (m - 1) else none) <;> rfl
def twoC (i h : Nat) : Bool := if i = 0 then decide (h ∈ [1, 2, 3, 6, 7]) else decide (h ∈ [3, 4, 5, 6, 7])
theorem two_bad0 (i h : Nat) : badK twoP i h 0 = false := rfl
theorem two_can (i x : Nat) (hi : i < twoP.sends.length) (hx : x < 102) : canB twoP i x = twoC i x := by
  have hl : ∀ A : List Nat, (fun n => decide (n ∈ A)) = inL A := fun _ => rfl
  have hi : i < 2 := hi
  unfold canB someN
  rw [show twoP.routes.length = 2 from rfl]
  simp only [List.range_succ, List.range_zero, List.nil_append, List.cons_append, List.all_cons, List.all_nil, List.any_cons, List.any_nil, two_bad0]
  unfold badK
  match i, hi with
  | 0, _ =>
    rw [two_hr00, two_hr01, show lossyK twoP 1 = false from rfl, show lastH (inL [6, 7]) = 7 by decide +kernel]
    unfold twoC inL
    revert x; decide +kernel
  | 1, _ =>
    rw [two_hr10, two_hr11, show lossyK twoP 1 = false from rfl, show lastH (inL [6, 7]) = 7 by decide +kernel]
    unfold twoC inL
    revert x; decide +kernel
theorem two_search (l : List Ent) : searchF twoP l = nextC twoC twoP l 2 0 0 := nextC_eq two_can l 2 0 0 rfl
def oddEx : List Ent := [⟨0, 2, false⟩, ⟨1, 2, false⟩]
theorem two_odd : oddOut twoP oddEx = [1] := by
  unfold oddOut
  rw [if_pos (by decide +kernel)]
  unfold oddF
  rw [show oddM twoP oddEx = fun m => leaveC (fun kept => (nextC twoC twoP kept 2 0 0).isSome) oddEx oddEx.length 0 [] [] m from funext fun m => leaveC_eq (fun kept => by rw [two_search]) _ _ _ _ _ _]
  decide +kernel
theorem two_booked : bookErr twoP oddEx = 0 := by decide +kernel
end Go.Proofs.Ytfclemnkcpadpaa
