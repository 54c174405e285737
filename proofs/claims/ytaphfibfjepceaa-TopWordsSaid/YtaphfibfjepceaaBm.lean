/- pay: the reference's Ends, Reach -/
import Derived.Test.YtaphfibfjepceaaBi
import Derived.Test.YtaphfibfjepceaaBa
import Derived.Test.YtaphfibfjepceaaAr
namespace Go.Proofs.Ytaphfibfjepceaa
set_option linter.unusedVariables false
set_option linter.unusedSimpArgs false
set_option linter.unnecessarySimpa false
open Go.RowKit Go.Flow Go.Shelf

/-! ### plain: the ends of a change -/
theorem chF_mono {rate keeps : Int} (hr : 0 ≤ rate) (hk : 0 ≤ keeps ∧ keeps ≤ 100) (d : Dis) (h5 : 1 ≤ d.passed.length ∧ d.passed.length ≤ 5) (s : Int) {n m : Int} (hm : n ≤ m) :
    (d.payer ≠ s → chF rate keeps d n s ≤ chF rate keeps d m s) ∧ (d.payer = s → chF rate keeps d m s ≤ chF rate keeps d n s) := by
  have hP : n * rate ≤ m * rate := Int.mul_le_mul_of_nonneg_right hm hr
  unfold chF
  by_cases hi : 0 ≤ idxF d.passed s
  · have hlt : (idxF d.passed s).toNat < d.passed.length := by have := idxF_bd d.passed s; omega
    have h1 := shares_mono hr hk h5 hm _ hlt
    have h2 := shares_price hr hk h5 hm _ hlt
    rw [if_pos hi, if_pos hi]
    constructor
    · intro h; rw [if_neg h, if_neg h]; omega
    · intro h; rw [if_pos h, if_pos h]; omega
  · rw [if_neg hi, if_neg hi]
    constructor
    · intro h; rw [if_neg h, if_neg h]; omega
    · intro h; rw [if_pos h, if_pos h]; omega
/-- All words are tried: the first with which the change is at an end. -/
def endsP (f : Int → Int) (high : Bool) (lo : Int) : Nat → Int × Int
  | 0 => (lo, f lo)
  | k + 1 => if (if high then (endsP f high lo k).2 < f (lo + ((k + 1 : Nat) : Int)) else f (lo + ((k + 1 : Nat) : Int)) < (endsP f high lo k).2) then (lo + ((k + 1 : Nat) : Int), f (lo + ((k + 1 : Nat) : Int))) else endsP f high lo k
/-- No number from lo on, of k more, has a change beyond b. -/
def Beyond (f : Int → Int) (high : Bool) (lo : Int) (k : Nat) (b : Int) : Prop := ∀ j : Nat, j ≤ k → if high then f (lo + (j : Int)) ≤ b else b ≤ f (lo + (j : Int))
theorem endsP_spec (f : Int → Int) (high : Bool) (lo : Int) : ∀ k : Nat, ∃ j : Nat, j ≤ k ∧ (endsP f high lo k).1 = lo + (j : Int) ∧ (endsP f high lo k).2 = f (lo + (j : Int)) ∧ Beyond f high lo k (f (lo + (j : Int))) ∧ ∀ i : Nat, i < j → f (lo + (i : Int)) ≠ f (lo + (j : Int))
  | 0 => ⟨0, Nat.le_refl _, by simp [endsP], by simp [endsP], fun j hj => (by obtain rfl : j = 0 := (by omega); cases high <;> simp), fun i hi => by omega⟩
  | k + 1 => by
    obtain ⟨j, h1, h2, h3, h4, h5⟩ := endsP_spec f high lo k
    rw [endsP, h3]
    by_cases h : (if high then f (lo + (j : Int)) < f (lo + ((k + 1 : Nat) : Int)) else f (lo + ((k + 1 : Nat) : Int)) < f (lo + (j : Int)))
    · rw [if_pos h]
      refine ⟨k + 1, Nat.le_refl _, rfl, rfl, fun i hi => ?_, fun i hi e => ?_⟩
      · have hb := h4 i
        by_cases e : i = k + 1
        · subst e; cases high <;> simp
        · have hb := hb (by omega)
          cases high <;> simp only [Bool.false_eq_true, if_false, if_true] at h hb ⊢ <;> omega
      · have hb := h4 i (by omega)
        cases high <;> simp only [Bool.false_eq_true, if_false, if_true] at h hb <;> omega
    · rw [if_neg h]
      refine ⟨j, by omega, h2, h3, fun i hi => ?_, h5⟩
      by_cases e : i = k + 1
      · subst e; cases high <;> simp only [Bool.false_eq_true, if_false, if_true] at h ⊢ <;> omega
      · exact h4 i (by omega)
theorem firstN_is {f : Int → Int} {b : Int} : ∀ (K : Nat) (lo : Int) (j : Nat), j ≤ K → (∀ i : Nat, i < j → f (lo + (i : Int)) ≠ b) → f (lo + (j : Int)) = b → firstN f b K lo = lo + (j : Int)
  | 0, lo, j, hj, _, _ => by obtain rfl : j = 0 := (by omega); simp [firstN]
  | K + 1, lo, 0, _, _, h => by rw [firstN, if_pos (by simpa using h)]; simp
  | K + 1, lo, j + 1, hj, hn, h => by
    have h0 := hn 0 (by omega)
    rw [firstN, if_neg (by simpa using h0), firstN_is K (lo + 1) j (by omega) (fun i hi => by
      have := hn (i + 1) (by omega)
      rwa [show lo + 1 + (i : Int) = lo + ((i + 1 : Nat) : Int) by push_cast; omega]) (by rw [← h]; congr 1; push_cast; omega)]
    push_cast; omega
theorem endsP_is {f : Int → Int} {high : Bool} {lo x : Int} {k : Nat} (hx : lo ≤ x ∧ x ≤ lo + (k : Int)) (hb : Beyond f high lo k (f x)) : endsP f high lo k = (firstN f (f x) k lo, f x) := by
  obtain ⟨j, h1, h2, h3, h4, h5⟩ := endsP_spec f high lo k
  have h6 := hb j h1
  have h7 := h4 (x - lo).toNat (by omega)
  rw [show lo + (((x - lo).toNat : Nat) : Int) = x by omega] at h7
  have e : f (lo + (j : Int)) = f x := by cases high <;> simp only [Bool.false_eq_true, if_false, if_true] at h6 h7 <;> omega
  rw [e] at h3 h5
  rw [firstN_is k lo j h1 h5 e]
  exact Prod.ext h2 h3
theorem end_beyond {rate keeps : Int} (hr : 0 ≤ rate) (hk : 0 ≤ keeps ∧ keeps ≤ 100) (d : Dis) (h5 : 1 ≤ d.passed.length ∧ d.passed.length ≤ 5) (hle : d.lo ≤ d.hi) (s : Int) (high : Bool) :
    Beyond (fun n => chF rate keeps d n s) high d.lo (d.hi - d.lo).toNat (chF rate keeps d (endX high d.lo d.hi (d.payer == s)) s) := by
  intro j hj
  have hm := fun {n m : Int} (h : n ≤ m) => chF_mono hr hk d h5 s h
  have hlo := hm (show d.lo ≤ d.lo + (j : Int) by omega)
  have hhi := hm (show d.lo + (j : Int) ≤ d.hi by omega)
  by_cases hp : d.payer = s
  · have e : (d.payer == s) = true := by simpa using hp
    cases high
    · simp only [endX, lowX, lowF, e, if_true, Bool.false_eq_true, if_false]; exact hhi.2 hp
    · simp only [endX, highX, lowF, e, if_true, Bool.not_true, Bool.false_eq_true, if_false]; exact hlo.2 hp
  · have e : (d.payer == s) = false := by simpa using hp
    cases high
    · simp only [endX, lowX, lowF, e, if_true, Bool.false_eq_true, if_false]; exact hlo.1 hp
    · simp only [endX, highX, lowF, e, if_true, Bool.not_false, Bool.false_eq_true, if_false]; exact hhi.1 hp
theorem endX_in (high : Bool) {lo hi : Int} (b : Bool) (h : lo ≤ hi) : lo ≤ endX high lo hi b ∧ endX high lo hi b ≤ hi := by
  cases high
  · exact lowX_in lo hi b h
  · exact highX_in lo hi b h
/-- The reference's end is the program's. -/
theorem ends_eq {rate keeps : Int} (hr : 0 ≤ rate) (hk : 0 ≤ keeps ∧ keeps ≤ 100) (d : Dis) (h5 : 1 ≤ d.passed.length ∧ d.passed.length ≤ 5) (hle : d.lo ≤ d.hi) (s : Int) (high : Bool) :
    endsP (fun n => chF rate keeps d n s) high d.lo (d.hi - d.lo).toNat = (reachD rate keeps (endX high) s d, chF rate keeps d (endX high d.lo d.hi (d.payer == s)) s) :=
  endsP_is (f := fun n => chF rate keeps d n s) (x := endX high d.lo d.hi (d.payer == s)) (by have := endX_in high (d.payer == s) hle; omega) (end_beyond hr hk d h5 hle s high)
theorem reach_at {rate keeps : Int} (hr : 0 ≤ rate) (hk : 0 ≤ keeps ∧ keeps ≤ 100) (d : Dis) (h5 : 1 ≤ d.passed.length ∧ d.passed.length ≤ 5) (hle : d.lo ≤ d.hi) (s : Int) (high : Bool) :
    chF rate keeps d (reachD rate keeps (endX high) s d) s = chF rate keeps d (endX high d.lo d.hi (d.payer == s)) s ∧ d.lo ≤ reachD rate keeps (endX high) s d ∧ reachD rate keeps (endX high) s d ≤ d.hi := by
  obtain ⟨j, h1, h2, h3, h4, h5'⟩ := endsP_spec (fun n => chF rate keeps d n s) high d.lo (d.hi - d.lo).toNat
  rw [ends_eq hr hk d h5 hle s high] at h2 h3
  simp only at h2 h3
  rw [h2, h3]
  exact ⟨rfl, by omega, by omega⟩

/-- The address of a cell. -/
def CellV (j : Nat) (x : Value) (v : Value) (w : World) : Prop := ∃ g, v = .pointer (some ⟨g, j, none⟩) ∧ w.cell? ⟨g, j, none⟩ = some x
theorem CellV.kept {j : Nat} {x v : Value} {w w' : World} (h : CellV j x v w) (hb : Below w.heap.size w w') : CellV j x v w' := let ⟨g, h1, h2⟩ := h; ⟨g, h1, below_cell hb h2⟩
section
variable (st rate keeps : Int) (ds : List Dis) (ad : Option Addr) (cd : Nat) (s : Nat) (i : Nat) (high : Bool) (w : World) (hd : DisAt w ad ds) (h0 : accErr ⟨st, rate, keeps, ds⟩ = 0) (hs : (s : Int) < st) (hi : i < ds.length)
include hd h0 hs hi
end
end Go.Proofs.Ytaphfibfjepceaa
