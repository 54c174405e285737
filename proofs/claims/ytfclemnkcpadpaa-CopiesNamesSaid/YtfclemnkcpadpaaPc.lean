/- copies, plain: CopiesLeast -/
import Derived.Test.YtfclemnkcpadpaaKr
namespace Go.Proofs.Ytfclemnkcpadpaa
set_option linter.unusedVariables false
set_option linter.unusedSimpArgs false
set_option linter.unnecessarySimpa false
open Go.RowKit Go.Flow

theorem postErr_pat {p : Post} (h0 : postErr p = 0) {x : Int} (h1 : 0 ≤ x) (h2 : x ≤ 30) : postErr (withPat p x) = 0 := by
  obtain ⟨a1, a2, a3, a4, a5, a6, a7, a8, a9⟩ := postErr_ok h0
  have hx : inR x (0, 30) = true := inR_iff.2 ⟨h1, h2⟩
  unfold postErr withPat
  rw [if_neg, if_neg]
  · simp only [a4, a5, a7, a8, a9, hx]
    simp
  · simp only [a3]
    simp
    omega
theorem sureF_le (p : Post) : (sureF p p.sends.length).length ≤ p.sends.length := sureF_len p _
theorem sureF_all (p : Post) : (sureF p p.sends.length).length = p.sends.length ↔ ∀ i, i < p.sends.length → sureB p i = true := by
  unfold sureF
  rw [List.length_map]
  have := List.length_filter_eq_length_iff (p := sureB p) (l := List.range p.sends.length)
  rw [List.length_range] at this
  rw [this]
  simp
theorem allSure_iff (p : Post) (x : Nat) : allSure p x = true ↔ (sureF (withPat p x) p.sends.length).length = p.sends.length := by
  have := sureF_all (withPat p x)
  rw [show (withPat p x).sends = p.sends from rfl] at this
  rw [this]
  unfold allSure
  simp
theorem allSure_mono {p : Post} {x y : Nat} (h : allSure p x = true) (hxy : x ≤ y) : allSure p y = true := by
  unfold allSure at h ⊢
  rw [List.all_eq_true] at h ⊢
  intro i hi
  have := h i hi
  rw [sureB_pat] at this ⊢
  simp only [decide_eq_true_eq] at this ⊢
  omega
theorem sureOut_pat {p : Post} (h0 : postErr p = 0) {x : Int} (h1 : 0 ≤ x) (h2 : x ≤ 30) : sureOut (withPat p x) = sureF (withPat p x) p.sends.length := by
  unfold sureOut
  rw [if_pos (postErr_pat h0 h1 h2)]
  rfl
/-- No patience: never all. -/
theorem least_none {p : Post} (h0 : postErr p = 0) (h : leastErr p ≠ 0) {x : Nat} (hx : x ≤ 30) : leastErr p = 9 ∧ (sureOut (withPat p x)).length < p.sends.length := by
  have e : leastErr p = if (leastF p).isSome then 0 else 9 := by unfold leastErr; rw [if_neg (by simpa using h0)]
  rw [e] at h ⊢
  cases hl : leastF p with
  | some k => rw [hl] at h; simp at h
  | none =>
    refine ⟨by simp, ?_⟩
    unfold leastF at hl
    rw [List.find?_eq_none] at hl
    have h1 := hl x (by simp; omega)
    rw [allSure_iff] at h1
    rw [sureOut_pat h0 (by omega) (by omega)]
    have := sureF_len (withPat p x) p.sends.length
    omega
/-- The smallest one: all; and with another one all if it is not smaller. -/
theorem least_some {p : Post} (h0 : postErr p = 0) (h : leastErr p = 0) {x : Nat} (hx : x ≤ 30) : ∃ m : Nat, leastOut p = (m : Int) ∧ m ≤ 30 ∧ (sureOut (withPat p (m : Int))).length = p.sends.length ∧ ((sureOut (withPat p (x : Int))).length = p.sends.length ↔ m ≤ x) := by
  have e : leastErr p = if (leastF p).isSome then 0 else 9 := by unfold leastErr; rw [if_neg (by simpa using h0)]
  have e2 : leastOut p = ((leastF p).getD 0 : Nat) := by unfold leastOut; rw [if_neg (by simpa using h0)]
  rw [e] at h
  cases hl : leastF p with
  | none => rw [hl] at h; simp at h
  | some m =>
    rw [hl] at e2
    unfold leastF at hl
    rw [List.find?_range_eq_some] at hl
    obtain ⟨g1, g2, g3⟩ := hl
    have g2' : m < 31 := by simpa using g2
    refine ⟨m, by rw [e2]; rfl, by omega, ?_, ?_⟩
    · rw [sureOut_pat h0 (by omega) (by omega)]
      exact (allSure_iff p m).1 g1
    · rw [sureOut_pat h0 (by omega) (by omega), ← allSure_iff]
      constructor
      · intro hx
        rcases Nat.lt_or_ge x m with hlt | hge
        · have := g3 x hlt
          rw [hx] at this
          simp at this
        · exact hge
      · exact fun hm => allSure_mono g1 hm
end Go.Proofs.Ytfclemnkcpadpaa
