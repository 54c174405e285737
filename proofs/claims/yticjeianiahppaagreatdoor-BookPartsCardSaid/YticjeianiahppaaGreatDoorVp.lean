/- book, laws: the words and the numbers of a line, as the reference has them (plain) -/
import Derived.Test.YticjeianiahppaaGreatDoorBS
namespace Go.Proofs.YticjeianiahppaaGreatDoor
set_option linter.unusedVariables false
set_option linter.unusedSimpArgs false
set_option linter.unnecessarySimpa false
open Go
theorem spl_ne (p : List UInt8) : spl p ≠ [] := by
  cases p with
  | nil => simp [spl]
  | cons x p =>
    unfold spl
    split
    · simp
    · split <;> simp
theorem spl_sp (p : List UInt8) : spl (p ++ [32]) = spl p ++ [[]] := by
  induction p with
  | nil => rfl
  | cons x p ih =>
    rw [List.cons_append]
    by_cases hx : x = 32
    · subst hx; simp only [spl, if_pos, ih, List.cons_append]
    · obtain ⟨y, r, hy⟩ := List.exists_cons_of_ne_nil (spl_ne p)
      simp only [spl, if_neg hx, ih, hy, List.cons_append]
theorem spl_ch {b : UInt8} (hb : b ≠ 32) : ∀ (p : List UInt8) (d : List (List UInt8)) (c : List UInt8), spl p = d ++ [c] → spl (p ++ [b]) = d ++ [c ++ [b]]
  | [], d, c, h => by
    cases d with
    | nil => simp [spl] at h; subst h; simp [spl, hb]
    | cons y d => simp [spl] at h
  | x :: p, d, c, h => by
    rw [List.cons_append]
    by_cases hx : x = 32
    · subst hx
      simp only [spl, if_pos] at h ⊢
      cases d with
      | nil => simp at h; exact absurd h.2 (spl_ne p)
      | cons y d =>
        simp only [List.cons_append, List.cons.injEq] at h
        rw [spl_ch hb p d c h.2, ← h.1]; rfl
    · obtain ⟨y, r, hy⟩ := List.exists_cons_of_ne_nil (spl_ne p)
      simp only [spl, if_neg hx, hy] at h ⊢
      cases d with
      | nil =>
        simp only [List.nil_append, List.cons.injEq] at h
        obtain ⟨rfl, rfl⟩ := h
        rw [spl_ch hb p [] y (by rw [hy]; rfl)]; rfl
      | cons z d =>
        simp only [List.cons_append, List.cons.injEq] at h
        obtain ⟨rfl, rfl⟩ := h
        rw [spl_ch hb p (y :: d) c (by rw [hy]; rfl)]; rfl
end Go.Proofs.YticjeianiahppaaGreatDoor
