/- Plans: one more loss, a smaller number. -/
import Derived.Test.YtmplgcefhpobgaaMd
namespace Go.Proofs.Ytmplgcefhpobgaa
set_option linter.unusedVariables false
set_option linter.unusedSimpArgs false
set_option linter.unnecessarySimpa false
open Go.RowKit Go.Flow

theorem few_mono {F F' : Nat → Int} {m m' : Int} {nk : Nat} (h : ∀ s k, k < nk → 0 ≤ s.day → mayB (F' k) m' s k = true → mayB (F k) m s k = true) : ∀ (r : Nat) (s : Spot), 0 ≤ s.day → fewR F m nk r s ≤ fewR F' m' nk r s
  | 0, _, _ => Int.le_refl _
  | r + 1, s, hd => by
    obtain ⟨h1, h2⟩ := few_fold_le F m s (fewR F m nk r) (List.range nk) 1048576
    simp only [fewR]
    rcases few_fold_att F' m' s (fewR F' m' nk r) (List.range nk) 1048576 with h3 | ⟨k, hk, hm, h3⟩
    · omega
    · have h4 := h2 k hk (h s k (List.mem_range.1 hk) hd hm)
      have ih := few_mono h r (s.bump k) (by rw [bump_day]; omega)
      omega
theorem hadN_snoc (l : List (Int × Int)) (x : Int × Int) (key : Int) : hadN (l ++ [x]) key = hadStep key (hadN l key) x := by
  unfold hadN; rw [List.foldl_append]; rfl
theorem had_more (l : List (Int × Int)) (x : Int × Int) (key : Int) (hx : 0 ≤ x.2) (h : hadN l key ≠ -1) : hadN (l ++ [x]) key ≠ -1 ∧ hadN (l ++ [x]) key ≤ hadN l key := by
  rw [hadN_snoc]
  unfold hadStep
  split
  · rename_i h1
    rcases h1.2 with h2 | h2
    · exact absurd h2 h
    · exact ⟨by omega, by omega⟩
  · exact ⟨h, Int.le_refl _⟩
theorem may_more {l : List (Int × Int)} {x : Int × Int} (hx : 0 ≤ x.2) {m : Int} {s : Spot} {k : Nat} (h : mayB (hadN (l ++ [x]) k) m s k = true) : mayB (hadN l k) m s k = true := by
  unfold mayB at h ⊢
  simp only [Bool.not_eq_true', Bool.or_eq_false_iff, Bool.and_eq_false_iff, bne_eq_false_iff_eq, decide_eq_false_iff_not] at h ⊢
  refine ⟨?_, h.2⟩
  by_cases hn : hadN l k = -1
  · exact .inl hn
  · have := had_more l x k hx hn
    rcases h.1 with h1 | h1
    · exact absurd h1 this.1
    · exact .inr (by omega)
theorem may_less {f m m' : Int} (hm : m' ≤ m) {s : Spot} {k : Nat} (h : mayB f m' s k = true) : mayB f m s k = true := by
  unfold mayB at h ⊢
  simp only [Bool.not_eq_true', Bool.or_eq_false_iff, Bool.and_eq_false_iff, bne_eq_false_iff_eq, decide_eq_false_iff_not] at h ⊢
  exact ⟨h.1, by omega⟩
theorem least_more (nk nd : Nat) (l : List (Int × Int)) (x : Int × Int) (hx : 0 ≤ x.2) (m : Int) : planLeast nk nd l m ≤ planLeast nk nd (l ++ [x]) m :=
  few_mono (fun _ _ _ _ h => may_more hx h) nd spot0 (by decide)
theorem least_less (nk nd : Nat) (l : List (Int × Int)) (m m' : Int) (hm : m' ≤ m) : planLeast nk nd l m ≤ planLeast nk nd l m' :=
  few_mono (fun _ _ _ _ h => may_less hm h) nd spot0 (by decide)
theorem from_more (l : List (Int × Int)) (x : Int × Int) (key : Int) (d : Nat) (hx : 0 ≤ x.2) :
    (0 ≤ fromN l key d → 0 ≤ fromN (l ++ [x]) key d ∧ fromN (l ++ [x]) key d ≤ fromN l key d) ∧ (0 ≤ fromN (l ++ [x]) key d → (d : Int) ≤ fromN (l ++ [x]) key d) := by
  constructor
  · intro h
    by_cases hn : hadN l key = -1
    · unfold fromN at h; rw [if_pos hn] at h; omega
    · obtain ⟨h1, h2⟩ := had_more l x key hx hn
      unfold fromN
      rw [if_neg hn, if_neg h1]
      omega
  · intro h
    unfold fromN at h ⊢
    split
    · rename_i h1; rw [if_pos h1] at h; omega
    · omega
/-- The errors of a plan of valid losses. -/
theorem planErr_of {s wo : Int} {ks : List (Int × Int × Int)} {ds : List Int} {lost : List (Int × Int)} {most : Int} (h : lossErr s wo ks ds lost = 0) (h0 : 0 ≤ most) (h1 : most ≤ 8) :
    (1048576 ≤ planLeast ks.length ds.length lost most ∧ planErr s wo ks ds lost most = 10 ∧ planCh s wo ks ds lost most = 0) ∨
    (planLeast ks.length ds.length lost most < 1048576 ∧ planErr s wo ks ds lost most = 0 ∧ planCh s wo ks ds lost most = planLeast ks.length ds.length lost most) := by
  by_cases hf : 1048576 ≤ planLeast ks.length ds.length lost most
  · have e : planErr s wo ks ds lost most = 10 := by unfold planErr; rw [if_neg (by simp [h]), if_neg (by omega), if_pos hf]
    exact .inl ⟨hf, e, by unfold planCh; rw [if_neg (by rw [e]; decide)]⟩
  · have e : planErr s wo ks ds lost most = 0 := by unfold planErr; rw [if_neg (by simp [h]), if_neg (by omega), if_neg hf]
    exact .inr ⟨by omega, e, by unfold planCh; rw [if_pos e]⟩
/-- What CipherLost asks of three plans. -/
def LostFin (E F G n m k : Int) : Prop := (E = 10 ∧ F = 10 ∧ G = 10) ∨ (E = 0 ∧ (F = 10 ∨ (F = 0 ∧ n ≤ m)) ∧ (G = 10 ∨ (G = 0 ∧ n ≤ k)))
theorem lost_fin {s wo : Int} {ks : List (Int × Int × Int)} {ds : List Int} {lost : List (Int × Int)} {x : Int × Int} {most few : Int} (h : lossErr s wo ks ds lost = 0) (hx : lossErr s wo ks ds (lost ++ [x]) = 0) (x0 : 0 ≤ x.2) (h1 : most ≤ 8) (h2 : 0 ≤ few) (h3 : few ≤ most) :
    LostFin (planErr s wo ks ds lost most) (planErr s wo ks ds (lost ++ [x]) most) (planErr s wo ks ds lost few) (planCh s wo ks ds lost most) (planCh s wo ks ds (lost ++ [x]) most) (planCh s wo ks ds lost few) := by
  have a := least_more ks.length ds.length lost x x0 most
  have b := least_less ks.length ds.length lost most few h3
  unfold LostFin
  rcases planErr_of h (by omega) h1 with ⟨e1, e2, e3⟩ | ⟨e1, e2, e3⟩ <;> rcases planErr_of hx (by omega) h1 with ⟨f1, f2, f3⟩ | ⟨f1, f2, f3⟩ <;> rcases planErr_of h h2 (by omega) with ⟨g1, g2, g3⟩ | ⟨g1, g2, g3⟩ <;> rw [e2, e3, f2, f3, g2, g3] <;> omega
end Go.Proofs.Ytmplgcefhpobgaa
