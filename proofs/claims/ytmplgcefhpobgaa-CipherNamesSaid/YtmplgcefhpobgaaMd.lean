/- Plans, as lists of keys. -/
import Derived.Test.YtmplgcefhpobgaaCr
import Derived.Test.YtmplgcefhpobgaaCa
namespace Go.Proofs.Ytmplgcefhpobgaa
set_option linter.unusedVariables false
set_option linter.unusedSimpArgs false
set_option linter.unnecessarySimpa false
open Go.RowKit Go.Flow

/-- A right rest of a plan, from a spot on. -/
def OkFrom (F : Nat → Int) (m : Int) (nk : Nat) : Spot → List Nat → Prop
  | _, [] => True
  | s, k :: l => k < nk ∧ mayB (F k) m s k = true ∧ OkFrom F m nk (s.bump k) l
/-- Its changes. -/
def chFrom : Spot → List Nat → Int
  | _, [] => 0
  | s, k :: l => mayC s k + chFrom (s.bump k) l

theorem few_fold_le (F : Nat → Int) (m : Int) (s : Spot) (g : Spot → Int) : ∀ (l : List Nat) (n : Int), l.foldl (fewStep F m s g) n ≤ n ∧ ∀ k ∈ l, mayB (F k) m s k = true → l.foldl (fewStep F m s g) n ≤ mayC s k + g (s.bump k)
  | [], n => ⟨Int.le_refl _, fun _ h => by cases h⟩
  | x :: l, n => by
    obtain ⟨h1, h2⟩ := few_fold_le F m s g l (fewStep F m s g n x)
    have h3 : fewStep F m s g n x ≤ n := by unfold fewStep; split <;> omega
    rw [List.foldl_cons]
    refine ⟨by omega, fun k hk hm => ?_⟩
    rcases List.mem_cons.1 hk with rfl | hk
    · have h4 : fewStep F m s g n k ≤ mayC s k + g (s.bump k) := by unfold fewStep; rw [if_pos hm]; omega
      omega
    · exact h2 k hk hm
theorem few_fold_att (F : Nat → Int) (m : Int) (s : Spot) (g : Spot → Int) : ∀ (l : List Nat) (n : Int), l.foldl (fewStep F m s g) n = n ∨ ∃ k ∈ l, mayB (F k) m s k = true ∧ l.foldl (fewStep F m s g) n = mayC s k + g (s.bump k)
  | [], n => .inl rfl
  | x :: l, n => by
    rw [List.foldl_cons]
    rcases few_fold_att F m s g l (fewStep F m s g n x) with h | ⟨k, hk, hm, h⟩
    · rw [h]
      unfold fewStep
      split
      · rename_i hm
        by_cases hle : n ≤ mayC s x + g (s.bump x)
        · exact .inl (by omega)
        · exact .inr ⟨x, List.mem_cons_self .., hm, by omega⟩
      · exact .inl rfl
    · exact .inr ⟨k, List.mem_cons_of_mem _ hk, hm, h⟩
theorem few_le (F : Nat → Int) (m : Int) (nk : Nat) : ∀ (l : List Nat) (s : Spot), OkFrom F m nk s l → fewR F m nk l.length s ≤ chFrom s l
  | [], _, _ => Int.le_refl _
  | k :: l, s, ⟨h1, h2, h3⟩ => by
    have ih := few_le F m nk l (s.bump k) h3
    have := (few_fold_le F m s (fewR F m nk l.length) (List.range nk) 1048576).2 k (List.mem_range.2 h1) h2
    simp only [List.length_cons, fewR, chFrom]
    omega
/-- The plan that Plan answers is right, and has as many changes as fewR says. -/
theorem planR_ok (F : Nat → Int) (m : Int) (nk : Nat) : ∀ (r : Nat) (s : Spot), fewR F m nk r s < 1048576 → ∃ l : List Nat, planR F m nk r s (fewR F m nk r s) = l.map (fun (k : Nat) => (k : Int)) ∧ l.length = r ∧ OkFrom F m nk s l ∧ chFrom s l = fewR F m nk r s
  | 0, _, _ => ⟨[], rfl, rfl, trivial, rfl⟩
  | r + 1, s, h => by
    rcases few_fold_att F m s (fewR F m nk r) (List.range nk) 1048576 with h1 | ⟨k, hk, hm, h1⟩
    · simp only [fewR] at h; omega
    · have hsome : ((List.range nk).find? (planPick F m nk r s (fewR F m nk (r + 1) s))).isSome = true := by
        rw [List.find?_isSome]
        exact ⟨k, hk, by unfold planPick; simp only [fewR]; rw [hm, h1]; simp⟩
      obtain ⟨j, hj⟩ := Option.isSome_iff_exists.1 hsome
      have hp := List.find?_some hj
      have hjm := List.mem_range.1 (List.mem_of_find?_eq_some hj)
      unfold planPick at hp
      simp only [Bool.and_eq_true, beq_iff_eq] at hp
      have hc := mayC_b s j
      have e : fewR F m nk (r + 1) s - mayC s j = fewR F m nk r (s.bump j) := by omega
      obtain ⟨l, l1, l2, l3, l4⟩ := planR_ok F m nk r (s.bump j) (by omega)
      refine ⟨j :: l, ?_, by simp [l2], ⟨hjm, hp.1, l3⟩, by simp only [chFrom]; omega⟩
      rw [planR, hj]
      simp only [List.map_cons]
      rw [e, l1]
/-- A key of a right plan is not had on its day. -/
theorem ok_day (F : Nat → Int) (m : Int) (nk : Nat) : ∀ (l : List Nat) (s : Spot), OkFrom F m nk s l → ∀ (d : Nat) (h : d < l.length), l[d] < nk ∧ ¬ (F l[d] ≠ -1 ∧ F l[d] ≤ s.day + d)
  | k :: l, s, ⟨h1, h2, _⟩, 0, _ => by
    refine ⟨h1, fun ⟨h3, h4⟩ => ?_⟩
    simp only [List.getElem_cons_zero] at h3 h4
    unfold mayB at h2
    simp at h2
    rcases h2.1 with h5 | h5
    · exact h3 h5
    · omega
  | k :: l, s, ⟨_, _, h3⟩, d + 1, h => by
    have := ok_day F m nk l (s.bump k) h3 d (by simpa using h)
    rw [bump_day] at this
    simp only [List.getElem_cons_succ]
    refine ⟨this.1, fun h4 => this.2 ⟨h4.1, ?_⟩⟩
    have := h4.2
    push_cast at this
    omega
/-- With it as the book's days, no dispatch is read on its own day. -/
theorem kept_day {lost : List (Int × Int)} {m : Int} {nk : Nat} {l : List Nat} (h : OkFrom (fun k => hadN lost k) m nk spot0 l) (d : Nat) (hd : d < l.length) : fromN lost (l[d] : Int) d ≠ d := by
  have := (ok_day _ m nk l spot0 h d hd).2
  simp only [spot0] at this
  unfold fromN
  split
  · omega
  · omega
theorem book_days {s wo : Int} {ks : List (Int × Int × Int)} {ds : List Int} (h : bookErr s wo ks ds = 0) (l : List Nat) (hl : l.length = ds.length) (hk : ∀ (d : Nat) (h : d < l.length), l[d] < ks.length) : bookErr s wo ks (l.map (fun (k : Nat) => (k : Int))) = 0 := by
  obtain ⟨h1, h2, h3, h4, h5, h6, h7, h8, h9, h10, _⟩ := bookErr_ok h
  unfold bookErr
  rw [if_neg (by simp; omega), if_pos]
  refine ⟨⟨h3, h4⟩, h5, ⟨h6, h7⟩, fun e => by subst e; simp at h8, fun e => ?_, h10, ?_⟩
  · have := congrArg List.length e
    simp at this
    subst this
    simp at hl
    omega
  · rw [List.all_eq_true]
    intro x hx
    obtain ⟨k, hk1, rfl⟩ := List.mem_map.1 hx
    obtain ⟨d, hd, rfl⟩ := List.getElem_of_mem hk1
    have := hk d hd
    simp [ownOk]; omega
theorem loss_days {s wo : Int} {ks : List (Int × Int × Int)} {ds : List Int} {lost : List (Int × Int)} (h : lossErr s wo ks ds lost = 0) (l : List Nat) (hl : l.length = ds.length) (hk : ∀ (d : Nat) (h : d < l.length), l[d] < ks.length) : lossErr s wo ks (l.map (fun (k : Nat) => (k : Int))) lost = 0 := by
  obtain ⟨h1, h2, h3⟩ := lossErr_ok h
  unfold lossErr
  rw [if_neg (by rw [book_days h1 l hl hk]; simp), if_neg (by omega), if_neg (by rw [List.length_map, hl, h3]; simp)]
end Go.Proofs.Ytmplgcefhpobgaa
