/- Plans: the best plan is first. -/
import Derived.Test.YtmplgcefhpobgaaMe
import Derived.Test.YtmplgcefhpobgaaDp
namespace Go.Proofs.Ytmplgcefhpobgaa
set_option linter.unusedVariables false
set_option linter.unusedSimpArgs false
set_option linter.unnecessarySimpa false
open Go.RowKit Go.Flow

abbrev zs (l : List Nat) : List Int := l.map (fun (k : Nat) => (k : Int))
theorem rightB_of {F : Nat → Int} {m : Int} {nk : Nat} : ∀ {l : List Nat} {s : Spot}, OkFrom F m nk s l → rightB F m nk s (zs l) = true
  | [], _, _ => rfl
  | k :: l, s, ⟨h1, h2, h3⟩ => by
    have ih := rightB_of h3
    show ((decide ((0 : Int) ≤ k) && decide ((k : Int) ≤ (nk : Int) - 1)) && mayB (F (k : Int).toNat) m s (k : Int).toNat && rightB F m nk (s.bump (k : Int).toNat) (zs l)) = true
    rw [Int.toNat_natCast, h2, ih]
    simp; omega
theorem of_rightB {F : Nat → Int} {m : Int} {nk : Nat} : ∀ {x : List Int} {s : Spot}, rightB F m nk s x = true → ∃ l : List Nat, x = zs l ∧ OkFrom F m nk s l
  | [], _, _ => ⟨[], rfl, trivial⟩
  | a :: x, s, h => by
    simp only [rightB, Bool.and_eq_true, decide_eq_true_eq] at h
    obtain ⟨⟨⟨h0, h1⟩, h2⟩, h3⟩ := h
    obtain ⟨k, rfl⟩ := Int.eq_ofNat_of_zero_le h0
    rw [Int.toNat_natCast] at h2 h3
    obtain ⟨l, rfl, hl⟩ := of_rightB h3
    exact ⟨k :: l, rfl, by omega, h2, hl⟩
theorem provB_of {F : Nat → Int} {m : Int} {nk : Nat} : ∀ {l : List Nat} {s : Spot} {c : Int}, OkFrom F m nk s l → provB F m s (zs l) c = decide (chFrom s l ≤ c)
  | [], _, c, _ => rfl
  | k :: l, s, c, ⟨h1, h2, h3⟩ => by
    have ih := provB_of (c := c - mayC s k) h3
    show (mayB (F (k : Int).toNat) m s (k : Int).toNat && provB F m (s.bump (k : Int).toNat) (zs l) (c - mayC s (k : Int).toNat)) = _
    rw [Int.toNat_natCast, h2, ih, Bool.true_and]
    simp only [chFrom]
    congr 1
    exact propext ⟨fun h => by omega, fun h => by omega⟩
theorem chFrom_le : ∀ (l : List Nat) (s : Spot), chFrom s l ≤ l.length
  | [], _ => Int.le_refl _
  | k :: l, s => by
    have := chFrom_le l (s.bump k)
    have := mayC_b s k
    simp only [chFrom, List.length_cons]; omega
theorem chK_cons (a b : Int) (t : List Int) : ∀ k, chK (a :: b :: t) (k + 2) = (if b ≠ a then 1 else 0) + chK (b :: t) (k + 1)
  | 0 => by simp [chK]
  | k + 1 => by
    have ih := chK_cons a b t k
    show chK (a :: b :: t) (k + 2) + _ = _
    rw [ih]
    show _ = _ + (chK (b :: t) (k + 1) + _)
    simp only [List.getD_cons_succ]
    omega
theorem bump_last (s : Spot) {k : Nat} (h : k < 5) : (s.bump k).last = k := by
  match k, h with
  | 0, _ | 1, _ | 2, _ | 3, _ | 4, _ => rfl
theorem chFrom_eq : ∀ (l : List Nat) (s : Spot) (p : Nat), (∀ k ∈ l, k < 5) → 0 < s.day → s.last = p → chFrom s l = chgs (zs (p :: l))
  | [], _, _, _, _, _ => rfl
  | k :: l, s, p, hk, hd, hp => by
    have h5 := hk k (List.mem_cons_self ..)
    have ih := chFrom_eq l (s.bump k) k (fun j hj => hk j (List.mem_cons_of_mem _ hj)) (by rw [bump_day]; omega) (bump_last s h5)
    have e : chgs (zs (p :: k :: l)) = (if (k : Int) ≠ p then 1 else 0) + chgs (zs (k :: l)) := by
      unfold chgs
      have := chK_cons (p : Int) (k : Int) (zs l) l.length
      simpa using this
    rw [e, ← ih]
    simp only [chFrom, mayC]
    rw [hp]
    congr 1
    by_cases h : (k : Int) = p
    · simp [h]
    · simp [h, hd]
theorem chFrom0 (l : List Nat) (h : ∀ k ∈ l, k < 5) : chFrom spot0 l = chgs (zs l) := by
  cases l with
  | nil => rfl
  | cons k l =>
    have := chFrom_eq l (spot0.bump k) k (fun j hj => h j (List.mem_cons_of_mem _ hj)) (by rw [bump_day]; decide) (bump_last _ (h k (List.mem_cons_self ..)))
    rw [← this]
    simp only [chFrom, mayC]
    simp [spot0]
theorem ok_lt {F : Nat → Int} {m : Int} {nk : Nat} : ∀ {l : List Nat} {s : Spot}, OkFrom F m nk s l → ∀ k ∈ l, k < nk
  | k :: l, s, ⟨h1, _, h3⟩, j, hj => by
    rcases List.mem_cons.1 hj with rfl | hj
    · exact h1
    · exact ok_lt h3 j hj
theorem find_least {p : Nat → Bool} {n k j : Nat} (h : (List.range n).find? p = some k) (hj : j < n) (hp : p j = true) : k ≤ j := by
  rw [List.find?_range_eq_some] at h
  rcases Nat.lt_or_ge j k with h1 | h1
  · have := h.2.2 j h1
    simp [hp] at this
  · exact h1
/-- No right plan with as few changes is before it. -/
theorem planR_first (F : Nat → Int) (m : Int) (nk : Nat) : ∀ (l : List Nat) (s : Spot), OkFrom F m nk s l → chFrom s l = fewR F m nk l.length s → lexB (zs l) (planR F m nk l.length s (fewR F m nk l.length s)) = false
  | [], _, _, _ => rfl
  | k :: l, s, ⟨h1, h2, h3⟩, h => by
    have hle := few_le F m nk l (s.bump k) h3
    have hst := (few_fold_le F m s (fewR F m nk l.length) (List.range nk) 1048576).2 k (List.mem_range.2 h1) h2
    have hfd : fewR F m nk (l.length + 1) s = (List.range nk).foldl (fewStep F m s (fewR F m nk l.length)) 1048576 := rfl
    simp only [chFrom, List.length_cons] at h
    rw [← hfd] at hst
    have hpk : planPick F m nk l.length s (fewR F m nk (l.length + 1) s) k = true := by
      unfold planPick
      rw [h2]
      simp; omega
    have hsome : ((List.range nk).find? (planPick F m nk l.length s (fewR F m nk (l.length + 1) s))).isSome = true := by
      rw [List.find?_isSome]
      exact ⟨k, List.mem_range.2 h1, hpk⟩
    obtain ⟨j, hj⟩ := Option.isSome_iff_exists.1 hsome
    have hjk := find_least hj h1 hpk
    show lexB ((k : Int) :: zs l) (planR F m nk (l.length + 1) s (fewR F m nk (l.length + 1) s)) = false
    rw [planR, hj]
    simp only [lexB]
    by_cases he : k = j
    · subst he
      rw [if_pos rfl]
      have e : fewR F m nk (l.length + 1) s - mayC s k = fewR F m nk l.length (s.bump k) := by omega
      rw [e]
      exact planR_first F m nk l (s.bump k) h3 (by omega)
    · rw [if_neg (by omega)]
      simp; omega

/-- What CipherFewest asks of a plan. -/
theorem few_stuck {ks : List (Int × Int × Int)} {ds : List Int} {lost : List (Int × Int)} {most : Int} (h8 : ds.length ≤ 1000) (hf : 1048576 ≤ planLeast ks.length ds.length lost most) (x : List Int) :
    (decide (x.length = ds.length) && rightB (fun j => hadN lost j) most ks.length spot0 x) = false := by
  cases hb : (decide (x.length = ds.length) && rightB (fun j => hadN lost j) most ks.length spot0 x)
  · rfl
  · simp only [Bool.and_eq_true, decide_eq_true_eq] at hb
    obtain ⟨l, rfl, hl⟩ := of_rightB hb.2
    have h1 := few_le _ _ _ l spot0 hl
    have h2 := chFrom_le l spot0
    have h3 : l.length = ds.length := by simpa using hb.1
    rw [h3] at h1
    unfold planLeast at hf
    omega
theorem few_best {ks : List (Int × Int × Int)} {ds : List Int} {lost : List (Int × Int)} {most : Int} (hk : ks.length ≤ 5) (hf : planLeast ks.length ds.length lost most < 1048576) :
    ∃ l : List Nat, planR (fun j => hadN lost j) most ks.length ds.length spot0 (planLeast ks.length ds.length lost most) = zs l ∧ l.length = ds.length ∧ (∀ k ∈ l, k < ks.length) ∧ rightB (fun j => hadN lost j) most ks.length spot0 (zs l) = true ∧
      chgs (zs l) = planLeast ks.length ds.length lost most ∧ (∀ c, provB (fun j => hadN lost j) most spot0 (zs l) c = decide (planLeast ks.length ds.length lost most ≤ c)) ∧ 0 ≤ planLeast ks.length ds.length lost most ∧ planLeast ks.length ds.length lost most ≤ ds.length ∧
      ∀ x : List Int, (decide (x.length = ds.length) && rightB (fun j => hadN lost j) most ks.length spot0 x) = true → planLeast ks.length ds.length lost most ≤ chgs x ∧ (chgs x = planLeast ks.length ds.length lost most → lexB x (zs l) = false) := by
  obtain ⟨l, l1, l2, l3, l4⟩ := planR_ok (fun j => hadN lost j) most ks.length ds.length spot0 (by unfold planLeast at hf; exact hf)
  have hlt := ok_lt l3
  have h5 : ∀ k ∈ l, k < 5 := fun k hk2 => by have := hlt k hk2; omega
  have hc := chFrom0 l h5
  have hb := chK_b (zs l) (zs l).length
  have hcl := chFrom_le l spot0
  unfold planLeast
  refine ⟨l, l1, l2, hlt, rightB_of l3, by rw [← hc, l4], fun c => by rw [provB_of l3, l4], ?_, by rw [← l4]; omega, fun x hx => ?_⟩
  · rw [← l4, hc]; exact hb.1
  · simp only [Bool.and_eq_true, decide_eq_true_eq] at hx
    obtain ⟨l', rfl, hl'⟩ := of_rightB hx.2
    have e3 : l'.length = ds.length := by simpa using hx.1
    have hlt' := ok_lt hl'
    have hc' := chFrom0 l' (fun k hk2 => by have := hlt' k hk2; omega)
    have h1 := few_le _ _ _ l' spot0 hl'
    rw [e3, hc'] at h1
    refine ⟨h1, fun he => ?_⟩
    have h2 := planR_first _ _ _ l' spot0 hl' (by rw [hc', he, e3])
    rw [e3, l1] at h2
    exact h2
end Go.Proofs.Ytmplgcefhpobgaa
