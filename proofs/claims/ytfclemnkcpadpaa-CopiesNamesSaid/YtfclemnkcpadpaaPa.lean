/- copies, plain: the hours that a dispatch can have; the greatest is latest, the smallest is earliest -/
import Derived.Test.YtfclemnkcpadpaaKq
namespace Go.Proofs.Ytfclemnkcpadpaa
set_option linter.unusedVariables false
set_option linter.unusedSimpArgs false
set_option linter.unnecessarySimpa false
open Go.RowKit Go.Flow

theorem hrs_sorted (f : Hrs) : ((List.range 101).filter f).Pairwise (· < ·) := List.Pairwise.filter _ List.pairwise_lt_range
theorem lastH_spec {f : Hrs} (hne : hrList f ≠ []) : ∃ m : Nat, m ≤ 100 ∧ f m = true ∧ lastH f = (m : Int) ∧ ∀ n, n ≤ 100 → f n = true → n ≤ m := by
  have hs := hrs_sorted f
  unfold lastH
  unfold hrList at hne ⊢
  have hmem : ∀ n, n ∈ (List.range 101).filter f ↔ n < 101 ∧ f n = true := fun n => by rw [List.mem_filter, List.mem_range]
  generalize (List.range 101).filter f = L at hs hne hmem ⊢
  have hL : L ≠ [] := fun e => hne (by rw [e]; rfl)
  have hpos : 0 < L.length := List.length_pos_iff.2 hL
  have hlast : L.length - 1 < L.length := by omega
  refine ⟨L[L.length - 1], ?_, ?_, ?_, ?_⟩
  · have := (hmem _).1 (List.getElem_mem hlast); omega
  · exact ((hmem _).1 (List.getElem_mem hlast)).2
  · simp [hlast]
  · intro n h1 h2
    obtain ⟨j, hj, rfl⟩ := List.getElem_of_mem ((hmem n).2 ⟨by omega, h2⟩)
    rcases Nat.lt_or_ge j (L.length - 1) with h | h
    · exact Nat.le_of_lt (List.pairwise_iff_getElem.1 hs j _ hj hlast h)
    · have e : j = L.length - 1 := by omega
      subst e; exact Nat.le_refl _
theorem firstH_spec {f : Hrs} (hne : hrList f ≠ []) : ∃ m : Nat, m ≤ 100 ∧ f m = true ∧ firstH f = (m : Int) ∧ ∀ n, n ≤ 100 → f n = true → m ≤ n := by
  have hs := hrs_sorted f
  unfold firstH
  unfold hrList at hne ⊢
  have hmem : ∀ n, n ∈ (List.range 101).filter f ↔ n < 101 ∧ f n = true := fun n => by rw [List.mem_filter, List.mem_range]
  generalize (List.range 101).filter f = L at hs hne hmem ⊢
  have hL : L ≠ [] := fun e => hne (by rw [e]; rfl)
  have hpos : 0 < L.length := List.length_pos_iff.2 hL
  refine ⟨L[0], ?_, ?_, ?_, ?_⟩
  · have := (hmem _).1 (List.getElem_mem hpos); omega
  · exact ((hmem _).1 (List.getElem_mem hpos)).2
  · simp [hpos]
  · intro n h1 h2
    obtain ⟨j, hj, rfl⟩ := List.getElem_of_mem ((hmem n).2 ⟨by omega, h2⟩)
    rcases Nat.lt_or_ge 0 j with h | h
    · exact Nat.le_of_lt (List.pairwise_iff_getElem.1 hs 0 _ hpos hj h)
    · have e : j = 0 := by omega
      subst e; exact Nat.le_refl _

/-- By a route: its hours; 101 if it is lossy. -/
def byF (p : Post) (i k : Nat) : Hrs := fun h => if h = 101 then lossyK p k else hrF p i k h
def comN (p : Post) (i : Nat) : Nat → Hrs
  | 0 => fun h => decide (h = 101)
  | k + 1 => fun h => (List.range 102).any fun a => comN p i k a && (List.range 102).any fun b => byF p i k b && decide (min a b = h)
def comF (p : Post) (i : Nat) : Hrs := comN p i p.routes.length
def badK (p : Post) (i h k : Nat) : Bool := !lossyK p k && decide (lastH (hrF p i k) < (h : Int))
def someN (p : Post) (i h k : Nat) : Bool := decide (h = 101) || (List.range k).any fun j => decide (h < 101) && hrF p i j h
def canB (p : Post) (i h : Nat) : Bool := (List.range p.routes.length).all (fun k => !badK p i h k) && someN p i h p.routes.length

theorem comN_succ (p : Post) (i k h : Nat) : comN p i (k + 1) h = true ↔ ∃ a b, a ≤ 101 ∧ b ≤ 101 ∧ comN p i k a = true ∧ byF p i k b = true ∧ min a b = h := by
  simp only [comN, List.any_eq_true, Bool.and_eq_true, decide_eq_true_eq, List.mem_range]
  constructor
  · rintro ⟨a, ha, h1, b, hb, h2, h3⟩
    exact ⟨a, b, by omega, by omega, h1, h2, h3⟩
  · rintro ⟨a, b, ha, hb, h1, h2, h3⟩
    exact ⟨a, by omega, h1, b, by omega, h2, h3⟩
theorem up_of {p : Post} {i k : Nat} (hne : hrList (hrF p i k) ≠ []) (hle : HrsLe (hrF p i k) 48) {h : Nat} (hh : h ≤ 101) : badK p i h k = false ↔ ∃ b, h ≤ b ∧ b ≤ 101 ∧ byF p i k b = true := by
  obtain ⟨m, hm, h1, h2, h3⟩ := lastH_spec hne
  unfold badK
  rw [h2]
  constructor
  · intro e
    cases hl : lossyK p k with
    | true => exact ⟨101, hh, Nat.le_refl _, by unfold byF; rw [if_pos rfl]; exact hl⟩
    | false =>
      rw [hl] at e
      simp at e
      exact ⟨m, by omega, by omega, by unfold byF; rw [if_neg (by omega)]; exact h1⟩
  · rintro ⟨b, hb, hb2, e⟩
    unfold byF at e
    split at e
    · rw [e]; rfl
    · have := h3 b (by have := hle b e; omega) e
      simp; omega
theorem com_up (p : Post) (i : Nat) {h : Nat} (hh : h ≤ 101) : ∀ k, (∀ j, j < k → ∃ b, h ≤ b ∧ b ≤ 101 ∧ byF p i j b = true) → ∃ a, h ≤ a ∧ a ≤ 101 ∧ comN p i k a = true
  | 0, _ => ⟨101, hh, Nat.le_refl _, by simp [comN]⟩
  | k + 1, hu => by
    obtain ⟨a, h1, h2, h3⟩ := com_up p i hh k (fun j hj => hu j (by omega))
    obtain ⟨b, g1, g2, g3⟩ := hu k (by omega)
    exact ⟨min a b, by omega, by omega, (comN_succ p i k _).2 ⟨a, b, h2, g2, h3, g3, rfl⟩⟩
theorem comN_iff (p : Post) (i : Nat) {h : Nat} (hh : h ≤ 101) : ∀ k, comN p i k h = true ↔ (∀ j, j < k → ∃ b, h ≤ b ∧ b ≤ 101 ∧ byF p i j b = true) ∧ (h = 101 ∨ ∃ j, j < k ∧ byF p i j h = true)
  | 0 => by simp [comN]
  | k + 1 => by
    have down : ∀ {a : Nat}, h ≤ a → a ≤ 101 → comN p i k a = true → ∀ j, j < k → ∃ b, h ≤ b ∧ b ≤ 101 ∧ byF p i j b = true := fun {a} h1 h2 h3 j hj => by
      obtain ⟨b, g1, g2, g3⟩ := ((comN_iff p i h2 k).1 h3).1 j hj
      exact ⟨b, by omega, g2, g3⟩
    rw [comN_succ]
    constructor
    · rintro ⟨a, b, ha, hb, h1, h2, h3⟩
      refine ⟨fun j hj => ?_, ?_⟩
      · by_cases e : j = k
        · subst e; exact ⟨b, by omega, hb, h2⟩
        · exact down (by omega) ha h1 j (by omega)
      · rcases Nat.le_total a b with e | e
        · obtain rfl : a = h := by omega
          rcases ((comN_iff p i hh k).1 h1).2 with e2 | ⟨j, hj, e2⟩
          · exact .inl e2
          · exact .inr ⟨j, by omega, e2⟩
        · obtain rfl : b = h := by omega
          exact .inr ⟨k, by omega, h2⟩
    · rintro ⟨hu, ho⟩
      obtain ⟨b, g1, g2, g3⟩ := hu k (by omega)
      have hk : (∃ j, j < k ∧ byF p i j h = true) ∨ h = 101 ∨ byF p i k h = true := by
        rcases ho with e | ⟨j, hj, e⟩
        · exact .inr (.inl e)
        · by_cases e2 : j = k
          · subst e2; exact .inr (.inr e)
          · exact .inl ⟨j, by omega, e⟩
      rcases hk with hk | hk | hk
      · exact ⟨h, b, hh, g2, (comN_iff p i hh k).2 ⟨fun j hj => hu j (by omega), .inr hk⟩, g3, by omega⟩
      · exact ⟨h, b, hh, g2, (comN_iff p i hh k).2 ⟨fun j hj => hu j (by omega), .inl hk⟩, g3, by omega⟩
      · obtain ⟨a, e1, e2, e3⟩ := com_up p i hh k (fun j hj => hu j (by omega))
        exact ⟨a, h, e2, hh, e3, hk, by omega⟩
theorem comF_can {p : Post} (h0 : postErr p = 0) {i : Nat} (hi : i < p.sends.length) {h : Nat} (hh : h ≤ 101) : comF p i h = canB p i h := by
  have hne := post_ne h0 hi
  have hle := fun k (hk : k < p.routes.length) => (post_hrs h0 hi hk).1
  rw [Bool.eq_iff_iff]
  unfold comF canB someN
  rw [comN_iff p i hh]
  simp only [Bool.and_eq_true, Bool.or_eq_true, List.all_eq_true, List.any_eq_true, List.mem_range, decide_eq_true_eq, Bool.not_eq_true']
  constructor
  · rintro ⟨h1, h2⟩
    refine ⟨fun k hk => (up_of (hne k hk) (hle k hk) hh).2 (h1 k hk), ?_⟩
    by_cases e : h = 101
    · exact .inl e
    · rcases h2 with h2 | ⟨j, hj, h2⟩
      · exact .inl h2
      · unfold byF at h2
        rw [if_neg e] at h2
        exact .inr ⟨j, hj, by omega, h2⟩
  · rintro ⟨h1, h2⟩
    refine ⟨fun k hk => (up_of (hne k hk) (hle k hk) hh).1 (h1 k hk), ?_⟩
    rcases h2 with h2 | ⟨j, hj, h3, h2⟩
    · exact .inl h2
    · refine .inr ⟨j, hj, ?_⟩
      unfold byF
      rw [if_neg (by omega)]; exact h2

/-! ### the greatest, the smallest one -/
theorem latN_le (p : Post) (i : Nat) : ∀ k, latN p i k ≤ 101
  | 0 => by simp [latN]
  | k + 1 => by have := latN_le p i k; rw [latN_succ]; split <;> omega
theorem latN_low (p : Post) (i : Nat) : ∀ k j, j < k → lossyK p j = false → latN p i k ≤ lastH (hrF p i j)
  | k + 1, j, hj, hl => by
    rw [latN_succ]
    by_cases e : j = k
    · subst e; rw [hl]; simp; omega
    · have := latN_low p i k j (by omega) hl
      split <;> omega
theorem latN_at (p : Post) (i : Nat) : ∀ k, latN p i k = 101 ∨ ∃ j, j < k ∧ latN p i k = lastH (hrF p i j)
  | 0 => .inl rfl
  | k + 1 => by
    rw [latN_succ]
    split
    · rcases latN_at p i k with h | ⟨j, hj, h⟩
      · exact .inl h
      · exact .inr ⟨j, by omega, h⟩
    · by_cases e : latN p i k ≤ lastH (hrF p i k)
      · rw [Int.min_eq_left e]
        rcases latN_at p i k with h | ⟨j, hj, h⟩
        · exact .inl h
        · exact .inr ⟨j, by omega, h⟩
      · rw [Int.min_eq_right (by omega)]
        exact .inr ⟨k, by omega, rfl⟩
theorem earN_le (p : Post) (i : Nat) : ∀ k, earN p i k ≤ 101
  | 0 => by simp [earN]
  | k + 1 => by have := earN_le p i k; rw [earN_succ]; omega
theorem earN_low (p : Post) (i : Nat) : ∀ k j, j < k → earN p i k ≤ firstH (hrF p i j)
  | k + 1, j, hj => by
    rw [earN_succ]
    by_cases e : j = k
    · subst e; omega
    · have := earN_low p i k j (by omega)
      omega
theorem earN_at (p : Post) (i : Nat) : ∀ k, earN p i k = 101 ∨ ∃ j, j < k ∧ earN p i k = firstH (hrF p i j)
  | 0 => .inl rfl
  | k + 1 => by
    rw [earN_succ]
    by_cases e : earN p i k ≤ firstH (hrF p i k)
    · rw [Int.min_eq_left e]
      rcases earN_at p i k with h | ⟨j, hj, h⟩
      · exact .inl h
      · exact .inr ⟨j, by omega, h⟩
    · rw [Int.min_eq_right (by omega)]
      exact .inr ⟨k, by omega, rfl⟩
theorem can_iff {p : Post} {i h : Nat} : canB p i h = true ↔ (∀ k, k < p.routes.length → badK p i h k = false) ∧ (h = 101 ∨ ∃ j, j < p.routes.length ∧ h < 101 ∧ hrF p i j h = true) := by
  unfold canB someN
  simp only [Bool.and_eq_true, Bool.or_eq_true, List.all_eq_true, List.any_eq_true, List.mem_range, decide_eq_true_eq, Bool.not_eq_true']
theorem latest_spec {p : Post} (h0 : postErr p = 0) {i : Nat} (hi : i < p.sends.length) : ∃ m : Nat, m ≤ 101 ∧ latestF p i = (m : Int) ∧ canB p i m = true ∧ ∀ h, h ≤ 101 → canB p i h = true → h ≤ m := by
  have hne := post_ne h0 hi
  have hat := latN_at p i p.routes.length
  have hle := latN_le p i p.routes.length
  have hlow := latN_low p i p.routes.length
  have hnn : 0 ≤ latN p i p.routes.length := by
    rcases hat with h | ⟨j, hj, h⟩
    · omega
    · obtain ⟨m, _, _, h2, _⟩ := lastH_spec (hne j hj); omega
  unfold latestF
  refine ⟨(latN p i p.routes.length).toNat, by omega, by omega, can_iff.2 ⟨fun k hk => ?_, ?_⟩, fun h hh hc => ?_⟩
  · unfold badK
    cases hl : lossyK p k with
    | true => rfl
    | false => have := hlow k hk hl; simp; omega
  · rcases hat with h | ⟨j, hj, h⟩
    · left; omega
    · obtain ⟨m, hm, h1, h2, _⟩ := lastH_spec (hne j hj)
      right
      refine ⟨j, hj, by omega, ?_⟩
      rw [show (latN p i p.routes.length).toNat = m by omega]; exact h1
  · obtain ⟨h1, h2⟩ := can_iff.1 hc
    rcases hat with e | ⟨j, hj, e⟩
    · omega
    · rcases Nat.lt_or_ge 0 p.routes.length with hr | hr
      · -- the number is that of a route that cannot be lost, or 101
        have key : ∀ k, k ≤ p.routes.length → (h : Int) ≤ latN p i k := by
          intro k
          induction k with
          | zero => intro _; simp [latN]; omega
          | succ k ih =>
            intro hk
            rw [latN_succ]
            have hb := h1 k (by omega)
            unfold badK at hb
            split
            · exact ih (by omega)
            · rename_i hl
              have := ih (by omega)
              simp [hl] at hb
              omega
        have := key _ (Nat.le_refl _)
        omega
      · omega
theorem earliest_spec {p : Post} (h0 : postErr p = 0) {i : Nat} (hi : i < p.sends.length) : ∃ m : Nat, m ≤ 101 ∧ earliestF p i = (m : Int) ∧ canB p i m = true ∧ ∀ h, h ≤ 101 → canB p i h = true → m ≤ h := by
  have hne := post_ne h0 hi
  have hat := earN_at p i p.routes.length
  have hle := earN_le p i p.routes.length
  have hlow := earN_low p i p.routes.length
  have hnn : 0 ≤ earN p i p.routes.length := by
    rcases hat with h | ⟨j, hj, h⟩
    · omega
    · obtain ⟨m, _, _, h2, _⟩ := firstH_spec (hne j hj); omega
  unfold earliestF
  refine ⟨(earN p i p.routes.length).toNat, by omega, by omega, can_iff.2 ⟨fun k hk => ?_, ?_⟩, fun h hh hc => ?_⟩
  · unfold badK
    have h1 := hlow k hk
    obtain ⟨m, hm, f1, f2, f3⟩ := firstH_spec (hne k hk)
    obtain ⟨m', hm', g1, g2, g3⟩ := lastH_spec (hne k hk)
    have := g3 m hm f1
    have e : decide (lastH (hrF p i k) < ((earN p i p.routes.length).toNat : Int)) = false := by rw [decide_eq_false_iff_not]; omega
    rw [e, Bool.and_false]
  · rcases hat with h | ⟨j, hj, h⟩
    · left; omega
    · obtain ⟨m, hm, h1, h2, _⟩ := firstH_spec (hne j hj)
      right
      refine ⟨j, hj, by omega, ?_⟩
      rw [show (earN p i p.routes.length).toNat = m by omega]; exact h1
  · obtain ⟨h1, h2⟩ := can_iff.1 hc
    rcases h2 with e | ⟨j, hj, e, h2⟩
    · omega
    · obtain ⟨m, hm, f1, f2, f3⟩ := firstH_spec (hne j hj)
      have := f3 h (by omega) h2
      have := hlow j hj
      omega
end Go.Proofs.Ytfclemnkcpadpaa
