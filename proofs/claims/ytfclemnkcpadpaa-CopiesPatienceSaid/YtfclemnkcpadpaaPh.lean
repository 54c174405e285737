/- copies, plain: all hours later by the same number -/
import Derived.Test.YtfclemnkcpadpaaPa
namespace Go.Proofs.Ytfclemnkcpadpaa
set_option linter.unusedVariables false
set_option linter.unusedSimpArgs false
set_option linter.unnecessarySimpa false
open Go.RowKit Go.Flow

def shA (n : Int) (r : Int × Int) : Int × Int := (r.1 + n, r.2 + n)
def shL (n : Int) (l : Leg) : Leg := ⟨l.lo, l.hi, l.asl.map (shA n)⟩
def shR (n : Int) (r : Route) : Route := ⟨r.legs.map (shL n), r.lossy⟩
def shP (n : Int) (p : Post) : Post := ⟨p.sends.map (· + n), p.routes.map (shR n), p.pat⟩
def shS (n : Nat) (S : Hrs) : Hrs := fun k => decide (n ≤ k) && S (k - n)
theorem sh_asleep (n : Int) (l : Leg) (h : Int) : asleepB (shL n l) (h + n) = asleepB l h := by
  unfold asleepB shL
  simp only [List.any_map]
  congr 1
  funext r
  simp [inR, shA]
theorem sh_awkN (n : Int) (l : Leg) : ∀ (k : Nat) (h : Int), awkN (shL n l) k (h + n) = awkN l k h + n
  | 0, h => rfl
  | k + 1, h => by
    simp only [awkN, sh_asleep]
    rw [show h + n + 1 = h + 1 + n by omega, sh_awkN n l k (h + 1)]
    split <;> rfl
theorem awkN_more (l : Leg) : ∀ (k j : Nat) (h : Int), asleepB l (awkN l k h) = false → awkN l (k + j) h = awkN l k h
  | 0, j, h, ha => by
    simp only [awkN] at ha ⊢
    cases j with
    | zero => rfl
    | succ j => simp [awkN, ha]
  | k + 1, j, h, ha => by
    rw [show k + 1 + j = k + j + 1 by omega]
    simp only [awkN] at ha ⊢
    split
    · rename_i hs
      rw [if_pos hs] at ha
      exact awkN_more l k j (h + 1) ha
    · rfl
theorem sh_awk {n : Nat} {l : Leg} (h2 : (shL n l).asl.all (fun r => uptoB r 30) = true) (h : Int) : awk (shL n l) (h + n) = awk l h + n := by
  have e : awk (shL n l) (h + n) = awkN (shL n l) (31 - h).toNat (h + n) := by
    unfold awk
    obtain ⟨j, hj⟩ : ∃ j, (31 - h).toNat = (31 - (h + n)).toNat + j := ⟨(31 - h).toNat - (31 - (h + n)).toNat, by omega⟩
    rw [hj]
    exact (awkN_more _ _ _ _ (awkN_awake _ h2 _ _ (by omega))).symm
  rw [e, sh_awkN]
  rfl
theorem legHr_iff {l : Leg} {S : Hrs} {m : Nat} : legHr l S m = true ↔ ∃ h j : Nat, h < 101 ∧ S h = true ∧ j < (l.hi - l.lo + 1).toNat ∧ awk l (h + l.lo + j) = m := by
  simp only [legHr, List.any_eq_true, Bool.and_eq_true, decide_eq_true_eq, List.mem_range]
  constructor
  · rintro ⟨h, h1, h2, j, h3, h4⟩; exact ⟨h, j, h1, h2, h3, h4⟩
  · rintro ⟨h, j, h1, h2, h3, h4⟩; exact ⟨h, h1, h2, j, h3, h4⟩
theorem legOk_iff {l : Leg} : legOk l = true ↔ 0 ≤ l.lo ∧ l.lo ≤ l.hi ∧ l.hi ≤ 6 ∧ l.asl.all (fun r => uptoB r 30) = true := by
  simp only [legOk, uptoB, Bool.and_eq_true, decide_eq_true_eq]
  constructor
  · rintro ⟨⟨⟨a, b⟩, c⟩, d⟩; exact ⟨a, b, c, d⟩
  · rintro ⟨a, b, c, d⟩; exact ⟨⟨⟨a, b⟩, c⟩, d⟩
theorem sh_legHr {n : Nat} {l : Leg} {S : Hrs} {m : Nat} (h1 : legOk l = true) (h2 : legOk (shL n l) = true) (hS : HrsLe S m) (hm : m + n ≤ 100) : legHr (shL n l) (shS n S) = shS n (legHr l S) := by
  funext x
  obtain ⟨a1, a2, a3, a4⟩ := legOk_iff.1 h1
  obtain ⟨_, _, _, b4⟩ := legOk_iff.1 h2
  rw [Bool.eq_iff_iff, legHr_iff]
  unfold shS
  simp only [Bool.and_eq_true, decide_eq_true_eq, legHr_iff]
  constructor
  · rintro ⟨h, j, c1, ⟨c2, c3⟩, c4, c5⟩
    have e : awk (shL n l) ((h : Int) + l.lo + j) = awk l (((h - n : Nat) : Int) + l.lo + j) + n := by
      rw [← sh_awk b4]; congr 1; omega
    have hb := awk_bd l (((h - n : Nat) : Int) + l.lo + j)
    have c5' : awk (shL n l) ((h : Int) + l.lo + j) = x := c5
    rw [e] at c5'
    refine ⟨by omega, h - n, j, by omega, c3, c4, by omega⟩
  · rintro ⟨c0, h, j, c1, c2, c3, c4⟩
    have := hS h c2
    refine ⟨h + n, j, by omega, ⟨by omega, by rw [Nat.add_sub_cancel]; exact c2⟩, c3, ?_⟩
    show awk (shL n l) (((h + n : Nat) : Int) + l.lo + j) = x
    rw [show ((h + n : Nat) : Int) + l.lo + j = ((h : Int) + l.lo + j) + n by omega, sh_awk b4, c4]
    omega
theorem sh_one {n : Nat} {s : Int} (hs : 0 ≤ s) : oneHr (s + n) = shS n (oneHr s) := by
  funext x
  unfold oneHr shS
  rw [Bool.eq_iff_iff]
  simp only [Bool.and_eq_true, decide_eq_true_eq]
  omega
theorem sh_fold {n : Nat} : ∀ (ls : List Leg) (S : Hrs) (m : Nat), ls.all legOk = true → (ls.map (shL n)).all legOk = true → HrsLe S m → 30 ≤ m → m + 6 * ls.length + n ≤ 100 →
    (ls.map (shL n)).foldl (fun S l => legHr l S) (shS n S) = shS n (ls.foldl (fun S l => legHr l S) S)
  | [], S, m, _, _, _, _, _ => rfl
  | l :: ls, S, m, h1, h2, hS, hm, hb => by
    simp only [List.map_cons, List.all_cons, Bool.and_eq_true, List.length_cons] at h1 h2 hb
    simp only [List.map_cons, List.foldl_cons]
    rw [sh_legHr h1.1 h2.1 hS (by omega)]
    exact sh_fold ls _ (m + 6) h1.2 h2.2 (legHr_le h1.1 hS hm) (by omega) (by omega)
theorem sh_hr {p : Post} {n : Nat} (hn : n ≤ 11) (h0 : postErr p = 0) (h1 : postErr (shP n p) = 0) {i k : Nat} (hi : i < p.sends.length) (hk : k < p.routes.length) : hrF (shP n p) i k = shS n (hrF p i k) := by
  have hs := (post_hours h0).s _ (List.getElem_mem hi)
  obtain ⟨l1, l2, _⟩ := post_legs h0 p.routes[k] (List.getElem_mem hk)
  obtain ⟨_, l3, _⟩ := post_legs h1 (shR n p.routes[k]) (List.mem_map.2 ⟨_, List.getElem_mem hk, rfl⟩)
  have e1 : ((shP n p).routes[k]?) = some (shR n p.routes[k]) := by simp [shP, hk]
  have e2 : p.routes[k]? = some p.routes[k] := List.getElem?_eq_getElem hk
  have e3 : (shP n p).sends.getD i 0 = p.sends[i] + n := by simp [shP, hi]
  have e4 : p.sends.getD i 0 = p.sends[i] := by simp [hi]
  unfold hrF
  rw [e1, e2, e3, e4]
  simp only [Option.map_some, Option.getD_some]
  unfold routeHr
  rw [sh_one hs.1]
  exact sh_fold p.routes[k].legs _ 30 l2 l3 (fun x hx => by simp [oneHr] at hx; omega) (by omega) (by omega)
theorem sh_lossy (p : Post) (n : Int) (k : Nat) : lossyK (shP n p) k = lossyK p k := by
  unfold lossyK shP
  simp only [List.getElem?_map, Option.map_map]
  rfl
/-- Two rising lists of the same numbers are one. -/
theorem rising_ext : ∀ {a b : List Nat}, a.Pairwise (· < ·) → b.Pairwise (· < ·) → (∀ x, x ∈ a ↔ x ∈ b) → a = b
  | [], [], _, _, _ => rfl
  | [], y :: ys, _, _, h => absurd ((h y).2 (by simp)) (by simp)
  | x :: xs, [], _, _, h => absurd ((h x).1 (by simp)) (by simp)
  | x :: xs, y :: ys, ha, hb, h => by
    rw [List.pairwise_cons] at ha hb
    have e : x = y := by
      rcases List.mem_cons.1 ((h x).1 (by simp)) with e | e
      · exact e
      · rcases List.mem_cons.1 ((h y).2 (by simp)) with e' | e'
        · exact e'.symm
        · have := ha.1 y e'; have := hb.1 x e; omega
    subst e
    rw [rising_ext ha.2 hb.2 (fun z => ?_)]
    have hz := h z
    simp only [List.mem_cons] at hz
    constructor
    · intro hm
      have := ha.1 z hm
      rcases hz.1 (Or.inr hm) with e | e
      · omega
      · exact e
    · intro hm
      have := hb.1 z hm
      rcases hz.2 (Or.inr hm) with e | e
      · omega
      · exact e
theorem hrList_nat {f : Hrs} {L : List Nat} (hL : L.Pairwise (· < ·)) (hm : ∀ x, x ∈ L ↔ x < 101 ∧ f x = true) : hrList f = L.map (fun (n : Nat) => (n : Int)) := by
  unfold hrList
  congr 1
  refine rising_ext (hrs_sorted f) hL (fun x => ?_)
  rw [hm, List.mem_filter, List.mem_range]
theorem sh_list {f : Hrs} {m n : Nat} (hf : HrsLe f m) (hm : m + n ≤ 100) : hrList (shS n f) = (hrList f).map (· + (n : Int)) := by
  rw [hrList_nat (f := shS n f) (L := ((List.range 101).filter f).map (· + n))]
  · unfold hrList
    simp only [List.map_map]
    apply List.map_congr_left
    intro x _
    simp only [Function.comp]
    omega
  · rw [List.pairwise_map]
    exact (hrs_sorted f).imp (fun h => by omega)
  · intro x
    simp only [List.mem_map, List.mem_filter, List.mem_range, shS, Bool.and_eq_true, decide_eq_true_eq]
    constructor
    · rintro ⟨y, ⟨h1, h2⟩, rfl⟩
      have := hf y h2
      exact ⟨by omega, by omega, by rw [Nat.add_sub_cancel]; exact h2⟩
    · rintro ⟨h1, h2, h3⟩
      exact ⟨x - n, ⟨by omega, h3⟩, by omega⟩
theorem hr_ok {p : Post} (h0 : postErr p = 0) {i k : Nat} (hi : i < p.sends.length) (hk : k < p.routes.length) : HrsLe (hrF p i k) 48 ∧ ∃ n, hrF p i k n = true := by
  have hs := (post_hours h0).s _ (List.getElem_mem hi)
  obtain ⟨_, _, a3, _, _, _, _, _, a9⟩ := postErr_ok h0
  have e2 : p.routes[k]? = some p.routes[k] := List.getElem?_eq_getElem hk
  have e4 : p.sends.getD i 0 = p.sends[i] := by simp [hi]
  unfold hrF
  rw [e2, e4]
  exact routeHr_ok (List.all_eq_true.1 a3 _ (List.getElem_mem hk)) (List.all_eq_true.1 a9 _ (List.getElem_mem hk)) hs
section
variable {p : Post} {n : Nat} (hn : n ≤ 11) (h0 : postErr p = 0) (h1 : postErr (shP n p) = 0) {i : Nat} (hi : i < p.sends.length)
include hn h0 h1 hi
theorem sh_ends {k : Nat} (hk : k < p.routes.length) : firstH (hrF (shP n p) i k) = firstH (hrF p i k) + n ∧ lastH (hrF (shP n p) i k) = lastH (hrF p i k) + n := by
  have hne := post_ne h0 hi k hk
  have hpos : 0 < (hrList (hrF p i k)).length := List.length_pos_iff.2 hne
  unfold firstH lastH
  rw [sh_hr hn h0 h1 hi hk, sh_list (hr_ok h0 hi hk).1 (by omega), List.length_map]
  simp only [List.getD_eq_getElem?_getD, List.getElem?_map]
  rw [List.getElem?_eq_getElem hpos, List.getElem?_eq_getElem (show (hrList (hrF p i k)).length - 1 < _ by omega)]
  simp
theorem sh_latN : ∀ k, k ≤ p.routes.length → (latN (shP n p) i k = 101 ∧ latN p i k = 101) ∨ (latN (shP n p) i k = latN p i k + n ∧ latN p i k ≤ 48)
  | 0, _ => Or.inl ⟨rfl, rfl⟩
  | k + 1, hk => by
    rw [latN_succ, latN_succ, sh_lossy, (sh_ends hn h0 h1 hi (by omega)).2]
    obtain ⟨m, m1, m2, m3, _⟩ := lastH_spec (post_ne h0 hi k (by omega))
    have := (hr_ok h0 hi (show k < p.routes.length by omega)).1 m m2
    rcases sh_latN k (by omega) with h | h
    · split
      · exact Or.inl h
      · exact Or.inr ⟨by omega, by omega⟩
    · split
      · exact Or.inr h
      · exact Or.inr ⟨by omega, by omega⟩
theorem sh_earN : ∀ k, k ≤ p.routes.length → (earN (shP n p) i k = 101 ∧ earN p i k = 101) ∨ (earN (shP n p) i k = earN p i k + n ∧ earN p i k ≤ 48)
  | 0, _ => Or.inl ⟨rfl, rfl⟩
  | k + 1, hk => by
    rw [earN_succ, earN_succ, (sh_ends hn h0 h1 hi (by omega)).1]
    obtain ⟨m, m1, m2, m3, _⟩ := firstH_spec (post_ne h0 hi k (by omega))
    have := (hr_ok h0 hi (show k < p.routes.length by omega)).1 m m2
    rcases sh_earN k (by omega) with h | h
    · exact Or.inr ⟨by omega, by omega⟩
    · exact Or.inr ⟨by omega, by omega⟩
end
theorem sh_dead {p : Post} {n : Nat} {i : Nat} (hi : i < p.sends.length) : (shP n p).sends.getD i 0 + (shP n p).pat = p.sends.getD i 0 + p.pat + n := by
  simp [shP, hi]; omega
theorem dead_bd' {p : Post} (h0 : postErr p = 0) {k : Nat} (hk : k < p.sends.length) : 0 ≤ p.sends.getD k 0 + p.pat ∧ p.sends.getD k 0 + p.pat ≤ 60 := by
  have hh := post_hours h0
  have e : p.sends.getD k 0 = p.sends[k] := by simp [hk]
  have := hh.s _ (List.getElem_mem hk)
  have := hh.p
  omega
theorem sh_fin {p : Post} {n : Nat} (hn : n ≤ 11) (h0 : postErr p = 0) {F G : Nat → Int} (hF : ∀ i, i < p.sends.length → 0 ≤ F i ∧ ((G i = 101 ∧ F i = 101) ∨ (G i = F i + n ∧ F i ≤ 48))) : ∀ k, k < p.sends.length → finN (shP n p) G (k + 1) = finN p F (k + 1) + n ∧ 0 ≤ finN p F (k + 1)
  | 0, hk => by
    have := hF 0 hk
    have := dead_bd' h0 hk
    rw [finN_succ, finN_succ, sh_dead hk, show finN (shP n p) G 0 = 0 from rfl, show finN p F 0 = 0 from rfl]
    omega
  | k + 1, hk => by
    have ih := sh_fin hn h0 hF k (by omega)
    have := hF (k + 1) hk
    have := dead_bd' h0 hk
    rw [finN_succ (shP n p) G (k + 1), finN_succ p F (k + 1), sh_dead hk, ih.1]
    omega
theorem ear_nn {p : Post} (h0 : postErr p = 0) {i : Nat} (hi : i < p.sends.length) : 0 ≤ earliestF p i ∧ 0 ≤ latestF p i := by
  obtain ⟨m, _, h1, _⟩ := earliest_spec h0 hi
  obtain ⟨m', _, h2, _⟩ := latest_spec h0 hi
  omega
theorem sh_span {p : Post} {n : Nat} (hn : n ≤ 11) (h0 : postErr p = 0) (h1 : postErr (shP n p) = 0) {k : Nat} (hk : k < p.sends.length) : spanAt (shP n p) k = ((spanAt p k).1 + n, (spanAt p k).2 + n) := by
  have el : (shP n p).routes.length = p.routes.length := by simp [shP]
  unfold spanAt
  rw [(sh_fin hn h0 (F := earliestF p) (G := earliestF (shP n p)) (fun i hi => ⟨(ear_nn h0 hi).1, by unfold earliestF; rw [el]; exact sh_earN hn h0 h1 hi _ (Nat.le_refl _)⟩) k hk).1,
    (sh_fin hn h0 (F := latestF p) (G := latestF (shP n p)) (fun i hi => ⟨(ear_nn h0 hi).2, by unfold latestF; rw [el]; exact sh_latN hn h0 h1 hi _ (Nat.le_refl _)⟩) k hk).1]
theorem sh_spans {p : Post} {n : Nat} (hn : n ≤ 11) (h0 : postErr p = 0) (h1 : postErr (shP n p) = 0) : spansOut (shP n p) = (spansOut p).map (shA n) := by
  unfold spansOut
  rw [if_pos h0, if_pos h1, show (shP n p).sends.length = p.sends.length by simp [shP]]
  unfold spansF
  rw [List.map_map]
  apply List.map_congr_left
  intro k hk
  exact sh_span hn h0 h1 (List.mem_range.1 hk)
theorem sh_hours {p : Post} {n : Nat} (hn : n ≤ 11) (h0 : postErr p = 0) (h1 : postErr (shP n p) = 0) {i k : Nat} (hi : i < p.sends.length) (hk : k < p.routes.length) : hoursErr p i k = 0 ∧ hoursErr (shP n p) i k = 0 ∧ hoursOut (shP n p) i k = (hoursOut p i k).map (· + (n : Int)) := by
  have e1 : inLen (i : Int) p.sends.length = true := inR_iff.2 ⟨by omega, by omega⟩
  have e2 : inLen (k : Int) p.routes.length = true := inR_iff.2 ⟨by omega, by omega⟩
  have h2 : hoursErr p i k = 0 := by unfold hoursErr; rw [if_neg (by simpa using h0), e1, e2]; rfl
  have h3 : hoursErr (shP n p) i k = 0 := by
    unfold hoursErr
    rw [if_neg (by simpa using h1), show (shP n p).sends.length = p.sends.length by simp [shP], show (shP n p).routes.length = p.routes.length by simp [shP], e1, e2]; rfl
  refine ⟨h2, h3, ?_⟩
  unfold hoursOut
  rw [if_pos h2, if_pos h3]
  simp only [Int.toNat_natCast]
  rw [sh_hr hn h0 h1 hi hk, sh_list (hr_ok h0 hi hk).1 (by omega)]
end Go.Proofs.Ytfclemnkcpadpaa
