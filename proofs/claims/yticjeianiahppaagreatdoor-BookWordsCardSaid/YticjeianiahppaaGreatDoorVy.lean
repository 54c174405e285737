/- Pay: ends of balances, with more and fewer words (plain) -/
import Derived.Test.YticjeianiahppaaGreatDoorBE
namespace Go.Proofs.YticjeianiahppaaGreatDoor.Pay
set_option linter.unusedVariables false
set_option linter.unusedSimpArgs false
set_option linter.unnecessarySimpa false
open Go.RowKit Go.Flow Go.Shelf
def endX (high : Bool) : Int → Int → Bool → Int := if high then highX else lowX
open Go.RowKit Go.Flow Go.Shelf
open Go.RowKit Go.Flow
theorem kept_mono {rate keeps n m : Int} (hr : 0 ≤ rate) (hk : 0 ≤ keeps ∧ keeps ≤ 100) (hm : n ≤ m) : keptF rate keeps n ≤ keptF rate keeps m ∧ n * rate - keptF rate keeps n ≤ m * rate - keptF rate keeps m := by
  have hP : n * rate ≤ m * rate := Int.mul_le_mul_of_nonneg_right hm hr
  have h1 : n * rate * keeps ≤ m * rate * keeps := Int.mul_le_mul_of_nonneg_right hP hk.1
  have h2 : (m * rate - n * rate) * keeps ≤ (m * rate - n * rate) * 100 := Int.mul_le_mul_of_nonneg_left hk.2 (by omega)
  rw [Int.sub_mul] at h2
  unfold keptF
  omega
/-- A share: what is kept, for the first one, and a part of the rest. -/
theorem sharesF_at {rate keeps : Int} {k : Nat} (n : Int) (hk : 1 ≤ k ∧ k ≤ 5) (i : Nat) (hi : i < k) : (sharesF rate keeps k n).getD i 0 = (n * rate - keptF rate keeps n + i) / (k : Int) + (if i = 0 then keptF rate keeps n else 0) := by
  have e : (sharesF rate keeps k n).getD i 0 = (n * rate - keptF rate keeps n) / (k : Int) + (if i = 0 then keptF rate keeps n else 0) + (if (k : Int) - (n * rate - keptF rate keeps n) % (k : Int) ≤ (i : Int) then 1 else 0) := by
    simp [sharesF, hi]
  rw [e]
  obtain ⟨R, hR⟩ : ∃ R, n * rate - keptF rate keeps n = R := ⟨_, rfl⟩
  obtain ⟨K, hK⟩ : ∃ K, (if i = 0 then keptF rate keeps n else 0) = K := ⟨_, rfl⟩
  rw [hR, hK]
  obtain rfl | rfl | rfl | rfl | rfl : k = 1 ∨ k = 2 ∨ k = 3 ∨ k = 4 ∨ k = 5 := by omega
  all_goals (split <;> omega)
theorem range_sum_getD : ∀ (l : List Int), ((List.range l.length).map fun i => l.getD i 0).sum = l.sum := by
  intro l
  congr 1
  apply List.ext_getElem
  · simp
  · intro i h1 h2
    simp [h2]
theorem shares_sum {rate keeps : Int} {k : Nat} (n : Int) (hk : 1 ≤ k ∧ k ≤ 5) : (sharesF rate keeps k n).sum = n * rate := by
  have hl : (sharesF rate keeps k n).length = k := by simp [sharesF]
  rw [← range_sum_getD, hl]
  have e : ((List.range k).map fun i => (sharesF rate keeps k n).getD i 0) = (List.range k).map fun (i : Nat) => (n * rate - keptF rate keeps n + i) / (k : Int) + (if i = 0 then keptF rate keeps n else 0) := by
    apply List.map_congr_left
    intro i hi
    exact sharesF_at n hk i (by simpa using hi)
  rw [e]
  obtain ⟨K, hK⟩ : ∃ K, keptF rate keeps n = K := ⟨_, rfl⟩
  obtain ⟨P, hP⟩ : ∃ P, n * rate = P := ⟨_, rfl⟩
  rw [hK, hP]
  obtain rfl | rfl | rfl | rfl | rfl : k = 1 ∨ k = 2 ∨ k = 3 ∨ k = 4 ∨ k = 5 := by omega
  all_goals (simp [List.range_succ]; try omega)
theorem shares_mono {rate keeps : Int} {k : Nat} {n m : Int} (hr : 0 ≤ rate) (hkp : 0 ≤ keeps ∧ keeps ≤ 100) (hk : 1 ≤ k ∧ k ≤ 5) (hm : n ≤ m) (i : Nat) (hi : i < k) : (sharesF rate keeps k n).getD i 0 ≤ (sharesF rate keeps k m).getD i 0 := by
  rw [sharesF_at n hk i hi, sharesF_at m hk i hi]
  have hb := kept_mono hr hkp hm
  have : (n * rate - keptF rate keeps n + i) / (k : Int) ≤ (m * rate - keptF rate keeps m + i) / (k : Int) := Int.ediv_le_ediv (by omega) (by omega)
  split <;> omega
/-- One place of two lists grows at most as much as their sums, if no place shrinks. -/
theorem diff_le_sum : ∀ (l m : List Int), l.length = m.length → (∀ i, i < l.length → l.getD i 0 ≤ m.getD i 0) → ∀ i, i < l.length → m.getD i 0 - l.getD i 0 ≤ m.sum - l.sum
  | [], _, _, _, i, hi => by simp at hi
  | x :: l, [], h, _, _, _ => by simp at h
  | x :: l, y :: m, h, hm, i, hi => by
    have hl : l.length = m.length := by simpa using h
    have h0 : x ≤ y := by simpa using hm 0 (by simp)
    have hs : ∀ i, i < l.length → l.getD i 0 ≤ m.getD i 0 := fun i hi => by simpa using hm (i + 1) (by simp; omega)
    have hsum : l.sum ≤ m.sum := by
      cases l with
      | nil =>
        cases m with
        | nil => simp
        | cons _ _ => simp at hl
      | cons a l' =>
        have h1 := diff_le_sum (a :: l') m hl hs 0 (by simp)
        have h2 := hs 0 (by simp)
        omega
    cases i with
    | zero => simp; omega
    | succ i =>
      have := diff_le_sum l m hl hs i (by simpa using hi)
      simp only [List.getD_cons_succ, List.sum_cons]
      omega
theorem shares_price {rate keeps : Int} {k : Nat} {n m : Int} (hr : 0 ≤ rate) (hkp : 0 ≤ keeps ∧ keeps ≤ 100) (hk : 1 ≤ k ∧ k ≤ 5) (hm : n ≤ m) (i : Nat) (hi : i < k) : (sharesF rate keeps k m).getD i 0 - (sharesF rate keeps k n).getD i 0 ≤ m * rate - n * rate := by
  rw [← shares_sum (rate := rate) (keeps := keeps) m hk, ← shares_sum (rate := rate) (keeps := keeps) n hk]
  exact diff_le_sum _ _ (by simp [sharesF]) (fun i hi => shares_mono hr hkp hk hm i (by simpa [sharesF] using hi)) i (by simpa [sharesF] using hi)
open Go.RowKit Go.Flow Go.Shelf
open Go.RowKit Go.Flow Go.Shelf
open Go.RowKit Go.Flow Go.Shelf
open Go.RowKit Go.Flow Go.Shelf
open Go.RowKit Go.Flow Go.Shelf
theorem chF_mono {rate keeps : Int} (hr : 0 ≤ rate) (hk : 0 ≤ keeps ∧ keeps ≤ 100) (d : Dis) (h5 : 1 ≤ d.passed.length ∧ d.passed.length ≤ 5) (s : Int) {n m : Int} (hm : n ≤ m) :
    (d.payer ≠ s → chF rate keeps d n s ≤ chF rate keeps d m s) ∧ (d.payer = s → chF rate keeps d m s ≤ chF rate keeps d n s) := by
  have hP : n * rate ≤ m * rate := Int.mul_le_mul_of_nonneg_right hm hr
  unfold chF
  by_cases hi : 0 ≤ idxF d.passed s
  · have hlt : (idxF d.passed s).toNat < d.passed.length := by have := idxF_bd d.passed s; omega
    have h1 := shares_mono hr hk h5 hm _ hlt
    have h2 := shares_price hr hk h5 hm _ hlt
    rw [if_pos hi, if_pos hi]
    constructor
    · intro h; rw [if_neg h, if_neg h]; omega
    · intro h; rw [if_pos h, if_pos h]; omega
  · rw [if_neg hi, if_neg hi]
    constructor
    · intro h; rw [if_neg h, if_neg h]; omega
    · intro h; rw [if_pos h, if_pos h]; omega
/-- All words are tried: the first with which the change is at an end. -/
def endsP (f : Int → Int) (high : Bool) (lo : Int) : Nat → Int × Int
  | 0 => (lo, f lo)
  | k + 1 => if (if high then (endsP f high lo k).2 < f (lo + ((k + 1 : Nat) : Int)) else f (lo + ((k + 1 : Nat) : Int)) < (endsP f high lo k).2) then (lo + ((k + 1 : Nat) : Int), f (lo + ((k + 1 : Nat) : Int))) else endsP f high lo k
/-- No number from lo on, of k more, has a change beyond b. -/
def Beyond (f : Int → Int) (high : Bool) (lo : Int) (k : Nat) (b : Int) : Prop := ∀ j : Nat, j ≤ k → if high then f (lo + (j : Int)) ≤ b else b ≤ f (lo + (j : Int))
theorem endsP_spec (f : Int → Int) (high : Bool) (lo : Int) : ∀ k : Nat, ∃ j : Nat, j ≤ k ∧ (endsP f high lo k).1 = lo + (j : Int) ∧ (endsP f high lo k).2 = f (lo + (j : Int)) ∧ Beyond f high lo k (f (lo + (j : Int))) ∧ ∀ i : Nat, i < j → f (lo + (i : Int)) ≠ f (lo + (j : Int))
  | 0 => ⟨0, Nat.le_refl _, by simp [endsP], by simp [endsP], fun j hj => (by obtain rfl : j = 0 := (by omega); cases high <;> simp), fun i hi => by omega⟩
  | k + 1 => by
    obtain ⟨j, h1, h2, h3, h4, h5⟩ := endsP_spec f high lo k
    rw [endsP, h3]
    by_cases h : (if high then f (lo + (j : Int)) < f (lo + ((k + 1 : Nat) : Int)) else f (lo + ((k + 1 : Nat) : Int)) < f (lo + (j : Int)))
    · rw [if_pos h]
      refine ⟨k + 1, Nat.le_refl _, rfl, rfl, fun i hi => ?_, fun i hi e => ?_⟩
      · have hb := h4 i
        by_cases e : i = k + 1
        · subst e; cases high <;> simp
        · have hb := hb (by omega)
          cases high <;> simp only [Bool.false_eq_true, if_false, if_true] at h hb ⊢ <;> omega
      · have hb := h4 i (by omega)
        cases high <;> simp only [Bool.false_eq_true, if_false, if_true] at h hb <;> omega
    · rw [if_neg h]
      refine ⟨j, by omega, h2, h3, fun i hi => ?_, h5⟩
      by_cases e : i = k + 1
      · subst e; cases high <;> simp only [Bool.false_eq_true, if_false, if_true] at h ⊢ <;> omega
      · exact h4 i (by omega)
theorem firstN_is {f : Int → Int} {b : Int} : ∀ (K : Nat) (lo : Int) (j : Nat), j ≤ K → (∀ i : Nat, i < j → f (lo + (i : Int)) ≠ b) → f (lo + (j : Int)) = b → firstN f b K lo = lo + (j : Int)
  | 0, lo, j, hj, _, _ => by obtain rfl : j = 0 := (by omega); simp [firstN]
  | K + 1, lo, 0, _, _, h => by rw [firstN, if_pos (by simpa using h)]; simp
  | K + 1, lo, j + 1, hj, hn, h => by
    have h0 := hn 0 (by omega)
    rw [firstN, if_neg (by simpa using h0), firstN_is K (lo + 1) j (by omega) (fun i hi => by
      have := hn (i + 1) (by omega)
      rwa [show lo + 1 + (i : Int) = lo + ((i + 1 : Nat) : Int) by push_cast; omega]) (by rw [← h]; congr 1; push_cast; omega)]
    push_cast; omega
theorem endsP_is {f : Int → Int} {high : Bool} {lo x : Int} {k : Nat} (hx : lo ≤ x ∧ x ≤ lo + (k : Int)) (hb : Beyond f high lo k (f x)) : endsP f high lo k = (firstN f (f x) k lo, f x) := by
  obtain ⟨j, h1, h2, h3, h4, h5⟩ := endsP_spec f high lo k
  have h6 := hb j h1
  have h7 := h4 (x - lo).toNat (by omega)
  rw [show lo + (((x - lo).toNat : Nat) : Int) = x by omega] at h7
  have e : f (lo + (j : Int)) = f x := by cases high <;> simp only [Bool.false_eq_true, if_false, if_true] at h6 h7 <;> omega
  rw [e] at h3 h5
  rw [firstN_is k lo j h1 h5 e]
  exact Prod.ext h2 h3
theorem end_beyond {rate keeps : Int} (hr : 0 ≤ rate) (hk : 0 ≤ keeps ∧ keeps ≤ 100) (d : Dis) (h5 : 1 ≤ d.passed.length ∧ d.passed.length ≤ 5) (hle : d.lo ≤ d.hi) (s : Int) (high : Bool) :
    Beyond (fun n => chF rate keeps d n s) high d.lo (d.hi - d.lo).toNat (chF rate keeps d (endX high d.lo d.hi (d.payer == s)) s) := by
  intro j hj
  have hm := fun {n m : Int} (h : n ≤ m) => chF_mono hr hk d h5 s h
  have hlo := hm (show d.lo ≤ d.lo + (j : Int) by omega)
  have hhi := hm (show d.lo + (j : Int) ≤ d.hi by omega)
  by_cases hp : d.payer = s
  · have e : (d.payer == s) = true := by simpa using hp
    cases high
    · simp only [endX, lowX, lowF, e, if_true, Bool.false_eq_true, if_false]; exact hhi.2 hp
    · simp only [endX, highX, lowF, e, if_true, Bool.not_true, Bool.false_eq_true, if_false]; exact hlo.2 hp
  · have e : (d.payer == s) = false := by simpa using hp
    cases high
    · simp only [endX, lowX, lowF, e, if_true, Bool.false_eq_true, if_false]; exact hlo.1 hp
    · simp only [endX, highX, lowF, e, if_true, Bool.not_false, Bool.false_eq_true, if_false]; exact hhi.1 hp
theorem endX_in (high : Bool) {lo hi : Int} (b : Bool) (h : lo ≤ hi) : lo ≤ endX high lo hi b ∧ endX high lo hi b ≤ hi := by
  cases high
  · exact lowX_in lo hi b h
  · exact highX_in lo hi b h
/-- The reference's end is the program's. -/
theorem ends_eq {rate keeps : Int} (hr : 0 ≤ rate) (hk : 0 ≤ keeps ∧ keeps ≤ 100) (d : Dis) (h5 : 1 ≤ d.passed.length ∧ d.passed.length ≤ 5) (hle : d.lo ≤ d.hi) (s : Int) (high : Bool) :
    endsP (fun n => chF rate keeps d n s) high d.lo (d.hi - d.lo).toNat = (reachD rate keeps (endX high) s d, chF rate keeps d (endX high d.lo d.hi (d.payer == s)) s) :=
  endsP_is (f := fun n => chF rate keeps d n s) (x := endX high d.lo d.hi (d.payer == s)) (by have := endX_in high (d.payer == s) hle; omega) (end_beyond hr hk d h5 hle s high)
theorem reach_at {rate keeps : Int} (hr : 0 ≤ rate) (hk : 0 ≤ keeps ∧ keeps ≤ 100) (d : Dis) (h5 : 1 ≤ d.passed.length ∧ d.passed.length ≤ 5) (hle : d.lo ≤ d.hi) (s : Int) (high : Bool) :
    chF rate keeps d (reachD rate keeps (endX high) s d) s = chF rate keeps d (endX high d.lo d.hi (d.payer == s)) s ∧ d.lo ≤ reachD rate keeps (endX high) s d ∧ reachD rate keeps (endX high) s d ≤ d.hi := by
  obtain ⟨j, h1, h2, h3, h4, h5'⟩ := endsP_spec (fun n => chF rate keeps d n s) high d.lo (d.hi - d.lo).toNat
  rw [ends_eq hr hk d h5 hle s high] at h2 h3
  simp only at h2 h3
  rw [h2, h3]
  exact ⟨rfl, by omega, by omega⟩
open Go.RowKit Go.Flow Go.Shelf
end Go.Proofs.YticjeianiahppaaGreatDoor.Pay
namespace Go.Proofs.YticjeianiahppaaGreatDoor
set_option linter.unusedVariables false
set_option linter.unusedSimpArgs false
set_option linter.unnecessarySimpa false
open Go.RowKit Go.Flow Pay
/-- What a dispatch adds to an end of a station's balance. -/
def endV (r kp s : Int) (high : Bool) (d : Dis) : Int := chF r kp d (endX high d.lo d.hi (d.payer == s)) s
theorem bal_le {r kp s : Int} {ds ds' : List Dis} {t t' : List Int} (h : ∀ k, chF r kp (ds.getD k ⟨0, 0, 0, []⟩) (t.getD k 0) s ≤ chF r kp (ds'.getD k ⟨0, 0, 0, []⟩) (t'.getD k 0) s) : ∀ k, balN r kp ds t s k ≤ balN r kp ds' t' s k
  | 0 => Int.le_refl _
  | k + 1 => Int.add_le_add (bal_le h k) (h k)
theorem reach_get {r kp s : Int} {ds : List Dis} (G : Pay.Good r kp ds) (high : Bool) (k : Nat) (hk : k < ds.length) : chF r kp (ds.getD k ⟨0, 0, 0, []⟩) ((reachL r kp (endX high) s ds ds.length).getD k 0) s = endV r kp s high ds[k] := by
  have hp := G.p ds[k] (List.getElem_mem hk)
  have hw := G.w ds[k] (List.getElem_mem hk)
  have e1 : ds.getD k ⟨0, 0, 0, []⟩ = ds[k] := by rw [List.getD_eq_getElem?_getD, List.getElem?_eq_getElem hk]; rfl
  have e2 : (reachL r kp (endX high) s ds ds.length).getD k 0 = reachD r kp (endX high) s ds[k] := by
    unfold reachL
    rw [List.take_length, List.getD_eq_getElem?_getD, List.getElem?_map, List.getElem?_eq_getElem hk]; rfl
  rw [e1, e2]
  exact (reach_at G.r.1 G.k ds[k] hp hw.2.1 s high).1
theorem reach_out {r kp s : Int} {ds : List Dis} (high : Bool) (k : Nat) (hk : ¬ k < ds.length) : ds.getD k ⟨0, 0, 0, []⟩ = ⟨0, 0, 0, []⟩ ∧ (reachL r kp (endX high) s ds ds.length).getD k 0 = 0 := by
  refine ⟨?_, ?_⟩
  · rw [List.getD_eq_getElem?_getD, List.getElem?_eq_none (by omega)]; rfl
  · unfold reachL
    rw [List.take_length, List.getD_eq_getElem?_getD, List.getElem?_map, List.getElem?_eq_none (by omega)]; rfl
/-- With dispatches that add no less (or no more), no end is lower (or higher). -/
theorem end_le {r kp s : Int} {ds ds' : List Dis} (G : Pay.Good r kp ds) (G' : Pay.Good r kp ds') (high : Bool) (hl : ds.length = ds'.length) (h : ∀ k (h1 : k < ds.length) (h2 : k < ds'.length), endV r kp s high ds[k] ≤ endV r kp s high ds'[k]) :
    endB r kp ds (endX high) s ≤ endB r kp ds' (endX high) s := by
  unfold endB
  rw [← hl]
  refine bal_le (fun k => ?_) _
  by_cases hk : k < ds.length
  · have e := reach_get (s := s) G' high k (by omega)
    have e2 : reachL r kp (endX high) s ds' ds.length = reachL r kp (endX high) s ds' ds'.length := by rw [hl]
    rw [reach_get G high k hk, e2, e]
    exact h k hk (by omega)
  · obtain ⟨e1, e2⟩ := reach_out (r := r) (kp := kp) (s := s) high k hk
    obtain ⟨e3, e4⟩ := reach_out (r := r) (kp := kp) (s := s) (ds := ds') high k (by omega)
    rw [← hl] at e4
    rw [e1, e2, e3, e4]
    exact Int.le_refl _
theorem chF_lohi (r kp : Int) (d : Dis) (a b x s : Int) : chF r kp ⟨d.payer, a, b, d.passed⟩ x s = chF r kp d x s := rfl
theorem endV_in {r kp s : Int} (hr : 0 ≤ r) (hk : 0 ≤ kp ∧ kp ≤ 100) (d : Dis) (h5 : 1 ≤ d.passed.length ∧ d.passed.length ≤ 5) {a b : Int} (h1 : d.lo ≤ a) (h2 : b ≤ d.hi) :
    endV r kp s false d ≤ endV r kp s false ⟨d.payer, a, b, d.passed⟩ ∧ endV r kp s true ⟨d.payer, a, b, d.passed⟩ ≤ endV r kp s true d := by
  unfold endV
  simp only [chF_lohi]
  have m1 := fun s => chF_mono hr hk d h5 s h1
  have m2 := fun s => chF_mono hr hk d h5 s h2
  by_cases hp : d.payer = s
  · have e : (d.payer == s) = true := by simpa using hp
    simp only [endX, lowX, highX, lowF, e, if_true, Bool.false_eq_true, if_false, Bool.not_true]
    exact ⟨(m2 s).2 hp, (m1 s).2 hp⟩
  · have e : (d.payer == s) = false := by simpa using hp
    simp only [endX, lowX, highX, lowF, e, if_true, Bool.false_eq_true, if_false, Bool.not_false]
    exact ⟨(m1 s).1 hp, (m2 s).1 hp⟩
end Go.Proofs.YticjeianiahppaaGreatDoor
