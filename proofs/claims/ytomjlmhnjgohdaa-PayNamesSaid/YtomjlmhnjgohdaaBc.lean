/- pay, plain: Settle's payments settle, and are the fewest · pay: smallest, the tests of Settle, its state · pay: Settle -/
import Derived.Test.YtomjlmhnjgohdaaAz
import Derived.Test.YtomjlmhnjgohdaaBb
namespace Go.Proofs.Ytomjlmhnjgohdaa
set_option linter.unusedVariables false
set_option linter.unusedSimpArgs false
set_option linter.unnecessarySimpa false

/-! ### Settle -/
def negB (L : List Int) (n : Int) : Bool := decide (L.getD n.toNat 0 < 0)
def posB (L : List Int) (n : Int) : Bool := decide (0 < L.getD n.toNat 0)
def fromI (L ls : List Int) : Int := idxBy (negB L) ls 0
def toI (L ls : List Int) : Int := idxBy (posB L) ls 0
def stepP (L ls : List Int) : Int × Int × Int :=
  (ls.getD (fromI L ls).toNat 0, ls.getD (toI L ls).toNat 0, min (-(L.getD (ls.getD (fromI L ls).toNat 0).toNat 0)) (L.getD (ls.getD (toI L ls).toNat 0).toNat 0))
def settleG : Nat → List Int → List Int → List (Int × Int × Int)
  | 0, _, _ => []
  | k + 1, L, ls => if fromI L ls < 0 then [] else stepP L ls :: settleG k (payF L (stepP L ls)) ls
def runP (L : List Int) (ps : List (Int × Int × Int)) : List Int := ps.foldl payF L
def settleAll : List Nat → List Int → List (Int × Int × Int)
  | [], _ => []
  | s :: gs, L => settleG 10 L (setN s 10) ++ settleAll gs (runP L (settleG 10 L (setN s 10)))
def settleL (l : List Int) : List (Int × Int × Int) := settleAll (grpL l) l

theorem idx_some {α : Type} {p : α → Bool} : ∀ (l : List α) (k : Nat), (∃ x ∈ l, p x = true) → ∃ j, j < l.length ∧ idxBy p l k = ((k + j : Nat) : Int) ∧ ∃ x, l[j]? = some x ∧ p x = true
  | [], k, h => by obtain ⟨x, hx, _⟩ := h; simp at hx
  | y :: l, k, h => by
    by_cases hy : p y = true
    · exact ⟨0, by simp, by simp [idxBy, hy], y, rfl, hy⟩
    · obtain ⟨x, hx, hp⟩ := h
      have hx' : x ∈ l := by
        rcases List.mem_cons.1 hx with e | e
        · subst e; exact absurd hp hy
        · exact e
      obtain ⟨j, h1, h2, z, h3, h4⟩ := idx_some l (k + 1) ⟨x, hx', hp⟩
      exact ⟨j + 1, by simp; omega, by rw [idxBy, if_neg hy, h2]; congr 1; omega, z, by simpa using h3, h4⟩
theorem idx_none {α : Type} {p : α → Bool} : ∀ (l : List α) (k : Nat), idxBy p l k < 0 → ∀ x ∈ l, p x = false
  | [], _, _, x, hx => by simp at hx
  | y :: l, k, h, x, hx => by
    by_cases hy : p y = true
    · rw [idxBy, if_pos hy] at h; omega
    · rw [idxBy, if_neg hy] at h
      rcases List.mem_cons.1 hx with e | e
      · subst e; simpa using hy
      · exact idx_none l (k + 1) h x e
theorem mem_setN {S : Nat} {n : Nat} {x : Int} : x ∈ setN S n ↔ ∃ i : Nat, i < n ∧ S.testBit i = true ∧ x = (i : Int) := by
  unfold setN
  rw [List.mem_map]
  constructor
  · rintro ⟨i, hi, rfl⟩
    rw [List.mem_filter, List.mem_range] at hi
    exact ⟨i, hi.1, hi.2, rfl⟩
  · rintro ⟨i, h1, h2, rfl⟩
    exact ⟨i, List.mem_filter.2 ⟨List.mem_range.2 h1, h2⟩, rfl⟩
theorem bit_lt {S n : Nat} (hS : S < 2 ^ n) {i : Nat} (hi : S.testBit i = true) : i < n := by
  rcases Nat.lt_or_ge i n with h | h
  · exact h
  · rw [Nat.testBit_lt_two_pow (Nat.lt_of_lt_of_le hS (Nat.pow_le_pow_right (n := 2) (by omega) h))] at hi
    cases hi
theorem sumP_neg {l : List Int} {p : Nat → Bool} : ∀ (n : Nat), (∀ i, i < n → p i = true → l.getD i 0 ≤ 0) → sumP l p n ≤ 0 ∧ ∀ i, i < n → p i = true → l.getD i 0 < 0 → sumP l p n < 0
  | 0, _ => ⟨Int.le_refl _, fun i hi => by omega⟩
  | n + 1, h => by
    obtain ⟨h1, h2⟩ := sumP_neg n (fun i hi => h i (by omega))
    have h3 := h n (by omega)
    rw [sumP]
    refine ⟨by split <;> (first | omega | (have := h3 (by assumption); omega)), fun i hi hp hlt => ?_⟩
    by_cases e : i = n
    · subst e; rw [if_pos hp]; omega
    · have := h2 i (by omega) hp hlt
      split
      · have := h3 (by assumption); omega
      · omega
theorem cntP_congr {p q : Nat → Bool} : ∀ (n : Nat), (∀ i, i < n → p i = q i) → cntP p n = cntP q n
  | 0, _ => rfl
  | n + 1, h => by rw [cntP, cntP, cntP_congr n (fun i hi => h i (by omega)), h n (by omega)]
theorem cntP_le {p q : Nat → Bool} : ∀ (n : Nat), (∀ i, i < n → p i = true → q i = true) → cntP p n ≤ cntP q n
  | 0, _ => Nat.le_refl _
  | n + 1, h => by
    have := cntP_le n (fun i hi => h i (by omega))
    have h2 := h n (by omega)
    rw [cntP, cntP]
    cases hp : p n
    · simp; omega
    · rw [h2 hp]; simp; omega
theorem cntP_lt {p q : Nat → Bool} : ∀ (n : Nat), (∀ i, i < n → p i = true → q i = true) → (∃ i, i < n ∧ p i = false ∧ q i = true) → cntP p n < cntP q n
  | 0, _, h => by obtain ⟨i, hi, _⟩ := h; omega
  | n + 1, h, ⟨i, hi, h1, h2⟩ => by
    by_cases e : i = n
    · subst e
      have := cntP_le i (fun j hj => h j (by omega))
      rw [cntP, cntP, h1, h2]; simp; omega
    · have := cntP_lt n (fun j hj => h j (by omega)) ⟨i, by omega, h1, h2⟩
      have h3 := h n (by omega)
      rw [cntP, cntP]
      cases hp : p n
      · simp; omega
      · rw [h3 hp]; simp; omega
theorem cntP_or {p q : Nat → Bool} : ∀ (n : Nat), (∀ i, i < n → p i = true → q i = false) → cntP (fun i => p i || q i) n = cntP p n + cntP q n
  | 0, _ => rfl
  | n + 1, h => by
    rw [cntP, cntP, cntP, cntP_or n (fun i hi => h i (by omega))]
    have := h n (by omega)
    cases hp : p n <;> cases hq : q n
    · simp
    · simp; omega
    · simp; omega
    · rw [hp, hq] at this; simp at this
theorem cntP_zero {p : Nat → Bool} : ∀ (n : Nat), cntP p n = 0 → ∀ i, i < n → p i = false
  | 0, _, i, hi => by omega
  | n + 1, h, i, hi => by
    rw [cntP] at h
    by_cases e : i = n
    · subst e
      cases hp : p i
      · rfl
      · rw [hp] at h; simp at h
    · exact cntP_zero n (by omega) i (by omega)
theorem cntP_bound (p : Nat → Bool) : ∀ (n : Nat), cntP p n ≤ n
  | 0 => Nat.le_refl _
  | n + 1 => by have := cntP_bound p n; rw [cntP]; split <;> omega

/-- A group that is being settled. -/
structure InB (L : List Int) (n s : Nat) : Prop where
  len : L.length = n
  n10 : n ≤ 10
  slt : s < 2 ^ n
  bd : BdI L 100000
  zero : sumP L s.testBit n = 0
def cntS (L : List Int) (s n : Nat) : Nat := cntP (fun i => s.testBit i && nzB L i) n
theorem InB.none {L : List Int} {n s : Nat} (h : InB L n s) (hf : fromI L (setN s 10) < 0) : ∀ i, s.testBit i = true → L.getD i 0 = 0 := by
  have h1 := idx_none _ _ hf
  have hge : ∀ i, s.testBit i = true → 0 ≤ L.getD i 0 := fun i hi => by
    have := h1 (i : Int) (mem_setN.2 ⟨i, by have := bit_lt h.slt hi; have := h.n10; omega, hi, rfl⟩)
    simp only [negB, Int.toNat_natCast, decide_eq_false_iff_not] at this
    omega
  intro i hi
  have hin := bit_lt h.slt hi
  have h3 : ∀ (m : Nat), m ≤ n → (∀ j, j < m → s.testBit j = true → 0 ≤ L.getD j 0) → 0 ≤ sumP L s.testBit m ∧ ∀ j, j < m → s.testBit j = true → 0 < L.getD j 0 → 0 < sumP L s.testBit m := by
    intro m
    induction m with
    | zero => exact fun _ _ => ⟨Int.le_refl _, fun j hj => by omega⟩
    | succ m ih =>
      intro hm hj
      obtain ⟨a, b⟩ := ih (by omega) (fun j h => hj j (by omega))
      have hmm := hj m (by omega)
      rw [sumP]
      refine ⟨by split <;> (first | omega | (have := hmm (by assumption); omega)), fun j hjm hb hp => ?_⟩
      by_cases e : j = m
      · subst e; rw [if_pos hb]; omega
      · have := b j (by omega) hb hp
        split
        · have := hmm (by assumption); omega
        · omega
  have h4 := (h3 n (Nat.le_refl _) (fun j _ => hge j)).2 i hin hi
  have := h.zero
  have := hge i hi
  omega
/-- One payment. -/
theorem InB.step {L : List Int} {n s : Nat} (h : InB L n s) (hf : 0 ≤ fromI L (setN s 10)) :
    ∃ f t : Nat, s.testBit f = true ∧ s.testBit t = true ∧ f < n ∧ t < n ∧ f ≠ t ∧ L.getD f 0 < 0 ∧ 0 < L.getD t 0 ∧ stepP L (setN s 10) = ((f : Int), (t : Int), min (-(L.getD f 0)) (L.getD t 0)) ∧
      (fromI L (setN s 10)).toNat < (setN s 10).length ∧ (setN s 10).getD (fromI L (setN s 10)).toNat 0 = (f : Int) ∧ 0 ≤ toI L (setN s 10) ∧ (toI L (setN s 10)).toNat < (setN s 10).length ∧ (setN s 10).getD (toI L (setN s 10)).toNat 0 = (t : Int) := by
  have hex : ∃ x ∈ setN s 10, negB L x = true := by
    apply Classical.byContradiction
    intro hno
    have : ∀ (ls : List Int) (k : Nat), (∀ x ∈ ls, negB L x = false) → idxBy (negB L) ls k = -1 := by
      intro ls
      induction ls with
      | nil => intro k _; rfl
      | cons y t ih =>
        intro k hh
        rw [idxBy, if_neg (by rw [hh y (by simp)]; simp)]
        exact ih (k + 1) (fun x hx => hh x (by simp [hx]))
    have e := this (setN s 10) 0 (fun x hx => by
      cases hb : negB L x
      · rfl
      · exact absurd ⟨x, hx, hb⟩ hno)
    have : fromI L (setN s 10) = -1 := e
    omega
  obtain ⟨j, hj, e1, x, hx, hn⟩ := idx_some _ 0 hex
  obtain ⟨f, hf10, hfb, rfl⟩ := mem_setN.1 (List.mem_of_getElem? hx)
  simp only [negB, Int.toNat_natCast, decide_eq_true_eq] at hn
  have hfn := bit_lt h.slt hfb
  have hex2 : ∃ x ∈ setN s 10, posB L x = true := by
    apply Classical.byContradiction
    intro hno
    have hle : ∀ i, i < n → s.testBit i = true → L.getD i 0 ≤ 0 := fun i hi hb => by
      rcases Int.lt_or_le 0 (L.getD i 0) with hp | hp
      · exact absurd ⟨(i : Int), mem_setN.2 ⟨i, by have := h.n10; omega, hb, rfl⟩, by simpa [posB] using hp⟩ hno
      · exact hp
    have := (sumP_neg n hle).2 f hfn hfb hn
    have := h.zero
    omega
  obtain ⟨j2, hj2, e2, x2, hx2, hp⟩ := idx_some _ 0 hex2
  obtain ⟨t, ht10, htb, rfl⟩ := mem_setN.1 (List.mem_of_getElem? hx2)
  simp only [posB, Int.toNat_natCast, decide_eq_true_eq] at hp
  have e1 : fromI L (setN s 10) = (j : Int) := by have := e1; simpa [fromI] using this
  have e2 : toI L (setN s 10) = (j2 : Int) := by have := e2; simpa [toI] using this
  have g1 : (setN s 10).getD (fromI L (setN s 10)).toNat 0 = (f : Int) := by rw [e1]; simp [hx]
  have g2 : (setN s 10).getD (toI L (setN s 10)).toNat 0 = (t : Int) := by rw [e2]; simp [hx2]
  refine ⟨f, t, hfb, htb, hfn, bit_lt h.slt htb, fun e => by subst e; omega, hn, hp, ?_, by rw [e1]; simpa using hj, g1, by rw [e2]; omega, by rw [e2]; simpa using hj2, g2⟩
  unfold stepP
  rw [g1, g2]
  simp
theorem InB.pay {L : List Int} {n s : Nat} (h : InB L n s) {f t : Nat} (hf : s.testBit f = true) (ht : s.testBit t = true) (hfn : f < n) (htn : t < n) (hne : f ≠ t) (hlf : L.getD f 0 < 0) (hlt : 0 < L.getD t 0) :
    payB n ((f : Int), (t : Int), min (-(L.getD f 0)) (L.getD t 0)) = true ∧ InB (payF L ((f : Int), (t : Int), min (-(L.getD f 0)) (L.getD t 0))) n s ∧
      cntS (payF L ((f : Int), (t : Int), min (-(L.getD f 0)) (L.getD t 0))) s n < cntS L s n ∧ 2 ≤ cntS L s n ∧
      (∀ i, s.testBit i = false → (payF L ((f : Int), (t : Int), min (-(L.getD f 0)) (L.getD t 0))).getD i 0 = L.getD i 0) := by
  have hb1 := h.bd.at_ f (by rw [h.len]; exact hfn)
  have hb2 := h.bd.at_ t (by rw [h.len]; exact htn)
  obtain ⟨m, hm⟩ : ∃ m, min (-(L.getD f 0)) (L.getD t 0) = m := ⟨_, rfl⟩
  rw [hm]
  have hm1 : 1 ≤ m := by omega
  have hmf : m ≤ -(L.getD f 0) := by omega
  have hmt : m ≤ L.getD t 0 := by omega
  have hme : m = -(L.getD f 0) ∨ m = L.getD t 0 := by omega
  have hpb : payB n ((f : Int), (t : Int), m) = true := by
    simp only [payB, Bool.and_eq_true, decide_eq_true_eq, bne_iff_ne, ne_eq]
    exact ⟨⟨⟨⟨⟨⟨by omega, by omega⟩, by omega⟩, by omega⟩, by omega⟩, by omega⟩, by omega⟩
  have hpb' : payB L.length ((f : Int), (t : Int), m) = true := by rw [h.len]; exact hpb
  have hat : ∀ i, (payF L ((f : Int), (t : Int), m)).getD i 0 = L.getD i 0 + (if i = f then m else 0) - (if i = t then m else 0) := fun i => by
    rw [payF_at hpb' i]; simp
  refine ⟨hpb, ⟨by rw [payF_len]; exact h.len, h.n10, h.slt, fun x hx => ?_, ?_⟩, ?_, ?_, fun i hi => ?_⟩
  · obtain ⟨i, hi, rfl⟩ := List.getElem_of_mem hx
    have e := hat i
    rw [List.getD_eq_getElem?_getD, List.getElem?_eq_getElem hi, Option.getD_some] at e
    rw [e]
    rw [payF_len] at hi
    have hbi := h.bd.at_ i hi
    by_cases e1 : i = f
    · subst e1; rw [if_pos rfl, if_neg hne]; omega
    · rw [if_neg e1]
      by_cases e2 : i = t
      · subst e2; rw [if_pos rfl]; omega
      · rw [if_neg e2]; omega
  · have := payF_sum hpb' s.testBit
    rw [h.len] at this
    rw [this, h.zero]
    simp [hf, ht]
  · refine cntP_lt n (fun i hi hp => ?_) ?_
    · simp only [Bool.and_eq_true] at hp ⊢
      refine ⟨hp.1, ?_⟩
      have h2 := hp.2
      simp only [nzB, bne_iff_ne, ne_eq] at h2 ⊢
      intro hz
      rw [hat i, hz] at h2
      by_cases e1 : i = f
      · subst e1; omega
      · by_cases e2 : i = t
        · subst e2; omega
        · rw [if_neg e1, if_neg e2] at h2; omega
    · rcases hme with e | e
      · refine ⟨f, hfn, ?_, ?_⟩
        · rw [hf, Bool.true_and, nzB, hat f, if_pos rfl, if_neg hne, bne_eq_false_iff_eq]; omega
        · rw [hf, Bool.true_and, nzB, bne_iff_ne]; omega
      · refine ⟨t, htn, ?_, ?_⟩
        · rw [ht, Bool.true_and, nzB, hat t, if_neg (Ne.symm hne), if_pos rfl, bne_eq_false_iff_eq]; omega
        · rw [ht, Bool.true_and, nzB, bne_iff_ne]; omega
  · have c1 : cntP (fun i => (s.testBit i && nzB L i) && !(i == f)) n < cntS L s n := cntP_lt n (fun i _ hp => (Bool.and_eq_true _ _ ▸ hp).1) ⟨f, hfn, by simp, by rw [hf, Bool.true_and, nzB, bne_iff_ne]; omega⟩
    have c2 : cntP (fun i => ((s.testBit i && nzB L i) && !(i == f)) && !(i == t)) n < cntP (fun i => (s.testBit i && nzB L i) && !(i == f)) n := cntP_lt n (fun i _ hp => (Bool.and_eq_true _ _ ▸ hp).1) ⟨t, htn, by simp, by
      have : (t == f) = false := by simpa using Ne.symm hne
      rw [ht, Bool.true_and, this, nzB, Bool.not_false, Bool.and_true, bne_iff_ne]; omega⟩
    omega
  · rw [hat i, if_neg (fun e => by subst e; rw [hf] at hi; cases hi), if_neg (fun e => by subst e; rw [ht] at hi; cases hi)]
    omega
theorem settleG_spec {n s : Nat} : ∀ (k : Nat) (L : List Int), InB L n s → cntS L s n ≤ k →
    (∀ p ∈ settleG k L (setN s 10), payB n p = true) ∧ (runP L (settleG k L (setN s 10))).length = n ∧ BdI (runP L (settleG k L (setN s 10))) 100000 ∧
    (∀ i, s.testBit i = true → (runP L (settleG k L (setN s 10))).getD i 0 = 0) ∧ (∀ i, s.testBit i = false → (runP L (settleG k L (setN s 10))).getD i 0 = L.getD i 0) ∧
    (settleG k L (setN s 10)).length ≤ cntS L s n ∧ (0 < cntS L s n → (settleG k L (setN s 10)).length + 1 ≤ cntS L s n)
  | 0, L, h, hc => by
    have hz := cntP_zero n (show cntP (fun i => s.testBit i && nzB L i) n = 0 by unfold cntS at hc; omega)
    refine ⟨fun p hp => by simp [settleG] at hp, h.len, h.bd, fun i hi => ?_, fun i _ => rfl, Nat.zero_le _, fun hp => by omega⟩
    have h9 := hz i (bit_lt h.slt hi)
    rw [hi, Bool.true_and, nzB, bne_eq_false_iff_eq] at h9
    exact h9
  | k + 1, L, h, hc => by
    by_cases hf : fromI L (setN s 10) < 0
    · have e : settleG (k + 1) L (setN s 10) = [] := by rw [settleG, if_pos hf]
      rw [e]
      exact ⟨fun p hp => by simp at hp, h.len, h.bd, h.none hf, fun i _ => rfl, Nat.zero_le _, fun hp => by simp; omega⟩
    · obtain ⟨f, t, hfb, htb, hfn, htn, hne, hlf, hlt, hst, _⟩ := h.step (by omega)
      obtain ⟨p1, p2, p3, p4, p5⟩ := h.pay hfb htb hfn htn hne hlf hlt
      have e : settleG (k + 1) L (setN s 10) = stepP L (setN s 10) :: settleG k (payF L (stepP L (setN s 10))) (setN s 10) := by rw [settleG, if_neg hf]
      rw [e]
      rw [hst]
      obtain ⟨m, hm⟩ : ∃ m, ((f : Int), (t : Int), min (-(L.getD f 0)) (L.getD t 0)) = m := ⟨_, rfl⟩
      rw [hm] at p1 p2 p3 p5 ⊢
      obtain ⟨q1, q2, q3, q4, q5, q6, q7⟩ := settleG_spec k (payF L m) p2 (by omega)
      refine ⟨fun p hp => ?_, q2, q3, q4, fun i hi => (q5 i hi).trans (p5 i hi), by simp; omega, fun _ => by
        simp only [List.length_cons]
        by_cases hz : 0 < cntS (payF L m) s n
        · have := q7 hz; omega
        · omega⟩
      rcases List.mem_cons.1 hp with e | e
      · subst e; exact p1
      · exact q1 p e
theorem runP_append (L : List Int) (ps qs : List (Int × Int × Int)) : runP L (ps ++ qs) = runP (runP L ps) qs := by simp [runP]
theorem settles_run : ∀ (n : Nat) (ps : List (Int × Int × Int)) (L : List Int), settlesF n L ps = (ps.all (payB n) && (runP L ps).all (· == 0))
  | n, [], L => by simp [settlesF, runP]
  | n, p :: ps, L => by rw [settlesF, settles_run n ps]; simp [runP, Bool.and_assoc]
theorem sub_sum {l L : List Int} {S s : Nat} (hL : ∀ i, S.testBit i = true → L.getD i 0 = l.getD i 0) (hs : s &&& S = s) (n : Nat) : sumP L s.testBit n = sumP l s.testBit n := by
  induction n with
  | zero => rfl
  | succ n ih =>
    rw [sumP, sumP, ih]
    cases h : s.testBit n
    · rfl
    · rw [hL n (sub_bit hs h)]
theorem Parts.inB {l L : List Int} {n S s : Nat} {P : List Nat} (h : Parts l S (s :: P)) (hn : l.length = n) (h10 : n ≤ 10) (hS : S < 2 ^ n) (hl : L.length = n) (hb : BdI L 100000) (hL : ∀ i, S.testBit i = true → L.getD i 0 = l.getD i 0) : InB L n s := by
  obtain ⟨h1, h2, h3, h4⟩ := h
  refine ⟨hl, h10, ?_, hb, ?_⟩
  · have : s &&& S ≤ S := Nat.and_le_right
    omega
  · rw [sub_sum hL h1 n, ← hn]; exact h3
theorem settleAll_spec {l : List Int} {n : Nat} (hn : l.length = n) (h10 : n ≤ 10) : ∀ (P : List Nat) (S : Nat) (L : List Int), Parts l S P → S < 2 ^ n → L.length = n → BdI L 100000 → (∀ i, S.testBit i = true → L.getD i 0 = l.getD i 0 ∧ nzB l i = true) →
    (∀ p ∈ settleAll P L, payB n p = true) ∧ (runP L (settleAll P L)).length = n ∧ (∀ i, S.testBit i = true → (runP L (settleAll P L)).getD i 0 = 0) ∧ (∀ i, S.testBit i = false → (runP L (settleAll P L)).getD i 0 = L.getD i 0) ∧
    (settleAll P L).length + P.length ≤ cntP S.testBit n
  | [], S, L, hP, hS, hl, hb, hL => by
    have hS0 : S = 0 := hP
    subst hS0
    refine ⟨fun p hp => by simp [settleAll] at hp, hl, fun i hi => by simp at hi, fun i _ => rfl, by simp [settleAll]⟩
  | s :: P, S, L, hP, hS, hl, hb, hL => by
    have hI := hP.inB hn h10 hS hl hb (fun i hi => (hL i hi).1)
    obtain ⟨h1, h2, h3, h4⟩ := hP
    obtain ⟨q1, q2, q3, q4, q5, q6, q7⟩ := settleG_spec 10 L hI (by have := cntP_bound (fun i => s.testBit i && nzB L i) n; unfold cntS; omega)
    have hx := xor_lt h1 (ne_of_bit h2)
    have hL2 : ∀ i, (S ^^^ s).testBit i = true → (runP L (settleG 10 L (setN s 10))).getD i 0 = l.getD i 0 ∧ nzB l i = true := fun i hi => by
      rw [Nat.testBit_xor] at hi
      cases hs : s.testBit i
      · rw [hs] at hi
        have hi : S.testBit i = true := by simpa using hi
        rw [q5 i hs]
        exact hL i hi
      · rw [hs, sub_bit h1 hs] at hi; cases hi
    obtain ⟨r1, r2, r3, r4, r5⟩ := settleAll_spec hn h10 P (S ^^^ s) _ h4 (by omega) q2 q3 hL2
    rw [settleAll, runP_append]
    refine ⟨fun p hp => ?_, r2, fun i hi => ?_, fun i hi => ?_, ?_⟩
    · rcases List.mem_append.1 hp with e | e
      · exact q1 p e
      · exact r1 p e
    · cases hs : s.testBit i
      · exact r3 i (by rw [Nat.testBit_xor, hi, hs]; rfl)
      · rw [r4 i (by rw [Nat.testBit_xor, hi, hs]; rfl)]
        exact q4 i hs
    · have hs : s.testBit i = false := by
        cases hs : s.testBit i
        · rfl
        · rw [sub_bit h1 hs] at hi; cases hi
      rw [r4 i (by rw [Nat.testBit_xor, hi, hs]; rfl)]
      exact q5 i hs
    · have hc : cntP S.testBit n = cntP s.testBit n + cntP (S ^^^ s).testBit n := by
        rw [← cntP_or]
        · refine cntP_congr n fun i _ => ?_
          rw [Nat.testBit_xor]
          cases hs : s.testBit i
          · simp
          · simp [sub_bit h1 hs]
        · intro i _ hs
          rw [Nat.testBit_xor, hs, sub_bit h1 hs]; rfl
      have hcs : cntS L s n = cntP s.testBit n := cntP_congr n fun i _ => by
        cases hs : s.testBit i
        · rfl
        · have := hL i (sub_bit h1 hs)
          simp only [nzB, Bool.true_and] at this ⊢
          rw [this.1]; exact this.2
      have hpos : 0 < cntS L s n := by
        rw [hcs]
        rcases Nat.eq_zero_or_pos (cntP s.testBit n) with e | e
        · have := cntP_zero n e (fstB S) (bit_lt hS (sub_bit h1 h2))
          rw [h2] at this; cases this
        · exact e
      have := q7 hpos
      simp only [List.length_append, List.length_cons]
      omega
/-- Settle's payments settle, and are the stations whose balance is not 0, less the groups. -/
theorem settleL_ok {l : List Int} (h10 : l.length ≤ 10) (hz : l.sum = 0) (hb : BdI l 100000) : settlesF l.length l (settleL l) = true ∧ (settleL l).length + (grpL l).length = cntP (nzB l) l.length := by
  have hlt : leftM l < 2 ^ l.length := maskOf_lt _ _
  have h1024 : leftM l < 1024 := Nat.lt_of_lt_of_le hlt (by have := Nat.pow_le_pow_right (n := 2) (by omega) h10; omega)
  have hP : Parts l (leftM l) (grpL l) := grp_parts l _ h1024 (by rw [leftM_sum, hz])
  obtain ⟨q1, q2, q3, q4, q5⟩ := settleAll_spec rfl h10 _ _ l hP hlt rfl hb (fun i hi => ⟨rfl, by rw [← leftM_bit l (bit_lt hlt hi)]; exact hi⟩)
  have hs : settlesF l.length l (settleL l) = true := by
    rw [settles_run, Bool.and_eq_true, List.all_eq_true, List.all_eq_true]
    refine ⟨q1, fun x hx => ?_⟩
    obtain ⟨i, hi, rfl⟩ := List.getElem_of_mem hx
    have e : (runP l (settleL l))[i] = (runP l (settleL l)).getD i 0 := by rw [List.getD_eq_getElem?_getD, List.getElem?_eq_getElem hi]; rfl
    rw [e]
    have hi' : i < l.length := by
      have : (runP l (settleL l)).length = l.length := q2
      omega
    cases hb : (leftM l).testBit i
    · have e2 : (runP l (settleL l)).getD i 0 = l.getD i 0 := q4 i hb
      rw [e2]
      rw [leftM_bit l hi'] at hb
      simpa [nzB] using hb
    · have e2 : (runP l (settleL l)).getD i 0 = 0 := q3 i hb
      rw [e2]; rfl
  have h1 := settles_ge h10 hs
  have h2 : cntP (leftM l).testBit l.length = cntP (nzB l) l.length := cntP_congr _ fun i hi => leftM_bit l hi
  have h3 : (settleL l).length + (grpL l).length ≤ cntP (leftM l).testBit l.length := q5
  exact ⟨hs, by omega⟩
/-- .. and no payments settle with fewer. -/
theorem settleL_least {l : List Int} (h10 : l.length ≤ 10) (hz : l.sum = 0) (hb : BdI l 100000) {ps : List (Int × Int × Int)} (h : settlesF l.length l ps = true) : (settleL l).length ≤ ps.length := by
  have := (settleL_ok h10 hz hb).2
  have := settles_ge h10 h
  omega
end Go.Proofs.Ytomjlmhnjgohdaa

namespace Go.Proofs.Ytomjlmhnjgohdaa
set_option linter.unusedVariables false
set_option linter.unusedSimpArgs false
set_option linter.unnecessarySimpa false
open Go.RowKit Go.Flow Go.Shelf

def minF (m : Int) (l : List Int) : Int := l.foldl min m
set_option maxHeartbeats 800000 in
theorem min_any (a : Option Addr) (x : Int) (xs : List Int) (c : Nat) (w : World) (hl : xs.length ≤ 1000) (hx : IntsAt w a (x :: xs)) :
    Calls Try.prog 89 #[.slice a (x :: xs).length c] w fun e w' => e = .returned (.int .i64 (minF x xs)) ∧ w = w' := by
  obtain ⟨b0, o0, ha0, hb0, c0⟩ := hx 0 (by simp)
  subst ha0
  have c0' : w.cell? ⟨b0, o0, none⟩ = some (.int .i64 x) := by simpa using c0
  clear c0
  have hne : decide (((x :: xs).length : Int) < 1) = false := by simp; omega
  have hpos : 0 < (x :: xs).length := by simp
  obtain ⟨n, hn⟩ : ∃ n, (x :: xs).length = n := ⟨_, rfl⟩
  have hn1 : n = xs.length + 1 := by rw [← hn]; simp
  rw [hn] at hne hpos ⊢
  have Hn := Lib.hid hn1
  have hn2 : n ≤ 1001 := by omega
  clear hn1
  have Hn' := Lib.hid hn
  clear hn
  go_enter Try.func89, Try.ntmps89
  go_wp2
  go_loop [3, 4] (fun m i => ∃ k : Nat, k + 1 ≤ n ∧ i = .int .i64 (k + 1 : Nat) ∧ m = .int .i64 (minF x (xs.take k))) (fun _ i => n - (intOf i).toNat)
  case atStart => exact ⟨0, by omega, rfl, rfl⟩
  case round =>
    obtain ⟨k, hk, rfl, rfl⟩ := hrel
    by_cases hlt : k + 1 < n
    · obtain ⟨b', o', e, _, c1⟩ := hx (k + 1) (by rw [Hn'.out]; exact hlt)
      obtain ⟨rfl, rfl⟩ : b0 = b' ∧ o0 = o' := by simpa using e
      have hkx : k < xs.length := by have := Hn.out; omega
      have c1' : w.cell? ⟨b0, o0 + (k + 1), none⟩ = some (.int .i64 xs[k]) := by rw [c1]; simp [hkx]
      clear c1 e
      have hs : minF x (xs.take (k + 1)) = min (minF x (xs.take k)) xs[k] := by
        unfold minF
        rw [List.take_succ_eq_append_getElem hkx, List.foldl_append]
        rfl
      have Hs := Lib.hid hs
      clear hs
      obtain ⟨y, hy⟩ : ∃ y, xs[k] = y := ⟨_, rfl⟩
      rw [hy] at c1' Hs
      have Hy := Lib.hid hy
      clear hy
      obtain ⟨m, hm⟩ : ∃ m, minF x (xs.take k) = m := ⟨_, rfl⟩
      rw [hm] at Hs ⊢
      clear hm
      go_wp2
      go_round
      case rel => exact ⟨k + 1, by omega, by go_num, by rw [Hs.out]; congr 1; split <;> omega⟩
      case measure => simp [intOf]; omega
    · obtain rfl : n = k + 1 := by omega
      go_wp2
      go_ret
      have : k = xs.length := by have := Hn.out; omega
      exact ⟨ret_n (by rw [this, List.take_length]), rfl⟩
set_option maxHeartbeats 800000 in
theorem smallest_any (a : Option Addr) (x y : Int) (c : Nat) (w : World) (hx : IntsAt w a [x, y]) :
    Calls Try.prog 70 #[.slice a 2 c] w fun e w' => e = .returned (.int .i64 (min x y)) ∧ w = w' := by
  have h : Calls Try.prog 89 #[.slice a 2 c] w fun e w' => e = .returned (.int .i64 (min x y)) ∧ w = w' := min_any a x [y] c w (by simp) hx
  go_enter Try.func70, Try.ntmps70
  go_wp2_with (go_at_call 89; (with_reducible refine h.mono ?_); rintro e w1 ⟨rfl, rfl⟩)
  go_ret
  exact ⟨rfl, rfl⟩

section
variable (C g : Nat) (L : List Int) (n c2 : Nat) (w : World) (hC : w.cell? ⟨C, 0, none⟩ = some (.slice (some ⟨g, 0, none⟩) n c2)) (hR : RowI w g L) (hl : L.length = n) (x : Int) (hx : 0 ≤ x ∧ x < n)
include hC hR hl hx
set_option maxHeartbeats 400000 in
theorem neg_meets : Meets Try.prog w 68 #[] #[.pointer (some ⟨C, 0, none⟩)] (.int .i64 x) (negB L x) := by
  intro w' hb
  have hC' := below_cell hb hC
  have hR' := hR.below hb
  have lC := cell_ltK hC'
  obtain ⟨k, rfl⟩ : ∃ k : Nat, x = (k : Int) := ⟨x.toNat, by omega⟩
  have hk : k < L.length := by omega
  have ck := hR'.cell hk
  have lg := hR'.lt
  obtain ⟨v, hv⟩ : ∃ v, L.getD k 0 = v := ⟨_, rfl⟩
  have hB : negB L (k : Int) = decide (v < 0) := by unfold negB; simp only [Int.toNat_natCast, hv]
  rw [hv] at ck
  rw [hB]
  clear hB
  clear hC hR hb hv hl hk
  have hkn : k < n := by omega
  show Calls Try.prog 68 #[.int .i64 (k : Int), .pointer (some ⟨C, 0, none⟩)] w' _
  go_enter Try.func68, Try.ntmps68
  go_wp2
  go_ret
  exact ⟨rfl, Below.refl _ _⟩
set_option maxHeartbeats 400000 in
theorem pos_meets : Meets Try.prog w 69 #[] #[.pointer (some ⟨C, 0, none⟩)] (.int .i64 x) (posB L x) := by
  intro w' hb
  have hC' := below_cell hb hC
  have hR' := hR.below hb
  have lC := cell_ltK hC'
  obtain ⟨k, rfl⟩ : ∃ k : Nat, x = (k : Int) := ⟨x.toNat, by omega⟩
  have hk : k < L.length := by omega
  have ck := hR'.cell hk
  have lg := hR'.lt
  obtain ⟨v, hv⟩ : ∃ v, L.getD k 0 = v := ⟨_, rfl⟩
  have hB : posB L (k : Int) = decide (0 < v) := by unfold posB; simp only [Int.toNat_natCast, hv]
  rw [hv] at ck
  rw [hB]
  clear hB
  clear hC hR hb hv hl hk
  have hkn : k < n := by omega
  show Calls Try.prog 69 #[.int .i64 (k : Int), .pointer (some ⟨C, 0, none⟩)] w' _
  go_enter Try.func69, Try.ntmps69
  go_wp2
  go_ret
  exact ⟨rfl, Below.refl _ _⟩
end

/-! ### the state of Settle -/
def flat3 (l : List (Int × Int × Int)) : List Value := l.flatMap fun p => [.int .i64 p.1, .int .i64 p.2.1, .int .i64 p.2.2]
theorem flat3_get : ∀ (xs : List (Int × Int × Int)) (k : Nat) (h : k < xs.length), (flat3 xs)[k * 3]? = some (.int .i64 xs[k].1) ∧ (flat3 xs)[k * 3 + 1]? = some (.int .i64 xs[k].2.1) ∧ (flat3 xs)[k * 3 + 2]? = some (.int .i64 xs[k].2.2)
  | x :: xs, 0, _ => by simp [flat3]
  | x :: xs, k + 1, h => by
    obtain ⟨a, b, c⟩ := flat3_get xs k (by simpa using h)
    have e : flat3 (x :: xs) = .int .i64 x.1 :: .int .i64 x.2.1 :: .int .i64 x.2.2 :: flat3 xs := by simp [flat3]
    rw [e, show (k + 1) * 3 = k * 3 + 3 by omega]
    exact ⟨a, b, c⟩
theorem flat3_snoc (xs : List (Int × Int × Int)) (x : Int × Int × Int) : flat3 (xs ++ [x]) = flat3 xs ++ [.int .i64 x.1, .int .i64 x.2.1, .int .i64 x.2.2] := by simp [flat3]
theorem flat3_take (xs : List (Int × Int × Int)) (k : Nat) (h : k < xs.length) : flat3 (xs.take (k + 1)) = flat3 (xs.take k) ++ [.int .i64 xs[k].1, .int .i64 xs[k].2.1, .int .i64 xs[k].2.2] := by
  rw [List.take_succ_eq_append_getElem h, flat3_snoc]
theorem OwnL.recs3 {T : TypeId} {base : Nat} {w : World} {a : Option Addr} {c n : Nat} {xs : List (Int × Int × Int)} (h : OwnL T 3 base w a c n (flat3 xs)) : Recs3At w a xs := fun k hk => by
  rcases h.form with ⟨_, _, _, h4⟩ | ⟨g, rfl, _, hlt, _, _, _, hc⟩
  · have := (flat3_get xs k hk).1; rw [h4] at this; simp at this
  · obtain ⟨e0, e1, e2⟩ := flat3_get xs k hk
    exact ⟨g, 0, rfl, hlt, by rw [Nat.zero_add]; exact hc _ _ e0, by rw [Nat.zero_add]; exact hc _ _ e1, by rw [Nat.zero_add]; exact hc _ _ e2⟩
theorem info_pay : (Try.prog.info? 91).map (fun i => (i.zero, i.size, i.bytes)) = some (some (.agg #[.int .i64 0, .int .i64 0, .int .i64 0]), 3, 24) := by kernel_rfl
theorem elPay : Elem Try.prog 57 91 (.agg #[.int .i64 0, .int .i64 0, .int .i64 0]) 3 24 := ⟨Try.underlying57, info_parts info_pay, rfl, by decide⟩
/-- A store into an older block leaves a row. -/
theorem OwnL.store {E : TypeId} {size base : Nat} {w : World} {a : Option Addr} {c n : Nat} {xs : List Value} (h : OwnL E size base w a c n xs) {p : Addr} (hp : p.block < base) (u : Value) : OwnL E size base (w.setCell p u) a c n xs := by
  rcases h.form with ⟨rfl, rfl, rfl, rfl⟩ | ⟨g, rfl, hg, _⟩
  · exact OwnL.nil _ _ _ _
  · exact own_other h (by omega) u
theorem SetsAt.store {w : World} {a : Option Addr} {xs : List Nat} (h : SetsAt w a xs) {p : Addr} (hp : ∀ x, a = some x → x.block ≠ p.block) (u : Value) : SetsAt (w.setCell p u) a xs := fun k hk => by
  obtain ⟨b, off, ha, hlt, hc⟩ := h k hk
  exact ⟨b, off, ha, by simpa using hlt, ck_set (a := ⟨b, off + k, none⟩) (by have := hp _ ha; simpa using this) hc⟩
theorem SetsAt.base {B : Nat} {w w' : World} {a : Option Addr} {xs : List Nat} (h : SetsAt w a xs) (hp : ∀ x, a = some x → x.block < B) (hb : Below B w w') : SetsAt w' a xs := fun k hk => by
  obtain ⟨b, off, ha, hlt, hc⟩ := h k hk
  have := hp _ ha
  exact ⟨b, off, ha, Nat.lt_of_lt_of_le hlt hb.size, (hb.cell (p := ⟨b, off + k, none⟩) this).trans hc⟩
/-- What Settle holds: the cell of what is left, its row, the groups, the payments. -/
structure StAt (w X : World) (C g base n c2 : Nat) (ag : Option Addr) (gs : List Nat) (L : List Int) (ao : Option Addr) (co : Nat) (ps : List (Int × Int × Int)) : Prop where
  b : Below w.heap.size w X
  c : Cells X C #[.slice (some ⟨g, 0, none⟩) n c2] 25
  r : RowI X g L
  s : SetsAt X ag gs
  o : OwnL 91 3 base X ao co ps.length (flat3 ps)
  z : base ≤ X.heap.size
/-- Where the blocks lie. -/
structure StPl (w : World) (C g base : Nat) (ag : Option Addr) : Prop where
  wg : w.heap.size ≤ g
  gb : g < base
  cb : C < base
  gc : C ≠ g
  ag : ∀ x, ag = some x → x.block < base ∧ x.block ≠ g
section
variable {w X : World} {C g base n c2 : Nat} {ag : Option Addr} {gs : List Nat} {L : List Int} {ao : Option Addr} {co : Nat} {ps : List (Int × Int × Int)}
theorem StAt.below {X' : World} (h : StAt w X C g base n c2 ag gs L ao co ps) (hb : Below X.heap.size X X') : StAt w X' C g base n c2 ag gs L ao co ps :=
  ⟨h.b.trans (hb.mono h.b.size), h.c.below hb, h.r.below hb, h.s.below hb, h.o.kept hb, Nat.le_trans h.z hb.size⟩
theorem StAt.store (h : StAt w X C g base n c2 ag gs L ao co ps) (p : StPl w C g base ag) (k : Nat) (v : Int) : StAt w (X.setCell ⟨g, k, none⟩ (.int .i64 v)) C g base n c2 ag gs (L.set k v) ao co ps :=
  ⟨h.b.setCell (p := ⟨g, k, none⟩) p.wg _, h.c.other p.gc _ _, h.r.set k v, h.s.store (p := ⟨g, k, none⟩) (fun x e => (p.ag x e).2) _, h.o.store (p := ⟨g, k, none⟩) p.gb _, by simpa using h.z⟩
theorem StAt.pay {X' : World} {a' : Option Addr} {c' : Nat} (h : StAt w X C g base n c2 ag gs L ao co ps) (p : StPl w C g base ag) {q : Int × Int × Int} (ho : OwnL 91 3 base X' a' c' (ps.length + 1) (flat3 ps ++ [.int .i64 q.1, .int .i64 q.2.1, .int .i64 q.2.2])) (hb : Below base X X') (hw : w.heap.size ≤ base) : StAt w X' C g base n c2 ag gs L a' c' (ps ++ [q]) :=
  ⟨h.b.trans (hb.mono hw), (hb.block C p.cb).trans h.c, h.r.base p.gb hb, h.s.base (fun x e => (p.ag x e).1) hb, by rw [flat3_snoc, List.length_append]; exact ho, Nat.le_trans h.z hb.size⟩
end
end Go.Proofs.Ytomjlmhnjgohdaa

namespace Go.Proofs.Ytomjlmhnjgohdaa
set_option linter.unusedVariables false
set_option linter.unusedSimpArgs false
set_option linter.unnecessarySimpa false
open Go.RowKit Go.Flow Go.Shelf

def IntV (E : Int) (v : Value) (_ : World) : Prop := v = .int .i64 E
theorem IntV.kept {E : Int} {v : Value} {w w' : World} (h : IntV E v w) (_ : Below w.heap.size w w') : IntV E v w' := h
def EqV (x : Value) (v : Value) (_ : World) : Prop := v = x
theorem EqV.kept {x : Value} {v : Value} {w w' : World} (h : EqV x v w) (_ : Below w.heap.size w w') : EqV x v w' := h
def lenV : Value → Nat
  | .slice _ n _ => n
  | _ => 0
theorem own_apart {E E' : TypeId} (hE : E ≠ E') {size size' base base' : Nat} {w : World} {a a' : Option Addr} {c n c' n' : Nat} {xs xs' : List Value} (h : OwnL E size base w a c n xs) (k : OwnL E' size' base' w a' c' n' xs') : Apart a a' := fun x y h1 h2 e => by
  subst h1 h2
  exact OwnL.apart hE h k y.block (by simp [Value.ownBlock]) (by simp [Value.ownBlock, e])
theorem settleG_neg {L q : List Int} (h : fromI L q < 0) : ∀ m, settleG m L q = []
  | 0 => rfl
  | m + 1 => by rw [settleG, if_pos h]
theorem settleG_pos {L q : List Int} (h : ¬ fromI L q < 0) (m : Nat) : settleG (m + 1) L q = stepP L q :: settleG m (payF L (stepP L q)) q := by rw [settleG, if_neg h]
section
variable (a : Option Addr) (l : List Int) (c : Nat) (hn : a = none → l = [] ∧ c = 0) (w : World) (hx : IntsAt w a l)
include hx
set_option maxRecDepth 100000 in
set_option maxHeartbeats 4000000 in
theorem Settle_bad (hl : l.length ≤ 1000) (E : Int) (hE : balsErr l = E) (hne : E ≠ 0) : Calls Try.prog 31 #[.slice a l.length c] w fun e w' => e = .returned (.tuple #[.slice none 0 0, .int .i64 E]) ∧ Below w.heap.size w w' := by
  have ck := checkBalances_any a l c w hx hl
  rw [hE] at ck
  have h1 : (E != 0) = true := by simpa using hne
  have h2 : (E == 0) = false := by simpa using hne
  clear hE
  go_enter Try.func31, Try.ntmps31
  go_wp2_with (go_at_call 64; (with_reducible refine ck.mono ?_); rintro e w1 ⟨rfl, b1⟩)
  go_ret2
  exact ⟨rfl, b1⟩
include hn
set_option maxRecDepth 100000 in
set_option maxHeartbeats 4000000 in
theorem Settle_good (h0 : balsErr l = 0) : Calls Try.prog 31 #[.slice a l.length c] w fun e w' => (∃ ao co, e = .returned (.tuple #[.slice ao (settleL l).length co, .int .i64 0]) ∧ Recs3At w' ao (settleL l)) ∧ Below w.heap.size w w' := by
  obtain ⟨hl, hne, hd, hz⟩ := balsErr_ok h0
  have ck := checkBalances_any a l c w hx (by omega)
  rw [h0] at ck
  have hgr := fun W (b : Below w.heap.size w W) => groups_any a l c W (hx.below b) hl hd hz
  have hsl := grpF_lt (l := l) (S := leftM l) (by have := leftM_lt l hl; omega) (by rw [leftM_sum, hz])
  have hgl := grpL_len hl hz
  have hcl := fun W (b : Below w.heap.size w W) => clone_any a l c W (hx.below b) hn (by omega)
  have hlp : 0 < l.length := List.length_pos_iff.2 hne
  have hbd : BdI l 100000 := debts hd
  have hlt : leftM l < 2 ^ l.length := maskOf_lt _ _
  have hP : Parts l (leftM l) (grpL l) := grp_parts l _ (by have := leftM_lt l hl; omega) (by rw [leftM_sum, hz])
  have hS : settleL l = settleAll (grpL l) l := rfl
  have hT : (settleL l).length ≤ 10 := by
    have := (settleL_ok (by omega) hz hbd).2
    have := cntP_bound (nzB l) l.length
    omega
  obtain ⟨T, hTe⟩ : ∃ T, settleL l = T := ⟨_, rfl⟩
  rw [hTe] at hS hT ⊢
  obtain ⟨gs, hgs⟩ : ∃ gs, grpL l = gs := ⟨_, rfl⟩
  rw [show grpF l (leftM l) = gs from hgs] at hsl
  rw [hgs] at hgl hP hS
  simp only [hgs] at hgr
  obtain ⟨S0, hS0⟩ : ∃ S, leftM l = S := ⟨_, rfl⟩
  rw [hS0] at hlt hP
  have HP := Lib.hid hP
  have HS := Lib.hid hS
  have Hsl := Lib.hid hsl
  have Hlt := Lib.hid hlt
  have Hbd := Lib.hid hbd
  have hlbits : ∀ i, S0.testBit i = true → nzB l i = true := fun i hi => by
    have hi' := bit_lt hlt hi
    rw [← leftM_bit l hi', hS0]; exact hi
  have Hb := Lib.hid hlbits
  clear hP hS hsl hlt hbd hTe hgs hS0 h0 hz hd hne hlbits
  go_enter Try.func31, Try.ntmps31
  go_wp2_with (first
    | (go_at_call 64; (with_reducible refine ck.mono ?_); rintro e w1 ⟨rfl, b1⟩)
    | (go_at_call 58; (with_reducible refine (hcl _ (by assumption)).mono ?_); rintro e w2 ⟨a2, c2, rfl, own2, b2⟩))
  obtain ⟨g, rfl⟩ : ∃ g, a2 = some ⟨g, 0, none⟩ := by
    rcases own2.form with ⟨_, _, h, _⟩ | ⟨g, h, _⟩
    · omega
    · exact ⟨g, h⟩
  obtain ⟨hgb, hrow⟩ := own2.row
  have hr : RowI w2 g l := hrow
  clear hrow own2 hn hcl ck
  obtain ⟨W3, hW3⟩ : ∃ z : World, z = w2.alloc (.cells #[.slice (some ⟨g, 0, none⟩) l.length c2] 25) := ⟨_, rfl⟩
  have C3 : Cells W3 w2.heap.size #[.slice (some ⟨g, 0, none⟩) l.length c2] 25 := by rw [hW3]; exact Cells.new _ _ _
  have b3 : Below w2.heap.size w2 W3 := by rw [hW3]; exact (Below.refl _ _).alloc (Nat.le_refl _) _
  have z3 : W3.heap.size = w2.heap.size + 1 := by rw [hW3]; simp
  rw [← hW3]
  clear hW3
  have hr3 := hr.below b3
  have t3 : Below w.heap.size w W3 := (b1.trans (b2.mono b1.size)).trans (b3.mono (Nat.le_trans b1.size b2.size))
  refine (hgr _ t3).mono ?_
  rintro e w4 ⟨⟨ag, cg, rfl, hI, hf⟩, b4⟩
  have pl : StPl w w2.heap.size g w4.heap.size ag := by
    have := hr.lt
    have := b4.size
    have := b1.size
    refine ⟨by omega, by omega, by omega, by omega, fun x e => ?_⟩
    rcases hf with ⟨_, h, _⟩ | ⟨h1, g', h, h2⟩
    · rw [h] at e; cases e
    · rw [h] at e
      obtain ⟨b, off, e2, hb, _⟩ := hI 0 (List.length_pos_iff.2 h1)
      rw [h] at e2
      cases e; cases e2
      simp at h2 ⊢
      omega
  have st0 : StAt w w4 w2.heap.size g w4.heap.size l.length c2 ag gs l none 0 [] := ⟨t3.trans (b4.mono t3.size), C3.below b4, hr3.below b4, hI, OwnL.nil _ _ _ _, Nat.le_refl _⟩
  have hwB : w.heap.size ≤ w4.heap.size := st0.b.size
  obtain ⟨C, hC⟩ : ∃ z, w2.heap.size = z := ⟨_, rfl⟩
  rw [hC] at pl st0 ⊢
  obtain ⟨base, hB⟩ : ∃ z, w4.heap.size = z := ⟨_, rfl⟩
  rw [hB] at pl st0 hwB
  clear hf hI t3 b4 b3 hr3 C3 hr hgb z3 b1 b2 hC hB hgr
  go_wp2
  go_loopw [6, 8, 9, 10, 11, 12, 23] (fun u _ _ _ _ _ j X => ∃ (k : Nat) (L : List Int) (S : Nat) (ao : Option Addr) (co : Nat) (ps : List (Int × Int × Int)), k ≤ gs.length ∧ j = .int .i64 k ∧ u = .slice ao ps.length co ∧ StAt w X C g base l.length c2 ag gs L ao co ps ∧ L.length = l.length ∧ BdI L 100000 ∧ S < 2 ^ l.length ∧ Parts l S (gs.drop k) ∧ (∀ i, S.testBit i = true → L.getD i 0 = l.getD i 0 ∧ nzB l i = true) ∧ ps ++ settleAll (gs.drop k) L = T) (fun _ _ _ _ _ _ j _ => gs.length - (intOf j).toNat)
  case atStart => exact ⟨0, l, S0, none, 0, [], Nat.zero_le _, rfl, rfl, st0, rfl, Hbd.out, Hlt.out, by simpa using HP.out, fun i hi => ⟨rfl, Hb.out i hi⟩, by simpa using HS.out.symm⟩
  case round =>
    obtain ⟨k, L, S, ao, co, ps, hk, rfl, rfl, st, hLl, hBd, hSl, hPa, hLi, hsum⟩ := hrel
    rename World => X
    have Hsum := Lib.hid hsum
    have HLl := Lib.hid hLl
    have HPa := Lib.hid hPa
    have HLi := Lib.hid hLi
    have HBd := Lib.hid hBd
    have HSl := Lib.hid hSl
    clear hsum hLl hPa hLi hBd hSl
    by_cases hlt : k < gs.length
    · have hkI : (k : Int) < (gs.length : Int) := by omega
      obtain ⟨bs, os, rfl, hbs, hcs⟩ := st.s k hlt
      obtain ⟨s, hs⟩ : ∃ s, gs[k] = s := ⟨_, rfl⟩
      replace hcs : X.cell? ⟨bs, os + k, none⟩ = some (.int .u64 (s : Int)) := hcs.trans (by simp [hlt, hs])
      have hdr : gs.drop k = s :: gs.drop (k + 1) := by rw [List.drop_eq_getElem_cons hlt, hs]
      have hPa := HPa.out
      rw [hdr] at hPa
      have hIn : InB L l.length s := hPa.inB rfl (by omega) HSl.out HLl.out HBd.out (fun i hi => (HLi.out i hi).1)
      have hs10 : s < 1024 := Hsl.out s (hs ▸ List.getElem_mem hlt)
      have hli := setList_any s X hs10
      have hrange : ∀ x ∈ setN s 10, 0 ≤ x ∧ x < (l.length : Int) := fun x hx => by
        obtain ⟨i, _, hi, rfl⟩ := mem_setN.1 hx
        have := bit_lt hIn.slt hi
        omega
      have hql : (setN s 10).length ≤ 10 := setN_len s 10
      have hst := fun (L' : List Int) (h : InB L' l.length s) (hf : 0 ≤ fromI L' (setN s 10)) => h.step hf
      have hsum := Hsum.out
      rw [hdr] at hsum
      simp only [settleAll] at hsum
      have hsum2 : ps ++ (settleG 10 L (setN s 10) ++ settleAll (gs.drop (k + 1)) (runP L (settleG 10 L (setN s 10)))) = T := hsum
      have hsp := settleG_spec 10 L hIn
      obtain ⟨q, hq⟩ : ∃ q, setN s 10 = q := ⟨_, rfl⟩
      rw [hq] at hli hrange hql hsum2
      simp only [hq] at hst
      have Hst := Lib.hid hst
      have Hsum2 := Lib.hid hsum2
      have HPa2 := Lib.hid hPa
      have Hra := Lib.hid hrange
      have HIn := Lib.hid hIn
      clear hst hsum hsum2 hPa hrange hIn hs hdr hq Hsum HPa hsp
      go_wp2
      go_step3
      go_wp2_with fail
      go_at_call 66
      refine hli.mono ?_
      rintro e X2 ⟨⟨ar, cr, rfl, own⟩, b2⟩
      have st2 := st.below b2
      have hXb : base ≤ X.heap.size := st.z
      clear hcs hbs st
      go_wp2
      go_step3
      go_wp2
      go_loopw [6, 10, 11, 12] (fun u _ _ _ Y => ∃ (m : Nat) (L' : List Int) (ao' : Option Addr) (co' : Nat) (ps' : List (Int × Int × Int)), u = .slice ao' ps'.length co' ∧ StAt w Y C g base l.length c2 (some ⟨bs, os, none⟩) gs L' ao' co' ps' ∧ InB L' l.length s ∧ cntS L' s l.length ≤ m ∧ (∀ i, s.testBit i = false → L'.getD i 0 = L.getD i 0) ∧ OwnL 3 1 X.heap.size Y ar cr q.length (q.map (Value.int .i64)) ∧ ps' ++ (settleG m L' q ++ settleAll (gs.drop (k + 1)) (runP L' (settleG m L' q))) = T) (fun u _ _ _ _ => T.length - lenV u)
      case atStart => exact ⟨10, L, ao, co, ps, rfl, st2, HIn.out, by have := cntP_bound (fun i => s.testBit i && nzB L i) l.length; unfold cntS; omega, fun i _ => rfl, own, Hsum2.out⟩
      case round =>
        obtain ⟨m, L', ao', co', ps', rfl, st3, hIn, hcnt, hLe, own3, hsm⟩ := hrel
        clear st2 own b2
        rename World => Y
        have hlen := hIn.len
        have hints := own3.ints.1
        have hix := indexFunc_int ar q cr 68 #[] #[.pointer (some ⟨C, 0, none⟩)] (negB L') Y (by omega) hints (enters Try.func68 (by kernel_rfl) rfl) (fun x hx => neg_meets C g L' l.length c2 Y (st3.c.cell 0) st3.r hlen x (Hra.out x hx))
        have hfe : idxBy (negB L') q 0 = fromI L' q := rfl
        rw [hfe] at hix
        have Hsm := Lib.hid hsm
        have Hcnt := Lib.hid hcnt
        have HLe := Lib.hid hLe
        have Hlen := Lib.hid hlen
        clear hsm hcnt hLe hfe hlen
        by_cases hF : fromI L' q < 0
        · have hend : ps' ++ settleAll (gs.drop (k + 1)) L' = T := by
            have := Hsm.out
            rw [settleG_neg hF] at this
            simpa [runP] using this
          have Hend := Lib.hid hend
          obtain ⟨F, hFe⟩ : ∃ F, fromI L' q = F := ⟨_, rfl⟩
          rw [hFe] at hix hF
          have hxs : S ^^^ s < 2 ^ l.length ∧ (∀ i, (S ^^^ s).testBit i = true → L'.getD i 0 = l.getD i 0 ∧ nzB l i = true) := by
            obtain ⟨h1, h2, _, _⟩ := HPa2.out
            have hxl := xor_lt h1 (ne_of_bit h2)
            have := HSl.out
            refine ⟨by omega, fun i hi => ?_⟩
            rw [Nat.testBit_xor] at hi
            cases hs : s.testBit i
            · rw [hs] at hi
              have hi : S.testBit i = true := by simpa using hi
              rw [HLe.out i hs]
              exact HLi.out i hi
            · rw [hs, sub_bit h1 hs] at hi; cases hi
          have Hxs := Lib.hid hxs
          have hbd2 := hIn.bd
          clear hend hFe hxs hbd2
          go_wp2_with (go_at_call 67; (with_reducible refine hix.mono ?_); rintro e Y2 ⟨rfl, b3⟩)
          rw [Exit.noGoto_normal]
          go_wp2
          go_roundw
          case rel => exact ⟨k + 1, L', S ^^^ s, ao', co', ps', by omega, by go_num, rfl, st3.below b3, Hlen.out, hIn.bd, Hxs.out.1, HPa2.out.2.2.2, Hxs.out.2, Hend.out⟩
          case measure => simp [intOf]; omega
        · obtain ⟨f, tt, hfb, htb, hfn, htn, hft, hlf, hlt2, hstp, j1, j2, j3, j4, j5⟩ := Hst.out L' hIn (by omega)
          obtain ⟨p1, p2, p3, p4, p5⟩ := hIn.pay hfb htb hfn htn hft hlf hlt2
          cases m with
          | zero => exact absurd Hcnt.out (by omega)
          | succ m =>
          have hsm2 := Hsm.out
          rw [settleG_pos hF, hstp] at hsm2
          have hcn := Hcnt.out
          have hTl : ps'.length + 1 ≤ T.length := by rw [← hsm2]; simp
          have hix2 := fun Y2 (b : Below Y.heap.size Y Y2) => indexFunc_int ar q cr 69 #[] #[.pointer (some ⟨C, 0, none⟩)] (posB L') Y2 (by omega) (hints.below b) (enters Try.func69 (by kernel_rfl) rfl) (fun x hx => pos_meets C g L' l.length c2 Y2 ((st3.below b).c.cell 0) (st3.below b).r Hlen.out x (Hra.out x hx))
          have hte : idxBy (posB L') q 0 = toI L' q := rfl
          rw [hte] at hix2
          obtain ⟨F, hFe⟩ : ∃ F, fromI L' q = F := ⟨_, rfl⟩
          obtain ⟨G, hGe⟩ : ∃ G, toI L' q = G := ⟨_, rfl⟩
          rw [hFe] at hix hF j1 j2
          rw [hGe] at hix2 j3 j4 j5
          obtain ⟨jf, rfl⟩ : ∃ jf : Nat, F = (jf : Int) := ⟨F.toNat, by omega⟩
          obtain ⟨jt, rfl⟩ : ∃ jt : Nat, G = (jt : Int) := ⟨G.toNat, by omega⟩
          simp only [Int.toNat_natCast] at j1 j2 j4 j5
          have hbf := hIn.bd.at_ f (by rw [Hlen.out]; exact hfn)
          have hbt := hIn.bd.at_ tt (by rw [Hlen.out]; exact htn)
          have hPF : payF L' ((f : Int), (tt : Int), min (-(L'.getD f 0)) (L'.getD tt 0)) = (L'.set f (L'.getD f 0 + min (-(L'.getD f 0)) (L'.getD tt 0))).set tt (L'.getD tt 0 - min (-(L'.getD f 0)) (L'.getD tt 0)) := by
            have : ¬ f = tt := hft
            simp [payF, List.getElem?_set, this]
          have hfL : f < L'.length := by rw [Hlen.out]; exact hfn
          have htL : tt < L'.length := by rw [Hlen.out]; exact htn
          obtain ⟨x, hxe⟩ : ∃ x, L'.getD f 0 = x := ⟨_, rfl⟩
          obtain ⟨y, hye⟩ : ∃ y, L'.getD tt 0 = y := ⟨_, rfl⟩
          rw [hxe, hye] at hPF hsm2 p2 p3 p5
          rw [hxe] at hbf hlf
          rw [hye] at hbt hlt2
          obtain ⟨M, hMe⟩ : ∃ M, min (-x) y = M := ⟨_, rfl⟩
          have hM1 : 1 ≤ M ∧ M ≤ 100000 ∧ M ≤ -x ∧ M ≤ y := by omega
          rw [hMe] at hPF hsm2 p2 p3 p5
          obtain ⟨gl, rfl, hgl2, _, _, _, _, hcl⟩ : ∃ gl, ar = some ⟨gl, 0, none⟩ ∧ X.heap.size ≤ gl ∧ gl < Y.heap.size ∧ q.length ≤ cr ∧ cr ≤ maxLen ∧ (∀ j, Y.frozen? ⟨gl, j, none⟩ = false) ∧ (∀ j u, (q.map (Value.int .i64))[j]? = some u → Y.cell? ⟨gl, j, none⟩ = some u) := by
            rcases own3.form with ⟨_, _, h, _⟩ | h
            · omega
            · exact h
          have cf := hcl jf (.int .i64 (f : Int)) (by simp [j1]; rw [← j2]; simp [j1])
          have ct := hcl jt (.int .i64 (tt : Int)) (by simp [j4]; rw [← j5]; simp [j4])
          have Hsm2 := Lib.hid hsm2
          have HPF := Lib.hid hPF
          have Hp2 := Lib.hid p2
          have Hp5 := Lib.hid p5
          have Hp3 := Lib.hid p3
          have Hxe := Lib.hid hxe
          have Hye := Lib.hid hye
          have HMe := Lib.hid hMe
          have Hft := Lib.hid hft
          clear hsm2 hPF p1 p2 p3 p4 p5 hstp hxe hye hMe hft hfb htb Hst j2 j5 hcl hints Hsm hFe hGe hte
          go_wp2_with (first
            | (go_at_call 67; (with_reducible refine (hix2 _ (by assumption)).mono ?_); rintro e Y4 ⟨rfl, b4⟩)
            | (go_at_call 67; (with_reducible refine hix.mono ?_); rintro e Y3 ⟨rfl, b3⟩))
          have b34 := b3.trans (b4.mono b3.size)
          have st4 := st3.below b34
          have own4 := own3.kept b34
          replace cf := below_cell b34 cf
          replace ct := below_cell b34 ct
          have cC := st4.c.cell 0
          simp at cC
          have rf := st4.r.cell hfL
          have rt := st4.r.cell htL
          rw [Hxe.out] at rf
          rw [Hye.out] at rt
          have lC := st4.c.lt
          have lg := st4.r.lt
          have ll : gl < Y4.heap.size := by have := b34.size; omega
          have hjf : (jf : Int) < (q.length : Int) := by omega
          have hjt : (jt : Int) < (q.length : Int) := by omega
          have hfI : (f : Int) < (l.length : Int) := by omega
          have htI : (tt : Int) < (l.length : Int) := by omega
          have wN : IntKind.i64.wrap (-x) = -x := IntWalk.i64_in _ (by omega)
          have wA : IntKind.i64.wrap (x + M) = x + M := IntWalk.i64_in _ (by omega)
          have wB : IntKind.i64.wrap (y - M) = y - M := IntWalk.i64_in _ (by omega)
          clear st3 own3 b3 b4 hix hix2
          (refine wp_region_seq 27 [] [27] 87 [true, true, true, true, true, true, true, true, true, true, true, true, true, true, true, true, true, true, true, true, true, true, true, false, false, false, false] [LitV Y4.heap.size 2 #[.int .i64 (-x), .int .i64 y] 3, IntV M, EqV (.agg #[.int .i64 (f : Int), .int .i64 (tt : Int), .int .i64 M]), PtrV Y4.heap.size #[.int .i64 0, .int .i64 0, .int .i64 0] 91] (by kernel_rfl) (by kernel_rfl) rfl (mono_cons (fun v w w' h hb => h.kept hb) (mono_cons (fun v w w' h hb => h.kept hb) (mono_cons (fun v w w' h hb => h.kept hb) (mono_cons (fun v w w' h hb => h.kept hb) mono_nil)))) ?_; simp only [pickOps, List.filterMap_cons, List.filterMap_nil, List.getElem?_toArray, List.getElem?_cons_succ, List.getElem?_cons_zero]; (repeat (refine wpFl_step _ rfl (fun w => (by go_simp; rfl)) ?_)); refine wpFl_nil ?_; simp only [maskOps, dummy, Act.put, List.setIfInBounds_toArray, List.set_cons_zero, List.set_cons_succ, List.take_succ_cons, List.take_zero, List.drop_succ_cons, List.drop_zero]; (repeat (refine wpQB_step (fun K hK => ?_); go_simp; first | (refine hK _ ?_; clear hK K) | (apply Exists.intro; refine ⟨fun ex => ?_, hK _ ?_⟩; (fail); clear hK K))); refine wpQB_nil ?_; simp only [relObl2, under, relEnd, and_true, List.nil_append, List.cons_append])
          refine ⟨⟨?_, ?_, ?_, ?_⟩, ?_⟩
          · intro e
            go_simp
            exact ⟨(Below.refl _ _).alloc (Nat.le_refl _) _, e.to.heap.size, rfl, by have := e.size; omega, Cells.new _ _ _⟩
          · intro e v1 h1
            obtain ⟨gg, rfl, _, hgg⟩ := h1 (by kernel_rfl)
            go_simp
            refine (smallest_any _ (-x) y 2 e.to (hgg.ints [-x, y] rfl)).mono ?_
            rintro _ _ ⟨rfl, rfl⟩
            exact ⟨Below.refl _ _, by unfold IntV; rw [HMe.out]⟩
          · intro e v1 h1 v2 h2
            obtain rfl := h2 (by kernel_rfl)
            go_simp
            exact ⟨Below.refl _ _, rfl⟩
          · intro e v1 h1 v2 h2 v3 h3
            go_simp
            exact ⟨(Below.refl _ _).alloc (Nat.le_refl _) _, e.to.heap.size, rfl, by have := e.size; omega, Cells.new _ _ _⟩
          rintro e v1 h1 v2 h2 v3 h3 v4 h4
          obtain ⟨g7, rfl, hg7, C7⟩ := h4
          obtain rfl : v3 = _ := h3
          simp only [Act.put, List.setIfInBounds_toArray, List.set_cons_zero, List.set_cons_succ]
          have b4 := e.below
          obtain ⟨W4, hW4⟩ : ∃ z : World, z = e.to := ⟨_, rfl⟩
          rw [← hW4] at b4 C7 ⊢
          clear hW4 e h1 h2
          have f0 := C7.frozen 0
          have f1 := C7.frozen 1
          have f2 := C7.frozen 2
          have yl := C7.lt
          have y0 := C7.cell 0
          have y1 := C7.cell 1
          have y2 := C7.cell 2
          simp at y0 y1 y2
          clear cf ct rf rt cC lg ll lC
          go_upto_region 14 with fail
          obtain ⟨W5, hW5⟩ : ∃ z : World, z = ((W4.setCell ⟨g7, 0, none⟩ (.int .i64 (f : Int))).setCell ⟨g7, 1, none⟩ (.int .i64 (tt : Int))).setCell ⟨g7, 2, none⟩ (.int .i64 M) := ⟨_, rfl⟩
          have b5 : Below Y4.heap.size Y4 W5 := by rw [hW5]; exact ((b4.setCell (p := ⟨g7, 0, none⟩) hg7 _).setCell (p := ⟨g7, 1, none⟩) hg7 _).setCell (p := ⟨g7, 2, none⟩) hg7 _
          have C5 : Cells W5 g7 #[.int .i64 (f : Int), .int .i64 (tt : Int), .int .i64 M] 91 := by rw [hW5]; exact ((C7.set 0 _).set 1 _).set 2 _
          rw [← hW5]
          clear hW5 f0 f1 f2 yl C7 b4 y0 y1 y2
          have st5 := st4.below b5
          have own5 := own4.kept b5
          have hg7g : g7 ≠ g := by have := pl.gb; have := st4.z; omega
          have cC := st5.c.cell 0
          simp at cC
          have rf := st5.r.cell hfL
          rw [Hxe.out] at rf
          have ff := st5.r.frozen f
          have lC := st5.c.lt
          have lg := st5.r.lt
          have y0 := C5.cell 0
          have y2 := C5.cell 2
          have yl := C5.lt
          simp at y0 y2
          (refine wp_region_seq 9 [] [9] 87 [true, true, true, true, true, true, true, true, true] [] (by kernel_rfl) (by kernel_rfl) rfl mono_nil ?_; simp only [pickOps, List.filterMap_cons, List.filterMap_nil, List.getElem?_toArray, List.getElem?_cons_succ, List.getElem?_cons_zero]; (repeat (refine wpFl_step _ rfl (fun w => (by go_simp; rfl)) ?_)); refine wpFl_nil ?_; simp only [maskOps, dummy, Act.put, List.setIfInBounds_toArray, List.set_cons_zero, List.set_cons_succ, List.take_succ_cons, List.take_zero, List.drop_succ_cons, List.drop_zero]; (repeat (refine wpQB_step (fun K hK => ?_); go_simp; first | (refine hK _ ?_; clear hK K) | (apply Exists.intro; refine ⟨fun ex => ?_, hK _ ?_⟩; (fail); clear hK K))); refine wpQB_nil ?_; simp only [relObl2, under, relEnd, and_true, List.nil_append, List.cons_append])
          refine ⟨trivial, fun e => ?_⟩
          have b6 := e.below
          obtain ⟨W6, hW6⟩ : ∃ x : World, x = e.to := ⟨_, rfl⟩
          rw [← hW6] at b6 ⊢
          clear hW6 e
          have rf6 := below_cell b6 rf
          have ff6 := (st5.r.below b6).frozen f
          have lg6 := Nat.lt_of_lt_of_le lg b6.size
          clear rf ff y0 y2 yl cC
          go_upto_region 15 with fail
          have hgX : g < X.heap.size := by have := pl.gb; omega
          obtain ⟨W7, hW7⟩ : ∃ z : World, z = W6.setCell ⟨g, f, none⟩ (.int .i64 (x + M)) := ⟨_, rfl⟩
          have st7 : StAt w W7 C g base l.length c2 (some ⟨bs, os, none⟩) gs (L'.set f (x + M)) ao' co' ps' := by rw [hW7]; exact (st5.below b6).store pl f _
          have C7 : Cells W7 g7 #[.int .i64 (f : Int), .int .i64 (tt : Int), .int .i64 M] 91 := by rw [hW7]; exact (C5.below b6).other hg7g _ _
          have own7 : OwnL 3 1 X.heap.size W7 (some ⟨gl, 0, none⟩) cr q.length (q.map (Value.int .i64)) := by rw [hW7]; exact (own5.kept b6).store (p := ⟨g, f, none⟩) hgX _
          rw [← hW7]
          clear hW7 rf6 ff6 lg6 b6 C5 st5 own5 b5 st4 own4 lg lC
          have hLt : (L'.set f (x + M)).getD tt 0 = y := by
            have : ¬ f = tt := Hft.out
            have e := Hye.out
            simp [List.getElem?_set, this]
            simpa using e
          have cC := st7.c.cell 0
          simp at cC
          have rt := st7.r.cell (k := tt) (by simpa using htL)
          rw [hLt] at rt
          have ff := st7.r.frozen tt
          have lC := st7.c.lt
          have lg := st7.r.lt
          have y1 := C7.cell 1
          have y2 := C7.cell 2
          have yl := C7.lt
          simp at y1 y2
          clear hLt
          (refine wp_region_seq 9 [] [9] 87 [true, true, true, true, true, true, true, true, true] [] (by kernel_rfl) (by kernel_rfl) rfl mono_nil ?_; simp only [pickOps, List.filterMap_cons, List.filterMap_nil, List.getElem?_toArray, List.getElem?_cons_succ, List.getElem?_cons_zero]; (repeat (refine wpFl_step _ rfl (fun w => (by go_simp; rfl)) ?_)); refine wpFl_nil ?_; simp only [maskOps, dummy, Act.put, List.setIfInBounds_toArray, List.set_cons_zero, List.set_cons_succ, List.take_succ_cons, List.take_zero, List.drop_succ_cons, List.drop_zero]; (repeat (refine wpQB_step (fun K hK => ?_); go_simp; first | (refine hK _ ?_; clear hK K) | (apply Exists.intro; refine ⟨fun ex => ?_, hK _ ?_⟩; (fail); clear hK K))); refine wpQB_nil ?_; simp only [relObl2, under, relEnd, and_true, List.nil_append, List.cons_append])
          refine ⟨trivial, fun e => ?_⟩
          have b8 := e.below
          obtain ⟨W8, hW8⟩ : ∃ x : World, x = e.to := ⟨_, rfl⟩
          rw [← hW8] at b8 ⊢
          clear hW8 e
          have rt8 := below_cell b8 rt
          have ff8 := (st7.r.below b8).frozen tt
          have lg8 := Nat.lt_of_lt_of_le lg b8.size
          clear rt ff y1 y2 yl cC
          go_upto_region 16 with fail
          obtain ⟨W9, hW9⟩ : ∃ z : World, z = W8.setCell ⟨g, tt, none⟩ (.int .i64 (y - M)) := ⟨_, rfl⟩
          have st9 : StAt w W9 C g base l.length c2 (some ⟨bs, os, none⟩) gs ((L'.set f (x + M)).set tt (y - M)) ao' co' ps' := by rw [hW9]; exact (st7.below b8).store pl tt _
          have C9 : Cells W9 g7 #[.int .i64 (f : Int), .int .i64 (tt : Int), .int .i64 M] 91 := by rw [hW9]; exact (C7.below b8).other hg7g _ _
          have own9 : OwnL 3 1 X.heap.size W9 (some ⟨gl, 0, none⟩) cr q.length (q.map (Value.int .i64)) := by rw [hW9]; exact (own7.kept b8).store (p := ⟨g, tt, none⟩) hgX _
          rw [← hW9]
          clear hW9 rt8 ff8 lg8 b8 C7 st7 own7 lg lC
          have y0 := C9.cell 0
          have y1 := C9.cell 1
          have y2 := C9.cell 2
          have yl := C9.lt
          simp at y0 y1 y2
          go_wp2_with (at_builtin; refine wpList_app_lit_at elPay rfl _ _ rfl base ao' ps'.length co' _ rfl st9.o 1 1 rfl rfl (fun u hu => by simp at hu; rcases hu with rfl | rfl | rfl <;> rfl) (by unfold maxLen; omega) (by omega) st9.z ?_; intro a9 c9 W10 o10 b10 ap10)
          have st10 := st9.pay pl (q := ((f : Int), (tt : Int), M)) o10 b10 hwB
          have own10 := (ap10 own9 (own_apart (by decide) st9.o own9)).1
          go_roundw
          case rel => exact ⟨m, payF L' ((f : Int), (tt : Int), M), a9, c9, ps' ++ [((f : Int), (tt : Int), M)], by simp, by rw [HPF.out]; exact st10, Hp2.out, by have := Hp3.out; have := Hcnt.out; omega, fun i hi => (Hp5.out i hi).trans (HLe.out i hi), own10, by rw [← Hsm2.out]; simp [runP]⟩
          case measure => simp [lenV]; omega
    · obtain rfl : k = gs.length := by omega
      have e : ps = T := by have := Hsum.out; rw [List.drop_length] at this; simpa [settleAll] using this
      subst e
      have hR := st.o.recs3
      go_wp2
      go_ret2
      exact ⟨⟨ao, co, rfl, hR⟩, st.b⟩
end
end Go.Proofs.Ytomjlmhnjgohdaa
