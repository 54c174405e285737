/- pay, plain: groups and payments; no payments settle with fewer than the stations less the groups -/
import Derived.Test.YtomjlmhnjgohdaaAi
namespace Go.Proofs.Ytomjlmhnjgohdaa
set_option linter.unusedVariables false
set_option linter.unusedSimpArgs false
set_option linter.unnecessarySimpa false

/-! ### sums over the stations of a set -/
def sumP (l : List Int) (p : Nat → Bool) : Nat → Int
  | 0 => 0
  | n + 1 => sumP l p n + if p n then l.getD n 0 else 0
theorem sumP_congr {l : List Int} {p q : Nat → Bool} : ∀ (n : Nat), (∀ i, i < n → p i = q i) → sumP l p n = sumP l q n
  | 0, _ => rfl
  | n + 1, h => by rw [sumP, sumP, sumP_congr n (fun i hi => h i (by omega)), h n (by omega)]
theorem sumP_none {l : List Int} {p : Nat → Bool} : ∀ (n : Nat), (∀ i, i < n → p i = true → l.getD i 0 = 0) → sumP l p n = 0
  | 0, _ => rfl
  | n + 1, h => by
    rw [sumP, sumP_none n (fun i hi => h i (by omega))]
    by_cases hp : p n = true
    · rw [if_pos hp, h n (by omega) hp]; rfl
    · rw [if_neg hp]; rfl
theorem sumP_or {l : List Int} {p q : Nat → Bool} : ∀ (n : Nat), (∀ i, i < n → p i = true → q i = false) → sumP l (fun i => p i || q i) n = sumP l p n + sumP l q n
  | 0, _ => rfl
  | n + 1, h => by
    rw [sumP, sumP, sumP, sumP_or n (fun i hi => h i (by omega))]
    have := h n (by omega)
    cases hp : p n <;> cases hq : q n
    · simp
    · simp; omega
    · simp; omega
    · rw [hp, hq] at this; simp at this
theorem sumP_one {l : List Int} {t : Nat} : ∀ (n : Nat), sumP l (fun i => i == t) n = if t < n then l.getD t 0 else 0
  | 0 => rfl
  | n + 1 => by
    rw [sumP, sumP_one n]
    by_cases h : n = t
    · subst h; simp
    · rw [if_neg (show ¬ (n == t) = true by simpa using h)]
      by_cases h2 : t < n
      · rw [if_pos h2, if_pos (by omega)]; simp
      · rw [if_neg h2, if_neg (by omega)]; rfl
theorem sumP_set {l : List Int} {p : Nat → Bool} {i : Nat} {v : Int} (hi : i < l.length) : ∀ (n : Nat), sumP (l.set i v) p n = sumP l p n + if decide (i < n) && p i then v - l.getD i 0 else 0
  | 0 => by simp [sumP]
  | n + 1 => by
    rw [sumP, sumP, sumP_set hi n]
    by_cases h : n = i
    · subst h
      have e : (l.set n v).getD n 0 = v := by simp [hi]
      rw [e]
      by_cases hp : p n = true
      · simp [hp]; omega
      · simp [hp]
    · have e : (l.set i v).getD n 0 = l.getD n 0 := by simp [List.getElem?_set, Ne.symm h]
      rw [e]
      by_cases hp : p i = true
      · by_cases h2 : i < n
        · simp [hp, h2, show i < n + 1 by omega]; omega
        · simp [hp, h2, show ¬ i < n + 1 by omega]
      · simp [hp]

/-! ### colourings: groups of the stations of a set, each of them in balance -/
structure Col (l : List Int) (dom : Nat → Bool) (m : Nat) (c : Nat → Nat) : Prop where
  lt : ∀ i, i < l.length → dom i = true → c i < m
  onto : ∀ j, j < m → ∃ i, i < l.length ∧ dom i = true ∧ c i = j
  zero : ∀ j, j < m → sumP l (fun i => dom i && c i == j) l.length = 0
/-- A colour that nobody has is left out. -/
theorem Col.drop {l : List Int} {dom : Nat → Bool} {m j : Nat} {c : Nat → Nat} (hj : j < m) (lt : ∀ i, i < l.length → dom i = true → c i < m) (no : ∀ i, i < l.length → dom i = true → c i ≠ j)
    (onto : ∀ x, x < m → x ≠ j → ∃ i, i < l.length ∧ dom i = true ∧ c i = x) (zero : ∀ x, x < m → x ≠ j → sumP l (fun i => dom i && c i == x) l.length = 0) :
    Col l dom (m - 1) (fun i => if c i = m - 1 then j else c i) := by
  refine ⟨fun i hi hd => ?_, fun x hx => ?_, fun x hx => ?_⟩
  · have := lt i hi hd
    have := no i hi hd
    split <;> omega
  · by_cases hxj : x = j
    · obtain ⟨i, hi, hd, hc⟩ := onto (m - 1) (by omega) (by omega)
      exact ⟨i, hi, hd, by simp [hc, hxj]⟩
    · obtain ⟨i, hi, hd, hc⟩ := onto x (by omega) hxj
      exact ⟨i, hi, hd, by rw [if_neg (by omega), hc]⟩
  · by_cases hxj : x = j
    · rw [← zero (m - 1) (by omega) (by omega)]
      refine sumP_congr _ fun i hi => ?_
      cases hd : dom i
      · rfl
      · have := no i hi hd
        by_cases hc : c i = m - 1
        · simp [hc, hxj]
        · have e1 : (c i == j) = false := by simpa using this
          have e2 : (c i == m - 1) = false := by simpa using hc
          simp [hc, hxj, e1, e2]
    · rw [← zero x (by omega) hxj]
      refine sumP_congr _ fun i hi => ?_
      cases hd : dom i
      · rfl
      · by_cases hc : c i = m - 1
        · have e1 : (j == x) = false := by simpa using Ne.symm hxj
          have e2 : (m - 1 == x) = false := by simp; omega
          simp [hc, e1, e2]
        · simp [hc]
theorem Col.congr {l : List Int} {dom dom' : Nat → Bool} {m : Nat} {c : Nat → Nat} (h : Col l dom m c) (hd : ∀ i, i < l.length → dom' i = dom i) : Col l dom' m c :=
  ⟨fun i hi h1 => h.lt i hi (by rw [← hd i hi]; exact h1), fun j hj => by
    obtain ⟨i, hi, h1, h2⟩ := h.onto j hj
    exact ⟨i, hi, by rw [hd i hi]; exact h1, h2⟩, fun j hj => by
    rw [← h.zero j hj]
    exact sumP_congr _ fun i hi => by rw [hd i hi]⟩

/-! ### stations that owe nothing are left out -/
def nzB (l : List Int) (i : Nat) : Bool := l.getD i 0 != 0
def cntP (p : Nat → Bool) : Nat → Nat
  | 0 => 0
  | n + 1 => cntP p n + if p n then 1 else 0
theorem Col.without {l : List Int} {m : Nat} {c : Nat → Nat} (h : Col l (fun _ => true) m c) : ∀ t, t ≤ l.length → ∃ m' c', Col l (fun i => !(decide (i < t) && !nzB l i)) m' c' ∧ m + cntP (nzB l) t ≤ m' + t
  | 0, _ => ⟨m, c, h.congr (fun i _ => by simp), by simp [cntP]⟩
  | t + 1, ht => by
    obtain ⟨m', c', h', hm⟩ := Col.without h t (by omega)
    by_cases hz : nzB l t = true
    · refine ⟨m', c', h'.congr fun i hi => ?_, by rw [cntP, if_pos hz]; omega⟩
      by_cases he : i = t
      · subst he; simp [hz]
      · simp [show (i < t + 1) ↔ i < t by omega]
    · have hz0 : l.getD t 0 = 0 := by simpa [nzB] using hz
      have hzf : nzB l t = false := by simpa using hz
      have sub : ∀ i, (!(decide (i < t + 1) && !nzB l i)) = (!(decide (i < t) && !nzB l i) && !(i == t)) := fun i => by
        by_cases he : i = t
        · subst he; simp [hzf]
        · simp [show (i < t + 1) ↔ i < t by omega, he]
      have ht' : (!(decide (t < t) && !nzB l t)) = true := by simp
      have sums : ∀ x, sumP l (fun i => (!(decide (i < t + 1) && !nzB l i)) && c' i == x) l.length = sumP l (fun i => (!(decide (i < t) && !nzB l i)) && c' i == x) l.length := fun x => by
        have e : sumP l (fun i => (!(decide (i < t) && !nzB l i)) && c' i == x) l.length = sumP l (fun i => ((!(decide (i < t + 1) && !nzB l i)) && c' i == x) || (i == t && c' t == x)) l.length := by
          refine sumP_congr _ fun i hi => ?_
          rw [sub]
          by_cases he : i = t
          · subst he; simp
          · have e1 : (i == t) = false := by simpa using he
            simp [e1]
        rw [e, sumP_or]
        · rw [sumP_none (p := fun i => i == t && c' t == x)]
          · omega
          · intro i _ hp
            simp only [Bool.and_eq_true, beq_iff_eq] at hp
            rw [hp.1]; exact hz0
        · intro i _ hp
          rw [sub] at hp
          simp only [Bool.and_eq_true, Bool.not_eq_true'] at hp
          simp [hp.1.2]
      by_cases hex : ∃ i, i < l.length ∧ (!(decide (i < t + 1) && !nzB l i)) = true ∧ c' i = c' t
      · refine ⟨m', c', ⟨fun i hi hd => h'.lt i hi (by rw [sub] at hd; exact (Bool.and_eq_true _ _ ▸ hd).1), fun j hj => ?_, fun j hj => ?_⟩, by rw [cntP, if_neg hz]; omega⟩
        · obtain ⟨i, hi, h1, h2⟩ := h'.onto j hj
          by_cases he : i = t
          · subst he
            obtain ⟨i2, a, b, d⟩ := hex
            exact ⟨i2, a, b, d.trans h2⟩
          · exact ⟨i, hi, by rw [sub, h1]; simp [he], h2⟩
        · rw [sums]; exact h'.zero j hj
      · have hno : ∀ i, i < l.length → (!(decide (i < t + 1) && !nzB l i)) = true → c' i ≠ c' t := fun i hi hd he => hex ⟨i, hi, hd, he⟩
        refine ⟨m' - 1, _, Col.drop (j := c' t) (h'.lt t (by omega) ht') (fun i hi hd => h'.lt i hi (by rw [sub] at hd; exact (Bool.and_eq_true _ _ ▸ hd).1)) hno (fun x hx hxj => ?_) (fun x hx _ => by rw [sums]; exact h'.zero x hx), ?_⟩
        · obtain ⟨i, hi, h1, h2⟩ := h'.onto x hx
          exact ⟨i, hi, by rw [sub, h1]; simp; intro he; subst he; exact hxj h2.symm, h2⟩
        · have := h'.lt t (by omega) ht'
          rw [cntP, if_neg hz]; omega
theorem Col.nonzero {l : List Int} {m : Nat} {c : Nat → Nat} (h : Col l (fun _ => true) m c) : ∃ m' c', Col l (nzB l) m' c' ∧ m + cntP (nzB l) l.length ≤ m' + l.length := by
  obtain ⟨m', c', h1, h2⟩ := h.without l.length (Nat.le_refl _)
  exact ⟨m', c', h1.congr (fun i hi => by simp [hi]), h2⟩

/-! ### payments -/
def payB (n : Nat) (p : Int × Int × Int) : Bool := decide (0 ≤ p.1) && decide (p.1 < n) && decide (0 ≤ p.2.1) && decide (p.2.1 < n) && p.1 != p.2.1 && decide (1 ≤ p.2.2) && decide (p.2.2 ≤ 100000)
def payF (l : List Int) (p : Int × Int × Int) : List Int :=
  (l.set p.1.toNat (l.getD p.1.toNat 0 + p.2.2)).set p.2.1.toNat ((l.set p.1.toNat (l.getD p.1.toNat 0 + p.2.2)).getD p.2.1.toNat 0 - p.2.2)
def settlesF (n : Nat) : List Int → List (Int × Int × Int) → Bool
  | l, [] => l.all (· == 0)
  | l, p :: ps => payB n p && settlesF n (payF l p) ps
theorem payF_len (l : List Int) (p : Int × Int × Int) : (payF l p).length = l.length := by simp [payF]
theorem payB_ok {n : Nat} {p : Int × Int × Int} (h : payB n p = true) : 0 ≤ p.1 ∧ p.1 < n ∧ 0 ≤ p.2.1 ∧ p.2.1 < n ∧ p.1 ≠ p.2.1 ∧ 1 ≤ p.2.2 ∧ p.2.2 ≤ 100000 := by
  simp only [payB, Bool.and_eq_true, decide_eq_true_eq, bne_iff_ne, ne_eq] at h
  obtain ⟨⟨⟨⟨⟨⟨a, b⟩, c⟩, d⟩, e⟩, f⟩, g⟩ := h
  exact ⟨a, b, c, d, e, f, g⟩
theorem payF_at {l : List Int} {p : Int × Int × Int} (h : payB l.length p = true) (i : Nat) : (payF l p).getD i 0 = l.getD i 0 + (if i = p.1.toNat then p.2.2 else 0) - (if i = p.2.1.toNat then p.2.2 else 0) := by
  obtain ⟨h1, h2, h3, h4, h5, _, _⟩ := payB_ok h
  have hne : p.1.toNat ≠ p.2.1.toNat := by omega
  have hf : p.1.toNat < l.length := by omega
  have ht : p.2.1.toNat < l.length := by omega
  unfold payF
  simp only [List.getD_eq_getElem?_getD, List.getElem?_set, List.length_set, hf, ht, if_true]
  by_cases a : p.2.1.toNat = i
  · subst a
    rw [if_pos rfl, if_neg (Ne.symm hne), if_neg hne, if_pos rfl]
    simp
  · rw [if_neg a, if_neg (Ne.symm a)]
    by_cases b : p.1.toNat = i
    · subst b; simp [hf]
    · simp [b, Ne.symm b]
theorem payF_sum {l : List Int} {p : Int × Int × Int} (h : payB l.length p = true) (q : Nat → Bool) : sumP (payF l p) q l.length = sumP l q l.length + (if q p.1.toNat then p.2.2 else 0) - (if q p.2.1.toNat then p.2.2 else 0) := by
  obtain ⟨h1, h2, h3, h4, h5, _, _⟩ := payB_ok h
  have hf : p.1.toNat < l.length := by omega
  have ht : p.2.1.toNat < l.length := by omega
  unfold payF
  rw [sumP_set (by simpa using ht), sumP_set hf]
  simp only [hf, ht, decide_true, Bool.true_and]
  cases q p.1.toNat <;> cases q p.2.1.toNat <;> simp <;> omega
/-- So many payments settle: then there are groups of all stations, at most so many fewer than stations. -/
theorem settles_col : ∀ (ps : List (Int × Int × Int)) (l : List Int), settlesF l.length l ps = true → ∃ m c, Col l (fun _ => true) m c ∧ l.length ≤ m + ps.length
  | [], l, h => ⟨l.length, id, ⟨fun i hi _ => hi, fun j hj => ⟨j, hj, rfl, rfl⟩, fun j _ => sumP_none _ fun i hi _ => by
      have := List.all_eq_true.1 h (l.getD i 0) (by rw [List.getD_eq_getElem?_getD, List.getElem?_eq_getElem hi]; exact List.getElem_mem hi)
      simpa using this⟩, by simp⟩
  | p :: ps, l, h => by
    simp only [settlesF, Bool.and_eq_true] at h
    obtain ⟨hp, hs⟩ := h
    obtain ⟨h1, h2, h3, h4, h5, _, _⟩ := payB_ok hp
    obtain ⟨m, c, C, hm⟩ := settles_col ps (payF l p) (by rw [payF_len]; exact hs)
    rw [payF_len] at hm
    have z := C.zero
    rw [payF_len] at z
    have lt := C.lt
    have onto := C.onto
    rw [payF_len] at lt onto
    have hf : p.1.toNat < l.length := by omega
    have ht : p.2.1.toNat < l.length := by omega
    by_cases hc : c p.1.toNat = c p.2.1.toNat
    · refine ⟨m, c, ⟨lt, onto, fun j hj => ?_⟩, by simp; omega⟩
      have := z j hj
      rw [payF_sum hp] at this
      simp only [Bool.true_and, hc] at this
      simp only [Bool.true_and]
      omega
    · refine ⟨m - 1, _, Col.drop (j := c p.1.toNat) (c := fun i => if c i = c p.1.toNat then c p.2.1.toNat else c i) (lt _ hf rfl) (fun i hi _ => ?_) (fun i hi _ => ?_) (fun x hx hxj => ?_) (fun x hx hxj => ?_), by simp; omega⟩
      · split
        · exact lt _ ht rfl
        · exact lt _ hi rfl
      · split
        · exact Ne.symm hc
        · assumption
      · obtain ⟨i, hi, _, hcx⟩ := onto x hx
        exact ⟨i, hi, rfl, by rw [if_neg (by omega)]; exact hcx⟩
      · have hz := z x hx
        rw [payF_sum hp] at hz
        simp only [Bool.true_and] at hz ⊢
        by_cases hxt : x = c p.2.1.toNat
        · have hz2 := z (c p.1.toNat) (lt _ hf rfl)
          rw [payF_sum hp] at hz2
          simp only [Bool.true_and] at hz2
          have e : sumP l (fun i => (if c i = c p.1.toNat then c p.2.1.toNat else c i) == x) l.length = sumP l (fun i => (c i == c p.1.toNat) || (c i == x)) l.length := by
            refine sumP_congr _ fun i _ => ?_
            subst hxt
            by_cases ha : c i = c p.1.toNat
            · simp [ha]
            · simp [ha]
          rw [e, sumP_or]
          · have n1 : (c p.1.toNat == x) = false := by simpa using Ne.symm hxj
            have n2 : (c p.2.1.toNat == c p.1.toNat) = false := by simpa using Ne.symm hc
            rw [n1] at hz
            rw [n2] at hz2
            simp only [hxt, beq_self_eq_true, if_true] at hz hz2 ⊢
            simp at hz hz2
            omega
          · intro i _ hi
            have hi : c i = c p.1.toNat := by simpa using hi
            rw [hi]
            simpa using Ne.symm hxj
        · have e : sumP l (fun i => (if c i = c p.1.toNat then c p.2.1.toNat else c i) == x) l.length = sumP l (fun i => c i == x) l.length := by
            refine sumP_congr _ fun i _ => ?_
            by_cases ha : c i = c p.1.toNat
            · have a1 : (c p.2.1.toNat == x) = false := by simpa using Ne.symm hxt
              have a2 : (c p.1.toNat == x) = false := by simpa using Ne.symm hxj
              simp [ha, a1, a2]
            · simp [ha]
          rw [e]
          have n1 : (c p.1.toNat == x) = false := by simpa using Ne.symm hxj
          have n2 : (c p.2.1.toNat == x) = false := by simpa using Ne.symm hxt
          rw [n1, n2] at hz
          simpa using hz
/-! ### sets as numbers -/
theorem sub_xor : ∀ (S s : Nat), s &&& S = s → (S ^^^ s) + s = S := by
  intro S
  induction S using Nat.strongRecOn with
  | _ S ih =>
    intro s h
    by_cases h0 : S = 0
    · subst h0
      have : s = 0 := by simpa using h.symm
      subst this; rfl
    · have h1 : (s / 2) &&& (S / 2) = s / 2 := by rw [← Nat.and_div_two, h]
      have h2 := ih (S / 2) (by omega) (s / 2) h1
      generalize hX : S ^^^ s = X
      have h3 : (S ^^^ s) / 2 = S / 2 ^^^ s / 2 := Nat.xor_div_two
      have h4 : (S ^^^ s) % 2 = 1 ↔ ¬ ((S % 2 = 1) ↔ (s % 2 = 1)) := Nat.xor_mod_two_eq_one
      have h5 : (s &&& S) % 2 = 1 ↔ s % 2 = 1 ∧ S % 2 = 1 := Nat.and_mod_two_eq_one
      rw [h] at h5
      rw [← h3] at h2
      rw [hX] at h2 h4
      omega
theorem sub_bit {s S : Nat} (h : s &&& S = s) {i : Nat} (hi : s.testBit i = true) : S.testBit i = true := by
  have := Nat.testBit_and s S i
  rw [h, hi] at this
  simpa using this.symm
theorem sub_of_bit {s S : Nat} (h : ∀ i, s.testBit i = true → S.testBit i = true) : s &&& S = s := by
  apply Nat.eq_of_testBit_eq
  intro i
  rw [Nat.testBit_and]
  cases hs : s.testBit i
  · rfl
  · rw [h i hs]; rfl
theorem bit_of_ne {s : Nat} (h : s ≠ 0) : ∃ i, s.testBit i = true := by
  apply Classical.byContradiction
  intro hn
  apply h
  apply Nat.eq_of_testBit_eq
  intro i
  cases hs : s.testBit i
  · simp
  · exact absurd ⟨i, hs⟩ hn
/-- The set of the stations below n that meet p. -/
def maskOf (p : Nat → Bool) : Nat → Nat
  | 0 => 0
  | n + 1 => if p n then maskOf p n ||| 2 ^ n else maskOf p n
theorem maskOf_bit (p : Nat → Bool) : ∀ (n i : Nat), (maskOf p n).testBit i = (decide (i < n) && p i)
  | 0, i => by simp [maskOf]
  | n + 1, i => by
    rw [maskOf]
    by_cases hp : p n = true
    · rw [if_pos hp, Nat.testBit_or, maskOf_bit p n i, Nat.testBit_two_pow]
      by_cases h : n = i
      · subst h; simp [hp]
      · simp [h, show i < n + 1 ↔ i < n by omega]
    · rw [if_neg hp, maskOf_bit p n i]
      by_cases h : n = i
      · subst h; simp [hp]
      · simp [show i < n + 1 ↔ i < n by omega]
theorem maskOf_lt (p : Nat → Bool) (n : Nat) : maskOf p n < 2 ^ n := Nat.lt_pow_two_of_testBit _ fun i hi => by rw [maskOf_bit]; simp; omega
/-- The submask steps of the loop: the next lower subset. -/
theorem sub_next : ∀ (S s t : Nat), s &&& S = s → t &&& S = t → t < s → t ≤ (s - 1) &&& S := by
  intro S
  induction S using Nat.strongRecOn with
  | _ S ih =>
    intro s t h ht hlt
    by_cases h0 : S = 0
    · subst h0
      have : s = 0 := by simpa using h.symm
      omega
    · have h1 : (s / 2) &&& (S / 2) = s / 2 := by rw [← Nat.and_div_two, h]
      have t1 : (t / 2) &&& (S / 2) = t / 2 := by rw [← Nat.and_div_two, ht]
      have h5 : (s &&& S) % 2 = 1 ↔ s % 2 = 1 ∧ S % 2 = 1 := Nat.and_mod_two_eq_one
      have t5 : (t &&& S) % 2 = 1 ↔ t % 2 = 1 ∧ S % 2 = 1 := Nat.and_mod_two_eq_one
      rw [h] at h5
      rw [ht] at t5
      have e1 : ((s - 1) &&& S) / 2 = (s - 1) / 2 &&& S / 2 := Nat.and_div_two
      have e2 : ((s - 1) &&& S) % 2 = 1 ↔ (s - 1) % 2 = 1 ∧ S % 2 = 1 := Nat.and_mod_two_eq_one
      by_cases hs : s % 2 = 1
      · rw [show (s - 1) / 2 = s / 2 by omega, h1] at e1
        omega
      · have := ih (S / 2) (by omega) (s / 2) (t / 2) h1 t1 (by omega)
        rw [show (s - 1) / 2 = s / 2 - 1 by omega] at e1
        omega
theorem and_le (a b : Nat) : a &&& b ≤ a := Nat.and_le_left

/-! ### the best groups -/
def sumM (l : List Int) (S : Nat) : Int := sumP l S.testBit l.length
theorem sumM_xor {l : List Int} {S s : Nat} (h : s &&& S = s) : sumM l (S ^^^ s) = sumM l S - sumM l s := by
  have e : sumM l S = sumP l (fun i => s.testBit i || (S ^^^ s).testBit i) l.length := sumP_congr _ fun i _ => by
    rw [Nat.testBit_xor]
    have := Nat.testBit_and s S i
    rw [h] at this
    cases hs : s.testBit i <;> cases hS : S.testBit i <;> simp [hs, hS] at this ⊢
  rw [e, sumP_or]
  · simp only [sumM]; omega
  · intro i _ hi
    rw [Nat.testBit_xor, hi, sub_bit h hi]; rfl
def fstB (S : Nat) : Nat := ((List.range 10).filter S.testBit).headD 0
theorem fstB_bit {S : Nat} (h0 : S ≠ 0) (hS : S < 1024) : S.testBit (fstB S) = true := by
  obtain ⟨i, hi⟩ := bit_of_ne h0
  have hi10 : i < 10 := by
    rcases Nat.lt_or_ge i 10 with h | h
    · exact h
    · rw [Nat.testBit_lt_two_pow (Nat.lt_of_lt_of_le hS (Nat.pow_le_pow_right (n := 2) (by omega) h))] at hi
      cases hi
  have hm : i ∈ (List.range 10).filter S.testBit := List.mem_filter.2 ⟨List.mem_range.2 hi10, hi⟩
  unfold fstB
  cases hf : (List.range 10).filter S.testBit with
  | nil => rw [hf] at hm; simp at hm
  | cons x l =>
    have : x ∈ (List.range 10).filter S.testBit := by rw [hf]; simp
    simpa using (List.mem_filter.1 this).2
theorem fstB_le {S i : Nat} (hS : S < 1024) (hi : S.testBit i = true) : fstB S ≤ i := by
  have hi10 : i < 10 := by
    rcases Nat.lt_or_ge i 10 with h | h
    · exact h
    · rw [Nat.testBit_lt_two_pow (Nat.lt_of_lt_of_le hS (Nat.pow_le_pow_right (n := 2) (by omega) h))] at hi
      cases hi
  have hm : i ∈ (List.range 10).filter S.testBit := List.mem_filter.2 ⟨List.mem_range.2 hi10, hi⟩
  have hp : ((List.range 10).filter S.testBit).Pairwise (· < ·) := List.Pairwise.filter _ List.pairwise_lt_range
  unfold fstB
  cases hf : (List.range 10).filter S.testBit with
  | nil => rw [hf] at hm; simp at hm
  | cons x l =>
    rw [hf] at hm hp
    rcases List.mem_cons.1 hm with e | e
    · simp [e]
    · have := (List.pairwise_cons.1 hp).1 i e
      simp; omega
def candB (l : List Int) (S s : Nat) : Bool := (s &&& S == s) && s.testBit (fstB S) && sumM l s == 0
def bestG (l : List Int) (f : Nat → List Nat) (S : Nat) : Nat → List Nat → List Nat
  | 0, out => out
  | s + 1, out => bestG l f S s (if candB l S (s + 1) && decide (out.length < (f (S ^^^ (s + 1))).length + 1) then (s + 1) :: f (S ^^^ (s + 1)) else out)
def grpN (l : List Int) : Nat → Nat → List Nat
  | 0, _ => []
  | k + 1, S => bestG l (grpN l k) S S []
def grpF (l : List Int) (S : Nat) : List Nat := grpN l (S + 1) S
theorem candB_iff {l : List Int} {S s : Nat} : candB l S s = true ↔ s &&& S = s ∧ s.testBit (fstB S) = true ∧ sumM l s = 0 := by
  simp only [candB, Bool.and_eq_true, beq_iff_eq]
  constructor
  · rintro ⟨⟨a, b⟩, c⟩; exact ⟨a, b, c⟩
  · rintro ⟨a, b, c⟩; exact ⟨⟨a, b⟩, c⟩
theorem ne_of_bit {s i : Nat} (h : s.testBit i = true) : s ≠ 0 := fun e => by subst e; simp at h
theorem xor_lt {S s : Nat} (h : s &&& S = s) (h0 : s ≠ 0) : S ^^^ s < S := by have := sub_xor S s h; omega
theorem bestG_congr (l : List Int) (f g : Nat → List Nat) (S : Nat) (h : ∀ T, T < S → f T = g T) : ∀ (s : Nat) (out : List Nat), bestG l f S s out = bestG l g S s out
  | 0, _ => rfl
  | s + 1, out => by
    rw [bestG, bestG, bestG_congr l f g S h s]
    congr 1
    cases hc : candB l S (s + 1)
    · simp
    · have := candB_iff.1 hc
      rw [h _ (xor_lt this.1 (by omega))]
theorem grpN_eq (l : List Int) : ∀ (k S : Nat), S < k → grpN l k S = grpF l S := by
  intro k
  induction k using Nat.strongRecOn with
  | _ k ih =>
    intro S hS
    obtain ⟨k', rfl⟩ : ∃ k', k = k' + 1 := ⟨k - 1, by omega⟩
    by_cases he : k' = S
    · subst he; rfl
    · show bestG l (grpN l k') S S [] = bestG l (grpN l S) S S []
      exact bestG_congr l _ _ S (fun T hT => by rw [ih k' (by omega) T (by omega), ih S (by omega) T hT]) _ _
theorem grpF_eq (l : List Int) (S : Nat) : grpF l S = bestG l (grpF l) S S [] := by
  show bestG l (grpN l S) S S [] = _
  exact bestG_congr l _ _ S (fun T hT => grpN_eq l S T hT) _ _
theorem bestG_spec (l : List Int) (f : Nat → List Nat) (S : Nat) : ∀ (s : Nat) (out : List Nat),
    out.length ≤ (bestG l f S s out).length ∧ (∀ t, 0 < t → t ≤ s → candB l S t = true → (f (S ^^^ t)).length + 1 ≤ (bestG l f S s out).length) ∧
    (bestG l f S s out = out ∨ ∃ t, 0 < t ∧ t ≤ s ∧ candB l S t = true ∧ bestG l f S s out = t :: f (S ^^^ t))
  | 0, out => ⟨Nat.le_refl _, fun t h1 h2 => by omega, .inl rfl⟩
  | s + 1, out => by
    rw [bestG]
    obtain ⟨o, ho⟩ : ∃ o, (if candB l S (s + 1) && decide (out.length < (f (S ^^^ (s + 1))).length + 1) then (s + 1) :: f (S ^^^ (s + 1)) else out) = o := ⟨_, rfl⟩
    rw [ho]
    obtain ⟨h1, h2, h3⟩ := bestG_spec l f S s o
    cases hc : candB l S (s + 1)
    · rw [hc] at ho
      simp at ho
      subst ho
      refine ⟨h1, fun t t0 ts tc => h2 t t0 ?_ tc, h3.imp id fun ⟨t, a, b, c, d⟩ => ⟨t, a, by omega, c, d⟩⟩
      by_cases e : t = s + 1
      · subst e; rw [hc] at tc; cases tc
      · omega
    · rw [hc] at ho
      by_cases hl : out.length < (f (S ^^^ (s + 1))).length + 1
      · rw [if_pos (by simp; omega)] at ho
        subst ho
        simp only [List.length_cons] at h1
        refine ⟨by omega, fun t t0 ts tc => ?_, .inr ?_⟩
        · by_cases e : t = s + 1
          · subst e; exact h1
          · exact h2 t t0 (by omega) tc
        · rcases h3 with h3 | ⟨t, a, b, c, d⟩
          · exact ⟨s + 1, by omega, Nat.le_refl _, hc, h3⟩
          · exact ⟨t, a, by omega, c, d⟩
      · rw [if_neg (by simp; omega)] at ho
        subst ho
        refine ⟨h1, fun t t0 ts tc => ?_, h3.imp id fun ⟨t, a, b, c, d⟩ => ⟨t, a, by omega, c, d⟩⟩
        by_cases e : t = s + 1
        · subst e; omega
        · exact h2 t t0 (by omega) tc
/-- Groups of a set: each one holds the first station of all that are left. -/
def Parts (l : List Int) : Nat → List Nat → Prop
  | S, [] => S = 0
  | S, s :: P => s &&& S = s ∧ s.testBit (fstB S) = true ∧ sumM l s = 0 ∧ Parts l (S ^^^ s) P
theorem grp_parts (l : List Int) : ∀ (S : Nat), S < 1024 → sumM l S = 0 → Parts l S (grpF l S) := by
  intro S
  induction S using Nat.strongRecOn with
  | _ S ih =>
    intro hS hz
    rw [grpF_eq]
    by_cases h0 : S = 0
    · subst h0; exact rfl
    · obtain ⟨_, h2, h3⟩ := bestG_spec l (grpF l) S S []
      have hc : candB l S S = true := candB_iff.2 ⟨by simp, fstB_bit h0 hS, hz⟩
      have := h2 S (by omega) (Nat.le_refl _) hc
      rcases h3 with h3 | ⟨t, a, b, c, d⟩
      · rw [h3] at this; simp at this
      · rw [d]
        obtain ⟨c1, c2, c3⟩ := candB_iff.1 c
        have := xor_lt c1 (by omega)
        exact ⟨c1, c2, c3, ih _ this (by omega) (by rw [sumM_xor c1]; omega)⟩
theorem Parts.col {l : List Int} (hl : l.length ≤ 10) : ∀ (P : List Nat) (S : Nat), S < 2 ^ l.length → Parts l S P → ∃ c, Col l S.testBit P.length c
  | [], S, _, h => by
    have h : S = 0 := h
    subst h
    exact ⟨fun _ => 0, fun i _ h => by simp at h, fun j hj => by simp at hj, fun j hj => by simp at hj⟩
  | s :: P, S, hS, ⟨h1, h2, h3, h4⟩ => by
    have hx := xor_lt h1 (ne_of_bit h2)
    obtain ⟨c, C⟩ := Parts.col hl P (S ^^^ s) (by omega) h4
    refine ⟨fun i => if s.testBit i then P.length else c i, fun i hi hd => ?_, fun j hj => ?_, fun j hj => ?_⟩
    · by_cases hs : s.testBit i = true
      · rw [if_pos hs]; simp
      · rw [if_neg hs]
        have := C.lt i hi (by rw [Nat.testBit_xor, hd]; simp [hs])
        simp; omega
    · by_cases e : j = P.length
      · subst e
        have hb := fstB S
        refine ⟨fstB S, ?_, sub_bit h1 h2, by simp [h2]⟩
        rcases Nat.lt_or_ge (fstB S) l.length with h | h
        · exact h
        · have := sub_bit h1 h2
          rw [Nat.testBit_lt_two_pow (Nat.lt_of_lt_of_le hS (Nat.pow_le_pow_right (n := 2) (by omega) h))] at this
          cases this
      · obtain ⟨i, hi, h5, h6⟩ := C.onto j (by simp at hj; omega)
        rw [Nat.testBit_xor] at h5
        have hS : S.testBit i = true := by
          cases hs : s.testBit i
          · rw [hs] at h5; simpa using h5
          · exact sub_bit h1 hs
        have hs : s.testBit i = false := by
          cases hs : s.testBit i
          · rfl
          · rw [hs, hS] at h5; simp at h5
        exact ⟨i, hi, hS, by simp [hs, h6]⟩
    · by_cases e : j = P.length
      · subst e
        rw [← h3]
        refine sumP_congr _ fun i hi => ?_
        cases hs : s.testBit i
        · cases hSi : S.testBit i
          · rfl
          · have := C.lt i hi (by rw [Nat.testBit_xor, hSi, hs]; rfl)
            simp; omega
        · simp [sub_bit h1 hs]
      · rw [← C.zero j (by simp at hj; omega)]
        refine sumP_congr _ fun i hi => ?_
        rw [Nat.testBit_xor]
        cases hs : s.testBit i
        · cases hSi : S.testBit i <;> simp
        · have : (P.length == j) = false := by simpa using Ne.symm e
          simp [sub_bit h1 hs, this]
/-- There are no more groups than the best ones. -/
theorem grp_max (l : List Int) (hl : l.length ≤ 10) : ∀ (S : Nat), S < 2 ^ l.length → ∀ m c, Col l S.testBit m c → m ≤ (grpF l S).length := by
  intro S
  induction S using Nat.strongRecOn with
  | _ S ih =>
    intro hS m c C
    have h1024 : S < 1024 := Nat.lt_of_lt_of_le hS (by have := Nat.pow_le_pow_right (n := 2) (by omega) hl; omega)
    by_cases h0 : S = 0
    · subst h0
      rcases Nat.eq_zero_or_pos m with e | e
      · omega
      · obtain ⟨i, _, h, _⟩ := C.onto 0 e
        simp at h
    · have hf := fstB_bit h0 h1024
      have hfl : fstB S < l.length := by
        rcases Nat.lt_or_ge (fstB S) l.length with h | h
        · exact h
        · rw [Nat.testBit_lt_two_pow (Nat.lt_of_lt_of_le hS (Nat.pow_le_pow_right (n := 2) (by omega) h))] at hf
          cases hf
      obtain ⟨j, hj⟩ : ∃ j, c (fstB S) = j := ⟨_, rfl⟩
      have hjm : j < m := by rw [← hj]; exact C.lt _ hfl hf
      obtain ⟨s, hs⟩ : ∃ s, maskOf (fun i => S.testBit i && c i == j) l.length = s := ⟨_, rfl⟩
      have hb : ∀ i, i < l.length → s.testBit i = (S.testBit i && c i == j) := fun i hi => by rw [← hs, maskOf_bit]; simp [hi]
      have hb2 : ∀ i, s.testBit i = true → i < l.length ∧ S.testBit i = true ∧ c i = j := fun i h => by
        rw [← hs, maskOf_bit] at h
        simpa using h
      have hsub : s &&& S = s := sub_of_bit fun i h => (hb2 i h).2.1
      have hsf : s.testBit (fstB S) = true := by rw [hb _ hfl, hf, hj]; simp
      have hsz : sumM l s = 0 := by
        rw [← C.zero j hjm]
        exact sumP_congr _ fun i hi => hb i hi
      have hlt := xor_lt hsub (ne_of_bit hsf)
      have hD := Col.drop (l := l) (dom := (S ^^^ s).testBit) (m := m) (j := j) (c := c) hjm
        (fun i hi hd => C.lt i hi (by
          rw [Nat.testBit_xor] at hd
          cases h : s.testBit i
          · rw [h] at hd; simpa using hd
          · exact (hb2 i h).2.1))
        (fun i hi hd e => by
          rw [Nat.testBit_xor, hb i hi, e] at hd
          simp at hd)
        (fun x hx hxj => by
          obtain ⟨i, hi, h1, h2⟩ := C.onto x hx
          refine ⟨i, hi, ?_, h2⟩
          rw [Nat.testBit_xor, hb i hi, h1, h2]
          have exj : (x == j) = false := by simpa using hxj
          simp [exj])
        (fun x hx hxj => by
          rw [← C.zero x hx]
          refine sumP_congr _ fun i hi => ?_
          rw [Nat.testBit_xor, hb i hi]
          have exj : (x == j) = false := by simpa using hxj
          by_cases e : c i = x
          · rw [e, exj]; cases S.testBit i <;> simp
          · have e1 : (c i == x) = false := by simpa using e
            rw [e1]; simp)
      have h1 := ih _ hlt (by omega) _ _ hD
      obtain ⟨_, h2, _⟩ := bestG_spec l (grpF l) S S []
      have h3 := h2 s (by have := ne_of_bit hsf; omega) (by rw [← hsub]; exact Nat.and_le_right) (candB_iff.2 ⟨hsub, hsf, hsz⟩)
      rw [← grpF_eq] at h3
      omega
/-! ### the reference's best groups: each station joins a group or begins one -/
def bestF (l : List Int) : Nat → Nat → List Int → Int
  | 0, _, sums => if sums.all (· == 0) then (sums.length : Int) else -1
  | k + 1, at_, sums =>
    if l.getD at_ 0 = 0 then bestF l k (at_ + 1) sums
    else (List.range sums.length).foldl (fun m j => max m (bestF l k (at_ + 1) (sums.set j (sums.getD j 0 + l.getD at_ 0)))) (bestF l k (at_ + 1) (sums ++ [l.getD at_ 0]))
theorem foldl_max (f : Nat → Int) : ∀ (L : List Nat) (x : Int), x ≤ L.foldl (fun m j => max m (f j)) x ∧ (∀ j ∈ L, f j ≤ L.foldl (fun m j => max m (f j)) x) ∧ (L.foldl (fun m j => max m (f j)) x = x ∨ ∃ j ∈ L, L.foldl (fun m j => max m (f j)) x = f j)
  | [], x => ⟨Int.le_refl _, fun j hj => by simp at hj, .inl rfl⟩
  | y :: L, x => by
    obtain ⟨h1, h2, h3⟩ := foldl_max f L (max x (f y))
    simp only [List.foldl_cons]
    refine ⟨by omega, fun j hj => ?_, ?_⟩
    · rcases List.mem_cons.1 hj with e | e
      · subst e; omega
      · exact h2 j e
    · rcases h3 with h3 | ⟨j, hj, h3⟩
      · by_cases h : f y ≤ x
        · exact .inl (by omega)
        · exact .inr ⟨y, by simp, by omega⟩
      · exact .inr ⟨j, by simp [hj], h3⟩
structure Fill (l : List Int) (at_ : Nat) (sums : List Int) (m : Nat) (e : Nat → Nat) : Prop where
  lt : ∀ i, at_ ≤ i → i < l.length → nzB l i = true → e i < m
  le : sums.length ≤ m
  zero : ∀ j, j < m → sums.getD j 0 + sumP l (fun i => decide (at_ ≤ i) && (nzB l i && e i == j)) l.length = 0
  new : ∀ j, sums.length ≤ j → j < m → ∃ i, at_ ≤ i ∧ i < l.length ∧ nzB l i = true ∧ e i = j
theorem sum_from {l : List Int} {at_ : Nat} (h : at_ < l.length) (q : Nat → Bool) : sumP l (fun i => decide (at_ ≤ i) && q i) l.length = sumP l (fun i => decide (at_ + 1 ≤ i) && q i) l.length + if q at_ then l.getD at_ 0 else 0 := by
  have e : sumP l (fun i => decide (at_ ≤ i) && q i) l.length = sumP l (fun i => (decide (at_ + 1 ≤ i) && q i) || (i == at_ && q at_)) l.length := by
    refine sumP_congr _ fun i _ => ?_
    by_cases h1 : i = at_
    · subst h1; simp
    · have e1 : (i == at_) = false := by simpa using h1
      simp [e1, show at_ + 1 ≤ i ↔ at_ ≤ i by omega]
  rw [e, sumP_or]
  · congr 1
    cases hq : q at_
    · rw [sumP_none]
      · rfl
      · intro i _ hi; simp at hi
    · have : (fun i => i == at_ && true) = (fun i => i == at_) := by funext i; simp
      rw [this, sumP_one, if_pos h]; simp
  · intro i _ hi
    have : (i == at_) = false := by simp at hi ⊢; omega
    simp [this]
theorem best_ge (l : List Int) : ∀ (k at_ : Nat) (sums : List Int) (m : Nat) (e : Nat → Nat), at_ + k = l.length → Fill l at_ sums m e → (m : Int) ≤ bestF l k at_ sums
  | 0, at_, sums, m, e, hk, F => by
    have hm : m = sums.length := by
      rcases Nat.lt_or_ge sums.length m with h | h
      · obtain ⟨i, h1, h2, _⟩ := F.new _ (Nat.le_refl _) h
        omega
      · have := F.le; omega
    have hz : sums.all (· == 0) = true := by
      rw [List.all_eq_true]
      intro x hx
      obtain ⟨j, hj, rfl⟩ := List.getElem_of_mem hx
      have := F.zero j (by omega)
      rw [sumP_none] at this
      · simpa [hj] using this
      · intro i hi h; simp at h; omega
    rw [bestF, if_pos hz]; omega
  | k + 1, at_, sums, m, e, hk, F => by
    have hat : at_ < l.length := by omega
    rw [bestF]
    by_cases h0 : l.getD at_ 0 = 0
    · rw [if_pos h0]
      have hn : nzB l at_ = false := by simpa [nzB] using h0
      refine best_ge l k (at_ + 1) sums m e (by omega) ⟨fun i h1 h2 h3 => F.lt i (by omega) h2 h3, F.le, fun j hj => ?_, fun j h1 h2 => ?_⟩
      · have := F.zero j hj
        rw [sum_from hat] at this
        simpa [hn] using this
      · obtain ⟨i, a, b, c, d⟩ := F.new j h1 h2
        refine ⟨i, ?_, b, c, d⟩
        by_cases he : i = at_
        · subst he; rw [hn] at c; cases c
        · omega
    · rw [if_neg h0]
      have hn : nzB l at_ = true := by simpa [nzB] using h0
      obtain ⟨h1, h2, _⟩ := foldl_max (fun j => bestF l k (at_ + 1) (sums.set j (sums.getD j 0 + l.getD at_ 0))) (List.range sums.length) (bestF l k (at_ + 1) (sums ++ [l.getD at_ 0]))
      have hem := F.lt at_ (Nat.le_refl _) hat hn
      by_cases hj : e at_ < sums.length
      · refine Int.le_trans ?_ (h2 (e at_) (List.mem_range.2 hj))
        refine best_ge l k (at_ + 1) _ m e (by omega) ⟨fun i h1 h2 h3 => F.lt i (by omega) h2 h3, by simpa using F.le, fun j hjm => ?_, fun j a b => ?_⟩
        · have := F.zero j hjm
          rw [sum_from hat, hn] at this
          by_cases hje : e at_ = j
          · subst hje
            simp [hj] at this ⊢
            omega
          · have e1 : (e at_ == j) = false := by simpa using hje
            simp [e1, List.getElem?_set, hje] at this ⊢
            omega
        · obtain ⟨i, a1, b1, c, d⟩ := F.new j (by simpa using a) b
          refine ⟨i, ?_, b1, c, d⟩
          by_cases he : i = at_
          · subst he; simp at a; omega
          · omega
      · refine Int.le_trans ?_ h1
        refine best_ge l k (at_ + 1) _ m (fun i => if e i = e at_ then sums.length else if e i = sums.length then e at_ else e i) (by omega) ⟨fun i h1 h2 h3 => ?_, by simp; omega, fun j hjm => ?_, fun j a b => ?_⟩
        · have := F.lt i (by omega) h2 h3
          (repeat' split) <;> omega
        · by_cases hjK : j = sums.length
          · subst hjK
            have := F.zero (e at_) hem
            rw [sum_from hat, hn] at this
            have e2 : sums[e at_]?.getD 0 = 0 := by simp [show ¬ e at_ < sums.length from hj]
            simp [e2] at this ⊢
            refine Eq.trans ?_ this
            rw [Int.add_comm]
            congr 1
            refine sumP_congr _ fun i _ => ?_
            by_cases c1 : e i = e at_
            · simp [c1]
            · by_cases c2 : e i = sums.length
              · have c3 : (e at_ == sums.length) = false := by
                  simp; omega
                have c4 : (sums.length == e at_) = false := by simp; omega
                simp [c2, c3, c4]
                intro _ _; omega
              · have c3 : (e i == e at_) = false := by simpa using c1
                have c4 : (e i == sums.length) = false := by simpa using c2
                simp [c1, c2, c3, c4]
          · by_cases hje : j = e at_
            · subst hje
              have := F.zero sums.length (by omega)
              rw [sum_from hat, hn] at this
              have c3 : (e at_ == sums.length) = false := by simp; omega
              have e2 : (sums ++ [l.getD at_ 0])[e at_]?.getD 0 = 0 := by
                rw [List.getElem?_eq_none (by simp; omega)]; rfl
              simp only [List.getD_eq_getElem?_getD] at e2 this ⊢
              rw [e2]
              simp [c3] at this ⊢
              refine Eq.trans ?_ this
              refine sumP_congr _ fun i _ => ?_
              by_cases c1 : e i = e at_
              · have c4 : (sums.length == e at_) = false := by simp; omega
                simp [c1, c3, c4]
              · by_cases c2 : e i = sums.length
                · have c5 : ¬ (sums.length = e at_) := by omega
                  simp [c2, c5]
                · have c3 : (e i == e at_) = false := by simpa using c1
                  have c4 : (e i == sums.length) = false := by simpa using c2
                  simp [c1, c2, c3, c4]
            · have := F.zero j hjm
              rw [sum_from hat, hn] at this
              have c3 : (e at_ == j) = false := by simp; omega
              have e2 : (sums ++ [l.getD at_ 0])[j]?.getD 0 = sums[j]?.getD 0 := by
                by_cases h : j < sums.length
                · rw [List.getElem?_append_left h]
                · rw [List.getElem?_eq_none (by simp; omega), List.getElem?_eq_none (by omega)]
              simp only [List.getD_eq_getElem?_getD] at e2 this ⊢
              rw [e2]
              simp [c3] at this
              refine Eq.trans ?_ this
              congr 1
              refine sumP_congr _ fun i _ => ?_
              by_cases c1 : e i = e at_
              · have c4 : (sums.length == j) = false := by simp; omega
                simp [c1, c3, c4]
              · by_cases c2 : e i = sums.length
                · have c4 : (sums.length == j) = false := by simp; omega
                  have c5 : ¬ (sums.length = e at_) := by omega
                  simp [c2, c3, c4, c5]
                · simp [c1, c2]
        · simp only [List.length_append, List.length_singleton] at a
          by_cases hje : j = e at_
          · subst hje
            obtain ⟨i, a1, b1, c, d⟩ := F.new sums.length (Nat.le_refl _) (by omega)
            have : i ≠ at_ := fun h => by subst h; omega
            exact ⟨i, by omega, b1, c, by rw [if_neg (by omega), if_pos d]⟩
          · obtain ⟨i, a1, b1, c, d⟩ := F.new j (by omega) b
            have : i ≠ at_ := fun h => by subst h; omega
            exact ⟨i, by omega, b1, c, by rw [if_neg (by omega), if_neg (by omega), d]⟩
theorem best_le (l : List Int) : ∀ (k at_ : Nat) (sums : List Int), at_ + k = l.length → bestF l k at_ sums = -1 ∨ ∃ m e, bestF l k at_ sums = ((m : Nat) : Int) ∧ Fill l at_ sums m e
  | 0, at_, sums, hk => by
    rw [bestF]
    by_cases hz : sums.all (· == 0) = true
    · rw [if_pos hz]
      refine .inr ⟨sums.length, fun _ => 0, rfl, ⟨fun i h1 h2 _ => by omega, Nat.le_refl _, fun j hj => ?_, fun j h1 h2 => by omega⟩⟩
      rw [sumP_none]
      · have := List.all_eq_true.1 hz sums[j] (List.getElem_mem hj)
        simpa [hj] using this
      · intro i hi h; simp at h; omega
    · rw [if_neg hz]; exact .inl rfl
  | k + 1, at_, sums, hk => by
    have hat : at_ < l.length := by omega
    rw [bestF]
    by_cases h0 : l.getD at_ 0 = 0
    · rw [if_pos h0]
      have hn : nzB l at_ = false := by simpa [nzB] using h0
      rcases best_le l k (at_ + 1) sums (by omega) with h | ⟨m, e, h, F⟩
      · exact .inl h
      · refine .inr ⟨m, e, h, ⟨fun i h1 h2 h3 => ?_, F.le, fun j hj => ?_, fun j h1 h2 => ?_⟩⟩
        · by_cases he : i = at_
          · subst he; rw [hn] at h3; cases h3
          · exact F.lt i (by omega) h2 h3
        · have := F.zero j hj
          rw [sum_from hat, hn]
          simpa using this
        · obtain ⟨i, a, b, c, d⟩ := F.new j h1 h2
          exact ⟨i, by omega, b, c, d⟩
    · rw [if_neg h0]
      have hn : nzB l at_ = true := by simpa [nzB] using h0
      have upd : ∀ (e : Nat → Nat) (x j : Nat), sumP l (fun i => decide (at_ + 1 ≤ i) && (nzB l i && (if i = at_ then x else e i) == j)) l.length = sumP l (fun i => decide (at_ + 1 ≤ i) && (nzB l i && e i == j)) l.length := fun e x j => sumP_congr _ fun i _ => by
        by_cases he : i = at_
        · subst he; rw [show decide (i + 1 ≤ i) = false from decide_eq_false (by omega)]; rfl
        · simp [he]
      rcases (foldl_max (fun j => bestF l k (at_ + 1) (sums.set j (sums.getD j 0 + l.getD at_ 0))) (List.range sums.length) (bestF l k (at_ + 1) (sums ++ [l.getD at_ 0]))).2.2 with h | ⟨x, hx, h⟩
      · rw [h]
        rcases best_le l k (at_ + 1) (sums ++ [l.getD at_ 0]) (by omega) with h | ⟨m, e, h, F⟩
        · exact .inl h
        · have hle := F.le
          simp only [List.length_append, List.length_singleton] at hle
          refine .inr ⟨m, fun i => if i = at_ then sums.length else e i, h, ⟨fun i h1 h2 h3 => ?_, by omega, fun j hj => ?_, fun j h1 h2 => ?_⟩⟩
          · split
            · omega
            · exact F.lt i (by omega) h2 h3
          · have := F.zero j hj
            rw [sum_from hat, hn, upd]
            by_cases hjK : j = sums.length
            · subst hjK
              simp at this ⊢
              omega
            · have c3 : (sums.length == j) = false := by simp; omega
              have e2 : (sums ++ [l.getD at_ 0])[j]?.getD 0 = sums[j]?.getD 0 := by
                by_cases h : j < sums.length
                · rw [List.getElem?_append_left h]
                · rw [List.getElem?_eq_none (by simp; omega), List.getElem?_eq_none (by omega)]
              simp only [List.getD_eq_getElem?_getD] at e2 this ⊢
              rw [e2] at this
              simp [c3] at this ⊢
              omega
          · by_cases hjK : j = sums.length
            · exact ⟨at_, Nat.le_refl _, hat, hn, by simp [hjK]⟩
            · obtain ⟨i, a, b, c, d⟩ := F.new j (by simp; omega) h2
              exact ⟨i, by omega, b, c, by rw [if_neg (by omega), d]⟩
      · rw [h]
        have hx := List.mem_range.1 hx
        rcases best_le l k (at_ + 1) (sums.set x (sums.getD x 0 + l.getD at_ 0)) (by omega) with h | ⟨m, e, h, F⟩
        · exact .inl h
        · have hle := F.le
          simp only [List.length_set] at hle
          refine .inr ⟨m, fun i => if i = at_ then x else e i, h, ⟨fun i h1 h2 h3 => ?_, by omega, fun j hj => ?_, fun j h1 h2 => ?_⟩⟩
          · split
            · omega
            · exact F.lt i (by omega) h2 h3
          · have := F.zero j hj
            rw [sum_from hat, hn, upd]
            by_cases hjK : x = j
            · subst hjK
              simp [hx] at this ⊢
              omega
            · have c3 : (x == j) = false := by simpa using hjK
              simp [c3, List.getElem?_set, hjK] at this ⊢
              omega
          · obtain ⟨i, a, b, c, d⟩ := F.new j (by simpa using h1) h2
            exact ⟨i, by omega, b, c, by rw [if_neg (by omega), d]⟩
theorem fill_col {l : List Int} {m : Nat} {e : Nat → Nat} : Fill l 0 [] m e ↔ Col l (nzB l) m e := by
  constructor
  · intro F
    refine ⟨fun i hi h => F.lt i (Nat.zero_le _) hi h, fun j hj => ?_, fun j hj => ?_⟩
    · obtain ⟨i, _, b, c, d⟩ := F.new j (Nat.zero_le _) hj
      exact ⟨i, b, c, d⟩
    · have := F.zero j hj
      simpa using this
  · intro C
    refine ⟨fun i _ hi h => C.lt i hi h, Nat.zero_le _, fun j hj => ?_, fun j _ hj => ?_⟩
    · have := C.zero j hj
      simpa using this
    · obtain ⟨i, b, c, d⟩ := C.onto j hj
      exact ⟨i, Nat.zero_le _, b, c, d⟩
/-- The set of the stations whose balance is not 0. -/
def leftM (l : List Int) : Nat := maskOf (nzB l) l.length
theorem leftM_bit (l : List Int) {i : Nat} (hi : i < l.length) : (leftM l).testBit i = nzB l i := by rw [leftM, maskOf_bit]; simp [hi]
theorem leftM_sum (l : List Int) : sumM l (leftM l) = l.sum := by
  have h : ∀ (l : List Int) (p : Nat → Bool) (n : Nat), n ≤ l.length → (∀ i, i < n → p i = nzB l i) → sumP l p n = (l.take n).sum := by
    intro l p n
    induction n with
    | zero => intro _ _; simp [sumP]
    | succ n ih =>
      intro hn hp
      rw [sumP, ih (by omega) (fun i hi => hp i (by omega)), hp n (by omega), List.take_succ_eq_append_getElem (by omega), List.sum_append]
      congr 1
      by_cases h0 : l.getD n 0 = 0
      · have : nzB l n = false := by simpa [nzB] using h0
        have e : l[n] = 0 := by simpa [show n < l.length by omega] using h0
        simp [this, e]
      · have : nzB l n = true := by simpa [nzB] using h0
        simp [this, show n < l.length by omega]
  rw [sumM, h l _ l.length (Nat.le_refl _) (fun i hi => leftM_bit l hi), List.take_length]
def grpL (l : List Int) : List Nat := grpF l (leftM l)
/-- The best groups of the program and the best number of the reference. -/
theorem best_eq (l : List Int) (hl : l.length ≤ 10) (hz : l.sum = 0) : bestF l l.length 0 [] = ((grpL l).length : Int) := by
  have hlt : leftM l < 2 ^ l.length := maskOf_lt _ _
  have h1024 : leftM l < 1024 := Nat.lt_of_lt_of_le hlt (by have := Nat.pow_le_pow_right (n := 2) (by omega) hl; omega)
  obtain ⟨c, C⟩ := Parts.col hl _ _ hlt (grp_parts l _ h1024 (by rw [leftM_sum, hz]))
  have C2 : Col l (nzB l) (grpL l).length c := C.congr fun i hi => (leftM_bit l hi).symm
  have h1 := best_ge l l.length 0 [] _ c (by omega) (fill_col.2 C2)
  rcases best_le l l.length 0 [] (by omega) with h | ⟨m, e, h, F⟩
  · omega
  · have := grp_max l hl _ hlt m e ((fill_col.1 F).congr fun i hi => leftM_bit l hi)
    have : m ≤ (grpL l).length := this
    omega
theorem col_le {l : List Int} (hl : l.length ≤ 10) {m : Nat} {c : Nat → Nat} (C : Col l (nzB l) m c) : m ≤ (grpL l).length :=
  grp_max l hl _ (maskOf_lt _ _) m c (C.congr fun i hi => leftM_bit l hi)
/-- Payments that settle are at least as many as the stations whose balance is not 0, less the groups. -/
theorem settles_ge {l : List Int} (hl : l.length ≤ 10) {ps : List (Int × Int × Int)} (h : settlesF l.length l ps = true) : cntP (nzB l) l.length ≤ ps.length + (grpL l).length := by
  obtain ⟨m, c, C, h1⟩ := settles_col ps l h
  obtain ⟨m', c', C', h2⟩ := C.nonzero
  have := col_le hl C'
  omega
end Go.Proofs.Ytomjlmhnjgohdaa
