/- One wrong number, or two exchanged, in a dispatch. -/
import Derived.Test.YtmplgcefhpobgaaMb
namespace Go.Proofs.Ytmplgcefhpobgaa
set_option linter.unusedVariables false
set_option linter.unusedSimpArgs false
set_option linter.unnecessarySimpa false
open Go.RowKit Go.Flow

theorem small_zero {s b : Int} (h : b % s = 0) (h0 : -s < b) (h1 : b < s) : b = 0 := by
  by_cases hb : 0 ≤ b
  · rwa [Int.emod_eq_of_lt hb h1] at h
  · have h2 : (b + s) % s = b + s := Int.emod_eq_of_lt (by omega) (by omega)
    rw [Int.add_emod_right, h] at h2
    omega
theorem prime_zero {s a b : Int} (hs : isPrime s = true) (a0 : 1 ≤ a) (a1 : a < s) (b0 : -s < b) (b1 : b < s) (h : (a * b) % s = 0) : b = 0 := by
  refine small_zero ?_ b0 b1
  obtain ⟨qm, hm⟩ := emod_split (invN s a * a) s
  rw [invN_spec hs a0 a1] at hm
  obtain ⟨q, hq⟩ := emod_split (a * b) s
  rw [h] at hq
  have : b = s * (invN s a * q - b * qm) := by grind
  rw [this, Int.mul_emod_right]

theorem wsum_set : ∀ (l : List Int) (j i : Nat) (x : Int) (h : i < l.length), wsum (l.set i x) j = wsum l j + ((j : Int) + i + 1) * (x - l[i])
  | y :: l, j, 0, x, _ => by simp [wsum]; grind
  | y :: l, j, i + 1, x, h => by
    have := wsum_set l (j + 1) i x (by simpa using h)
    simp only [List.set_cons_succ, wsum, List.getElem_cons_succ, this]
    push_cast
    grind

theorem decodeErr_zero {s wo : Int} {ks : List K3} {ds : List Int} {day : Int} (hv : Valid s wo ks ds day) {l : List Int} {n : Nat} (hn : l.length = n + 2) (h : decodeErr s wo ks ds day l = 0) :
    l[0]'(by omega) = indN ks ds day ∧ l[n + 1]'(by omega) = checkN s (l.take (n + 1)) := by
  rw [decodeErr_v hv] at h
  split at h
  · omega
  · split at h
    · omega
    · split at h
      · omega
      · rename_i h1 h2
        have e : l.length - 1 = n + 1 := by omega
        rw [e] at h2
        rw [List.getD_eq_getElem?_getD, List.getElem?_eq_getElem (by omega)] at h1 h2
        simp only [Option.getD_some, Decidable.not_not] at h1 h2
        exact ⟨h1, h2⟩

/-- What is known of a dispatch. -/
structure Sent (s : Int) (ks : List K3) (ds : List Int) (day : Int) (n : Nat) (D : List Int) : Prop where
  len : D.length = n + 2
  n10 : n ≤ 10
  b : ∀ (j : Nat) (h : j < D.length), 0 ≤ D[j] ∧ D[j] < s
  zero : D[0]'(by omega) = indN ks ds day
  last : D[n + 1]'(by omega) = checkN s (D.take (n + 1))
theorem sent_of {s wo : Int} {ks : List K3} {ds : List Int} {day : Int} (hv : Valid s wo ks ds day) (plain : List Int) (hl : plain.length ≤ 10) (hp : plain.all (plainOk s) = true) : Sent s ks ds day plain.length (codeRes s ks ds day plain) := by
  have hlen := codeRes_len s ks ds day plain
  refine ⟨hlen, hl, fun j h => mem_plain (codeRes_plain hv plain) h, ?_, ?_⟩
  · have := codeRes_zero s ks ds day plain
    rw [List.getElem?_eq_getElem (by omega)] at this
    exact Option.some.inj this
  · have := codeRes_last s ks ds day plain
    rw [List.getElem?_eq_getElem (by omega)] at this
    exact Option.some.inj this

theorem take_set_lt (l : List Int) (m i : Nat) (x : Int) (h : i < m) : (l.set i x).take m = (l.take m).set i x := by
  rw [List.take_set]
theorem take_set_ge (l : List Int) (m i : Nat) (x : Int) (h : m ≤ i) : (l.set i x).take m = l.take m := by
  rw [List.take_set_of_le h]

theorem wrong_one {s wo : Int} {ks : List K3} {ds : List Int} {day : Int} (hv : Valid s wo ks ds day) {n : Nat} {D : List Int} (hD : Sent s ks ds day n D) (i : Nat) (hi : i < D.length) (x : Int) (x0 : 0 ≤ x) (x1 : x < s) (hne : x ≠ D[i]) :
    decodeErr s wo ks ds day (D.set i x) ≠ 0 := by
  intro he
  obtain ⟨hpr, _⟩ := hv.key
  obtain ⟨s0, s1⟩ := isPrime_b hpr
  have hlen := hD.len
  have hn10 := hD.n10
  obtain ⟨h0, h1⟩ := decodeErr_zero hv (l := D.set i x) (n := n) (by simp [hlen]) he
  have hb := hD.b i hi
  rw [List.getElem_set] at h0 h1
  by_cases i0 : i = 0
  · subst i0
    rw [if_pos rfl, ← hD.zero] at h0
    exact hne h0
  · by_cases il : i = n + 1
    · subst il
      rw [if_pos rfl, take_set_ge _ _ _ _ (Nat.le_refl _), ← hD.last] at h1
      exact hne h1
    · rw [if_neg il, take_set_lt _ _ _ _ (by omega), hD.last] at h1
      unfold checkN at h1
      rw [wsum_set _ _ _ _ (by simp; omega), List.getElem_take] at h1
      obtain ⟨q1, e1⟩ := emod_split (wsum (D.take (n + 1)) 0) s
      obtain ⟨q2, e2⟩ := emod_split (wsum (D.take (n + 1)) 0 + (((0 : Nat) : Int) + i + 1) * (x - D[i])) s
      have hz : (((i : Int) + 1) * (x - D[i])) % s = 0 := by
        have : ((i : Int) + 1) * (x - D[i]) = s * (q2 - q1) := by push_cast at *; grind
        rw [this, Int.mul_emod_right]
      have := prime_zero hpr (a := (i : Int) + 1) (b := x - D[i]) (by omega) (by omega) (by omega) (by omega) hz
      omega

theorem wrong_swap {s wo : Int} {ks : List K3} {ds : List Int} {day : Int} (hv : Valid s wo ks ds day) {n : Nat} {D : List Int} (hD : Sent s ks ds day n D) (i k : Nat) (hi : i < D.length) (hk : k < D.length) (hne : D[i] ≠ D[k]) :
    decodeErr s wo ks ds day ((D.set i D[k]).set k D[i]) ≠ 0 := by
  intro he
  obtain ⟨hpr, _⟩ := hv.key
  obtain ⟨s0, s1⟩ := isPrime_b hpr
  have hlen := hD.len
  have hn10 := hD.n10
  have hik : i ≠ k := fun e => hne (by subst e; rfl)
  obtain ⟨h0, h1⟩ := decodeErr_zero hv (l := (D.set i D[k]).set k D[i]) (n := n) (by simp [hlen]) he
  have hbi := hD.b i hi
  have hbk := hD.b k hk
  obtain ⟨x, hx⟩ : ∃ x, D[i] = x := ⟨_, rfl⟩
  obtain ⟨y, hy⟩ : ∃ y, D[k] = y := ⟨_, rfl⟩
  rw [hx, hy] at h0 h1 hne
  rw [hx] at hbi
  rw [hy] at hbk
  rw [List.getElem_set, List.getElem_set] at h0 h1
  by_cases k0 : k = 0
  · subst k0
    rw [if_pos rfl, ← hD.zero, hy] at h0
    exact hne h0
  · by_cases i0 : i = 0
    · subst i0
      rw [if_neg k0, if_pos rfl, ← hD.zero, hx] at h0
      exact hne h0.symm
    · obtain ⟨W, hW⟩ : ∃ W, wsum (D.take (n + 1)) 0 = W := ⟨_, rfl⟩
      have hlast := hD.last
      unfold checkN at hlast
      rw [hW] at hlast
      by_cases kl : k = n + 1
      · subst kl
        rw [if_pos rfl, take_set_ge _ _ _ _ (Nat.le_refl _), take_set_lt _ _ _ _ (by omega)] at h1
        unfold checkN at h1
        rw [wsum_set _ _ _ _ (by simp; omega), List.getElem_take, hW, hx] at h1
        rw [hy] at hlast
        obtain ⟨q1, e1⟩ := emod_split W s
        obtain ⟨q2, e2⟩ := emod_split (W + (((0 : Nat) : Int) + i + 1) * (y - x)) s
        have hz : (((i : Int) + 2) * (y - x)) % s = 0 := by
          have : ((i : Int) + 2) * (y - x) = s * (q2 - q1) := by push_cast at *; grind
          rw [this, Int.mul_emod_right]
        have := prime_zero hpr (a := (i : Int) + 2) (b := y - x) (by omega) (by omega) (by omega) (by omega) hz
        omega
      · by_cases il : i = n + 1
        · subst il
          rw [if_neg kl, if_pos rfl, take_set_lt _ _ _ _ (by omega), take_set_ge _ _ _ _ (Nat.le_refl _)] at h1
          unfold checkN at h1
          rw [wsum_set _ _ _ _ (by simp; omega), List.getElem_take, hW, hy] at h1
          rw [hx] at hlast
          obtain ⟨q1, e1⟩ := emod_split W s
          obtain ⟨q2, e2⟩ := emod_split (W + (((0 : Nat) : Int) + k + 1) * (x - y)) s
          have hz : (((k : Int) + 2) * (x - y)) % s = 0 := by
            have : ((k : Int) + 2) * (x - y) = s * (q2 - q1) := by push_cast at *; grind
            rw [this, Int.mul_emod_right]
          have := prime_zero hpr (a := (k : Int) + 2) (b := x - y) (by omega) (by omega) (by omega) (by omega) hz
          omega
        · rw [if_neg kl, if_neg il, take_set_lt _ _ _ _ (by omega), take_set_lt _ _ _ _ (by omega), hlast] at h1
          unfold checkN at h1
          rw [wsum_set _ _ _ _ (by simp; omega), wsum_set _ _ _ _ (by simp; omega), List.getElem_set, if_neg hik, List.getElem_take, List.getElem_take, hW, hx, hy] at h1
          obtain ⟨q1, e1⟩ := emod_split W s
          obtain ⟨q2, e2⟩ := emod_split (W + (((0 : Nat) : Int) + i + 1) * (y - x) + (((0 : Nat) : Int) + k + 1) * (x - y)) s
          by_cases hlt : i < k
          · have hz : (((k : Int) - i) * (x - y)) % s = 0 := by
              have : ((k : Int) - i) * (x - y) = s * (q2 - q1) := by push_cast at *; grind
              rw [this, Int.mul_emod_right]
            have := prime_zero hpr (a := (k : Int) - i) (b := x - y) (by omega) (by omega) (by omega) (by omega) hz
            omega
          · have hz : (((i : Int) - k) * (y - x)) % s = 0 := by
              have : ((i : Int) - k) * (y - x) = s * (q2 - q1) := by push_cast at *; grind
              rw [this, Int.mul_emod_right]
            have := prime_zero hpr (a := (i : Int) - k) (b := y - x) (by omega) (by omega) (by omega) (by omega) hz
            omega
end Go.Proofs.Ytmplgcefhpobgaa
