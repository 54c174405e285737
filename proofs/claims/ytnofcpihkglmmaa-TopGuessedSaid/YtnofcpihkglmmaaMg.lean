/- The keys that agree: one enumeration and the other. -/
import Derived.Test.YtnofcpihkglmmaaDt
namespace Go.Proofs.Ytnofcpihkglmmaa
set_option linter.unusedVariables false
set_option linter.unusedSimpArgs false
set_option linter.unnecessarySimpa false
open Go.RowKit Go.Flow

/-- Add, for the first guess. -/
theorem add_first {s c q a : Int} (hs : 0 < s) (c0 : 0 ≤ c) (c1 : c < s) (a0 : 0 ≤ a) (a1 : a < s) : (q + a) % s = c ↔ a = (c + s - q % s) % s := by
  have q0 := Int.emod_nonneg q (show s ≠ 0 by omega)
  have q1 := Int.emod_lt_of_pos q hs
  have e : (q + a) % s = (q % s + a) % s := by rw [Int.emod_add_emod]
  rw [e]
  obtain ⟨r, hr⟩ : ∃ r, q % s = r := ⟨_, rfl⟩
  rw [hr] at q0 q1 ⊢
  have b : (r + a) % s = if r + a < s then r + a else r + a - s := by
    split
    · exact Int.emod_eq_of_lt (by omega) (by omega)
    · rw [← Int.sub_emod_right]; exact Int.emod_eq_of_lt (by omega) (by omega)
  have d : (c + s - r) % s = if c < r then c + s - r else c - r := by
    split
    · exact Int.emod_eq_of_lt (by omega) (by omega)
    · rw [show c + s - r = (c - r) + s by omega, Int.add_emod_right]; exact Int.emod_eq_of_lt (by omega) (by omega)
  rw [b, d]
  split <;> split <;> omega
theorem filt_one (p : Nat → Bool) (k : Nat) : ∀ n, (∀ i, i < n → p i = true → i = k) → (List.range n).filter p = if k < n ∧ p k = true then [k] else []
  | 0, _ => by simp
  | n + 1, h => by
    rw [List.range_succ, List.filter_append, filt_one p k n (fun i hi => h i (by omega))]
    by_cases hp : p n = true
    · have e := h n (by omega) hp
      subst e
      rw [if_neg (by omega), if_pos ⟨by omega, hp⟩]
      simp [hp]
    · have e2 : [n].filter p = [] := by simp [hp]
      rw [e2, List.append_nil]
      by_cases hk : k < n ∧ p k = true
      · rw [if_pos hk, if_pos ⟨by omega, hk.2⟩]
      · rw [if_neg hk, if_neg]
        rintro ⟨h1, h2⟩
        by_cases hkn : k = n
        · subst hkn; exact hp h2
        · exact hk ⟨by omega, h2⟩
theorem filter_map_cast (p : Int → Bool) (l : List Nat) : (l.map Int.ofNat).filter p = (l.filter fun (i : Nat) => p (Int.ofNat i)).map Int.ofNat := by
  rw [List.filter_map]; rfl
theorem adds_eq {s m st : Int} {codes : List Int} {gs : List (Int × Int)} (hs : 0 < s) (hco : codes.all (plainOk s) = true) (hgo : gs.all (guessOk s codes.length) = true) :
    (addsN s m st codes gs).filter (fun a => gs.all (agreeOk s m a st codes)) = ((List.range s.toNat).filter (fun (a : Nat) => gs.all (agreeOk s m a st codes))).map Int.ofNat := by
  cases gs with
  | nil => unfold addsN; exact filter_map_cast _ _
  | cons g rest =>
    have hg : guessOk s codes.length g = true := by rw [List.all_cons, Bool.and_eq_true] at hgo; exact hgo.1
    simp [guessOk, ownOk, plainOk] at hg
    obtain ⟨i, hi⟩ := Int.eq_ofNat_of_zero_le (show 0 ≤ g.1 by omega)
    have hil : i < codes.length := by omega
    have hc : 0 ≤ codes.getD i 0 ∧ codes.getD i 0 < s := by
      have := List.all_eq_true.1 hco (codes.getD i 0) (by rw [List.getD_eq_getElem?_getD, List.getElem?_eq_getElem hil]; exact List.getElem_mem hil)
      unfold plainOk at this
      simp only [Bool.and_eq_true, decide_eq_true_eq] at this
      omega
    obtain ⟨c, hce⟩ : ∃ c, codes.getD i 0 = c := ⟨_, rfl⟩
    rw [hce] at hc
    obtain ⟨q, hq⟩ : ∃ q, m * g.2 + g.1 * st = q := ⟨_, rfl⟩
    have hag : ∀ a : Int, agreeOk s m a st codes g = decide ((q + a) % s = c) := fun a => by
      unfold agreeOk codeN
      rw [hi, Int.toNat_natCast, hce, ← hi, show m * g.2 + a + g.1 * st = q + a by omega]
      rw [Bool.eq_iff_iff]; simp
    have hz : (c + s - codeN s m 0 st g.2 g.1) % s = (c + s - q % s) % s := by unfold codeN; rw [show m * g.2 + 0 + g.1 * st = q by omega]
    have k0 := Int.emod_nonneg (c + s - q % s) (show s ≠ 0 by omega)
    have k1 := Int.emod_lt_of_pos (c + s - q % s) hs
    obtain ⟨k, hk⟩ := Int.eq_ofNat_of_zero_le k0
    have hadd : addsN s m st codes (g :: rest) = [(k : Int)] := by
      unfold addsN
      simp only
      rw [hi, Int.toNat_natCast, hce, ← hi, hz, hk]
    rw [hadd, filt_one _ k s.toNat]
    · cases hb : (g :: rest).all (agreeOk s m (k : Int) st codes)
      · rw [if_neg (by simp)]; simp only [List.filter_cons, hb, List.filter_nil]; rfl
      · rw [if_pos ⟨by omega, rfl⟩]; simp only [List.filter_cons, hb, List.filter_nil]; rfl
    · intro a ha hp
      rw [List.all_cons, Bool.and_eq_true, hag] at hp
      have := (add_first hs hc.1 hc.2 (by omega) (show (a : Int) < s by omega)).1 (by simpa using hp.1)
      omega
theorem inn_eq {s m st : Int} {codes : List Int} {gs : List (Int × Int)} (hs : 0 < s) (hco : codes.all (plainOk s) = true) (hgo : gs.all (guessOk s codes.length) = true) :
    innN s m st codes gs (addsN s m st codes gs) = ((List.range s.toNat).filter (fun (a : Nat) => gs.all (agreeOk s m a st codes))).map (fun (a : Nat) => (m, (a : Int), st)) := by
  unfold innN
  rw [adds_eq hs hco hgo, List.map_map]
  rfl
theorem mem_keysN {s : Int} {codes : List Int} {gs : List (Int × Int)} (hs : 0 < s) (hco : codes.all (plainOk s) = true) (hgo : gs.all (guessOk s codes.length) = true) (k : K3) :
    k ∈ keysN s codes gs ↔ ∃ i a st : Nat, i < (s - 1).toNat ∧ a < s.toNat ∧ st < s.toNat ∧ gs.all (agreeOk s ((i : Int) + 1) a st codes) = true ∧ k = ((i : Int) + 1, (a : Int), (st : Int)) := by
  unfold keysN outN midN
  simp only [List.mem_flatMap, List.mem_range]
  constructor
  · rintro ⟨i, hi, st, hst, hk⟩
    rw [inn_eq hs hco hgo] at hk
    obtain ⟨a, ha, rfl⟩ := List.mem_map.1 hk
    obtain ⟨h1, h2⟩ := List.mem_filter.1 ha
    exact ⟨i, a, st, hi, List.mem_range.1 h1, hst, h2, rfl⟩
  · rintro ⟨i, a, st, hi, ha, hst, h, rfl⟩
    refine ⟨i, hi, st, hst, ?_⟩
    rw [inn_eq hs hco hgo]
    exact List.mem_map.2 ⟨a, List.mem_filter.2 ⟨List.mem_range.2 ha, h⟩, rfl⟩
theorem mem_refKeys {s : Int} {codes : List Int} {gs : List (Int × Int)} (k : K3) :
    k ∈ refKeys s codes gs ↔ ∃ i a st : Nat, i < (s - 1).toNat ∧ a < s.toNat ∧ st < s.toNat ∧ gs.all (agreeOk s ((i : Int) + 1) a st codes) = true ∧ k = ((i : Int) + 1, (a : Int), (st : Int)) := by
  unfold refKeys out3 mid3 inn3
  simp only [List.mem_flatMap, List.mem_range]
  constructor
  · rintro ⟨i, hi, a, ha, hk⟩
    obtain ⟨st, hst, rfl⟩ := List.mem_map.1 hk
    obtain ⟨h1, h2⟩ := List.mem_filter.1 hst
    exact ⟨i, a, st, hi, ha, List.mem_range.1 h1, h2, rfl⟩
  · rintro ⟨i, a, st, hi, ha, hst, h, rfl⟩
    exact ⟨i, hi, a, ha, List.mem_map.2 ⟨st, List.mem_filter.2 ⟨List.mem_range.2 hst, h⟩, rfl⟩⟩
theorem seen_eq {s : Int} {codes : List Int} {gs : List (Int × Int)} (hs : 0 < s) (hco : codes.all (plainOk s) = true) (hgo : gs.all (guessOk s codes.length) = true) (code : Int) (x n : Nat) : seenB s code x (keysN s codes gs) n = seenB s code x (refKeys s codes gs) n := by
  rw [Bool.eq_iff_iff]
  unfold seenB
  rw [List.any_eq_true, List.any_eq_true]
  constructor
  · rintro ⟨k, hk, h⟩
    exact ⟨k, (mem_refKeys k).2 ((mem_keysN hs hco hgo k).1 hk), h⟩
  · rintro ⟨k, hk, h⟩
    exact ⟨k, (mem_keysN hs hco hgo k).2 ((mem_refKeys k).1 hk), h⟩
theorem seen_lt {s : Int} (hs : 0 < s) (code : Int) (x n : Nat) (l : List K3) (h : seenB s code x l n = true) : (n : Int) < s := by
  unfold seenB at h
  obtain ⟨k, _, hk⟩ := List.any_eq_true.1 h
  have := decodeN_b s k.1 k.2.1 k.2.2 code x hs
  simp at hk
  omega
theorem possK_more {s : Int} (hs : 0 < s) (code : Int) (x : Nat) (l : List K3) : ∀ d : Nat, possK s code x l (s.toNat + d) = possK s code x l s.toNat
  | 0 => rfl
  | d + 1 => by
    rw [← Nat.add_assoc, possK_succ, possK_more hs code x l d]
    cases h : seenB s code x l (s.toNat + d)
    · simp
    · have := seen_lt hs code x _ l h; omega
theorem poss_eq {s : Int} {codes : List Int} {gs : List (Int × Int)} (hs : 0 < s) (s41 : s ≤ 41) (hco : codes.all (plainOk s) = true) (hgo : gs.all (guessOk s codes.length) = true) (code : Int) (x : Nat) :
    possK s code x (refKeys s codes gs) 41 = possK s code x (keysN s codes gs) s.toNat := by
  have h1 := possK_more hs code x (refKeys s codes gs) (41 - s.toNat)
  rw [show s.toNat + (41 - s.toNat) = 41 by omega] at h1
  rw [h1]
  unfold possK
  rw [show seenB s code x (refKeys s codes gs) = seenB s code x (keysN s codes gs) from funext fun n => (seen_eq hs hco hgo code x n).symm]
/-- None is possible where no key agrees. -/
theorem poss_none {s : Int} (hs : 0 < s) (code : Int) (x : Nat) (l : List K3) : (possK s code x l s.toNat).length = 0 ↔ l.length = 0 := by
  constructor
  · intro h
    cases l with
    | nil => rfl
    | cons k l =>
      exfalso
      have hb := decodeN_b s k.1 k.2.1 k.2.2 code x hs
      obtain ⟨n, hn⟩ := Int.eq_ofNat_of_zero_le hb.1
      have : (n : Int) ∈ possK s code x (k :: l) s.toNat := by
        unfold possK
        exact List.mem_map.2 ⟨n, List.mem_filter.2 ⟨List.mem_range.2 (by omega), by unfold seenB; rw [List.any_cons, hn]; simp⟩, rfl⟩
      rw [List.eq_nil_of_length_eq_zero h] at this
      cases this
  · intro h
    rw [List.eq_nil_of_length_eq_zero h]
    simp [possK, seenB]
end Go.Proofs.Ytnofcpihkglmmaa
