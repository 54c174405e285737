/- Decoding of a dispatch; errors in it. -/
import Derived.Test.YtmplgcefhpobgaaMa
import Derived.Test.YtmplgcefhpobgaaDi
namespace Go.Proofs.Ytmplgcefhpobgaa
set_option linter.unusedVariables false
set_option linter.unusedSimpArgs false
set_option linter.unnecessarySimpa false
open Go.RowKit Go.Flow

theorem upTo_getD (F : Nat → Int) (n k : Nat) (h : k < n) : (upTo F n)[k]? = some (F k) := by
  unfold upTo; rw [List.getElem?_map, List.getElem?_range h]; rfl

theorem codeRes_len (s : Int) (ks : List K3) (ds : List Int) (day : Int) (plain : List Int) : (codeRes s ks ds day plain).length = plain.length + 2 := by
  unfold codeRes codesN; simp [upTo_len]
theorem codeRes_zero (s : Int) (ks : List K3) (ds : List Int) (day : Int) (plain : List Int) : (codeRes s ks ds day plain)[0]? = some (indN ks ds day) := by
  unfold codeRes; rfl
theorem codeRes_mid (s : Int) (ks : List K3) (ds : List Int) (day : Int) (plain : List Int) (i : Nat) (h : i < plain.length) :
    (codeRes s ks ds day plain)[i + 1]? = some (codeN s (keyAt ks ds day).1 (keyAt ks ds day).2.1 (keyAt ks ds day).2.2 (plain.getD i 0) i) := by
  unfold codeRes codesN
  rw [List.getElem?_append_left (by simp [upTo_len]; omega), List.getElem?_cons_succ, upTo_getD _ _ _ h]
theorem codeRes_take (s : Int) (ks : List K3) (ds : List Int) (day : Int) (plain : List Int) : (codeRes s ks ds day plain).take (plain.length + 1) = indN ks ds day :: codesN s (keyAt ks ds day) plain := by
  unfold codeRes
  rw [List.take_left' (by unfold codesN; simp [upTo_len])]
theorem codeRes_last (s : Int) (ks : List K3) (ds : List Int) (day : Int) (plain : List Int) : (codeRes s ks ds day plain)[plain.length + 1]? = some (checkN s ((codeRes s ks ds day plain).take (plain.length + 1))) := by
  rw [codeRes_take]
  unfold codeRes
  rw [List.getElem?_append_right (by unfold codesN; simp [upTo_len])]
  unfold codesN
  simp [upTo_len]

structure Valid (s wo : Int) (ks : List K3) (ds : List Int) (day : Int) : Prop where
  err : bookErr s wo ks ds = 0
  d0 : 0 ≤ day
  d1 : day < (ds.length : Int)
theorem Valid.key {s wo : Int} {ks : List K3} {ds : List Int} {day : Int} (h : Valid s wo ks ds day) : isPrime s = true ∧ 1 ≤ (keyAt ks ds day).1 ∧ (keyAt ks ds day).1 < s ∧ 0 ≤ indN ks ds day ∧ indN ks ds day < s := by
  obtain ⟨hb, d0, d1⟩ := h
  obtain ⟨lk5, ld8, s0, s1, hpr, _, _, k0, dd, hka, hda⟩ := bookErr_ok hb
  obtain ⟨d, rfl⟩ := Int.eq_ofNat_of_zero_le d0
  have hdl : d < ds.length := by omega
  have hdm := List.all_eq_true.1 hda ds[d] (List.getElem_mem hdl)
  obtain ⟨kk, hkk⟩ : ∃ kk : Nat, ds[d] = (kk : Int) := ⟨ds[d].toNat, by simp [ownOk] at hdm; omega⟩
  have hkl : kk < ks.length := by simp [ownOk] at hdm; omega
  have hko := List.all_eq_true.1 hka ks[kk] (List.getElem_mem hkl)
  have hkv : keyAt ks ds (d : Int) = ks[kk] := by simp [keyAt, hdl, hkk, hkl]
  simp [keyOk] at hko
  refine ⟨isPrime_iff.2 ⟨⟨s0, s1⟩, hpr⟩, by rw [hkv]; omega, by rw [hkv]; omega, ?_, ?_⟩
  · unfold indN; exact Int.emod_nonneg _ (by omega)
  · unfold indN; have := Int.emod_lt_of_pos (ds.getD (d : Int).toNat 0 + (d : Int)) (show (0 : Int) < ks.length by omega); omega

theorem mem_plain {s : Int} {l : List Int} (h : l.all (plainOk s) = true) {i : Nat} (hi : i < l.length) : 0 ≤ l[i] ∧ l[i] < s := by
  have := List.all_eq_true.1 h l[i] (List.getElem_mem hi); simp [plainOk] at this; omega

theorem codeRes_plain {s wo : Int} {ks : List K3} {ds : List Int} {day : Int} (hv : Valid s wo ks ds day) (plain : List Int) : (codeRes s ks ds day plain).all (plainOk s) = true := by
  obtain ⟨hp, _, _, i0, i1⟩ := hv.key
  obtain ⟨s0, s1⟩ := isPrime_b hp
  unfold codeRes codesN
  rw [List.all_append, List.all_cons]
  simp only [Bool.and_eq_true, List.all_eq_true]
  refine ⟨⟨by simp [plainOk]; omega, fun x hx => ?_⟩, fun x hx => ?_⟩
  · simp only [upTo, List.mem_map] at hx
    obtain ⟨j, _, rfl⟩ := hx
    have := codeN_b (s := s) (m := (keyAt ks ds day).1) (a := (keyAt ks ds day).2.1) (st := (keyAt ks ds day).2.2) (n := plain.getD j 0) (i := (j : Int)) (by omega)
    simp [plainOk] at this ⊢; omega
  · simp only [List.mem_singleton] at hx
    subst hx
    have h0 := Int.emod_nonneg (wsum (indN ks ds day :: upTo (fun i => codeN s (keyAt ks ds day).1 (keyAt ks ds day).2.1 (keyAt ks ds day).2.2 (plain.getD i 0) i) plain.length) 0) (show s ≠ 0 by omega)
    have h1 := Int.emod_lt_of_pos (wsum (indN ks ds day :: upTo (fun i => codeN s (keyAt ks ds day).1 (keyAt ks ds day).2.1 (keyAt ks ds day).2.2 (plain.getD i 0) i) plain.length) 0) (show 0 < s by omega)
    unfold checkN
    simp only [plainOk, Bool.and_eq_true, decide_eq_true_eq]; omega

/-- Where decodeErr comes from, book and day being right. -/
theorem decodeErr_v {s wo : Int} {ks : List K3} {ds : List Int} {day : Int} (hv : Valid s wo ks ds day) (l : List Int) : decodeErr s wo ks ds day l =
    if ¬ (1 ≤ (l.length : Int) - 1 ∧ (l.length : Int) - 1 ≤ 11) ∨ l.all (plainOk s) = false then 4 else if l.getD 0 0 ≠ indN ks ds day then 8 else if l.getD (l.length - 1) 0 ≠ checkN s (l.take (l.length - 1)) then 11 else 0 := by
  obtain ⟨hb, d0, d1⟩ := hv
  unfold decodeErr; rw [if_neg (by simp [hb]), if_neg (by omega)]

theorem decode_back {s wo : Int} {ks : List K3} {ds : List Int} {day : Int} (hv : Valid s wo ks ds day) (plain : List Int) (hl : plain.length ≤ 10) (hp : plain.all (plainOk s) = true) :
    decodeErr s wo ks ds day (codeRes s ks ds day plain) = 0 ∧ decOut s wo ks ds day (codeRes s ks ds day plain) = plain := by
  obtain ⟨hpr, m0, m1, i0, i1⟩ := hv.key
  have h0 : decodeErr s wo ks ds day (codeRes s ks ds day plain) = 0 := by
    rw [decodeErr_v hv, if_neg, if_neg, if_neg]
    · have := codeRes_last s ks ds day plain
      rw [codeRes_len, show plain.length + 2 - 1 = plain.length + 1 by omega, List.getD_eq_getElem?_getD, this]
      simp
    · rw [List.getD_eq_getElem?_getD, codeRes_zero]; simp
    · rw [codeRes_len, codeRes_plain hv]; simp; omega
  refine ⟨h0, ?_⟩
  unfold decOut
  rw [if_pos h0]
  unfold decPlain
  rw [codeRes_len, Nat.add_sub_cancel]
  apply List.ext_getElem?
  intro i
  by_cases hi : i < plain.length
  · rw [upTo_getD _ _ _ hi, List.getD_eq_getElem?_getD, codeRes_mid s ks ds day plain i hi]
    have hx := mem_plain hp hi
    simp only [Option.getD_some, List.getD_eq_getElem?_getD, List.getElem?_eq_getElem hi]
    rw [decode_code hpr m0 m1 hx.1 hx.2]
  · rw [List.getElem?_eq_none (by rw [upTo_len]; omega), List.getElem?_eq_none (by omega)]
end Go.Proofs.Ytmplgcefhpobgaa
