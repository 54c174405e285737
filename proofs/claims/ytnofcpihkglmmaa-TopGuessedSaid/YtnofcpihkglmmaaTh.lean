/- TopGuessed: what others find possible, plain -/
import Derived.Test.YtnofcpihkglmmaaMh
import Derived.Test.YtnofcpihkglmmaaLk
namespace Go.Proofs.Ytnofcpihkglmmaa
set_option linter.unusedVariables false
set_option linter.unusedSimpArgs false
set_option linter.unnecessarySimpa false
open Go.RowKit Go.Flow
theorem set_plain {s : Int} {C : List Int} {k : Nat} {v : Int} (h : C.all (plainOk s) = true) (v0 : 0 ≤ v) (v1 : v < s) : (C.set k v).all (plainOk s) = true := by
  rw [List.all_eq_true] at h ⊢
  intro x hx
  rcases List.mem_or_eq_of_mem_set hx with h1 | rfl
  · exact h x h1
  · unfold plainOk; simp only [Bool.and_eq_true, decide_eq_true_eq]; omega
theorem ask_set {s wo : Int} {ks : List K3} {ds : List Int} {C : List Int} {gl : List (Int × Int)} {k : Nat} {v : Int} (h : askErr s wo ks ds C gl = 0) (v0 : 0 ≤ v) (v1 : v < s) : askErr s wo ks ds (C.set k v) gl = 0 := by
  obtain ⟨h1, h2, h3, h4, h5⟩ := askErr_ok h
  unfold askErr
  rw [if_neg (by simp [h1]), if_neg (by rw [List.length_set]; omega), if_pos ⟨set_plain h4 v0 v1, by rw [List.length_set]; exact h5⟩]
/-- What is possible at an index, whatever one code is taken for. -/
def GuessOk (s wo : Int) (ks : List K3) (ds C plain : List Int) (gl : List (Int × Int)) (k i : Nat) : Prop :=
  ∀ v : Int, 0 ≤ v → v < s → (possL s wo ks ds (C.set k v) gl i).length ≤ 1000 ∧ (possErr s wo ks ds (C.set k v) gl i = 0 ∨ possErr s wo ks ds (C.set k v) gl i = 11) ∧
    (v = C.getD k 0 → possErr s wo ks ds (C.set k v) gl i = 0 ∧ plain.getD i 0 ∈ possL s wo ks ds (C.set k v) gl i)
theorem guess_fin {s wo : Int} {ks : List K3} {ds : List Int} {m a st : Int} {plain : List Int} {gl : List (Int × Int)} {k i : Nat} (hb : bookErr s wo ks ds = 0) (hl : plain.length ≤ 10) (hpa : plain.all (plainOk s) = true) (hg : TrueG plain plain.length gl) (hk : keyOk s (m, a, st) = true) (hkl : k < plain.length) (hi : i < plain.length) :
    GuessOk s wo ks ds (codesK s m a st plain plain.length) plain gl k i := by
  intro v v0 v1
  have hask := known_ask (m := m) (a := a) (st := st) hb hl hpa hg
  have hask2 := ask_set (k := k) hask v0 v1
  obtain ⟨_, _, s0, s1, hpr, _⟩ := bookErr_ok hb
  have hlen : ((codesK s m a st plain plain.length).set k v).length = plain.length := by rw [List.length_set, codesK_len]
  have hL : possL s wo ks ds ((codesK s m a st plain plain.length).set k v) gl i = possK s (((codesK s m a st plain plain.length).set k v).getD i 0) i (keysN s ((codesK s m a st plain plain.length).set k v) gl) s.toNat := by
    unfold possL
    rw [if_pos ⟨hask2, by omega, by rw [hlen]; omega⟩, Int.toNat_natCast]
  have hE : possErr s wo ks ds ((codesK s m a st plain plain.length).set k v) gl i = if (possL s wo ks ds ((codesK s m a st plain plain.length).set k v) gl i).length = 0 then 11 else 0 := by
    unfold possErr
    rw [if_neg (by simp [hask2]), if_neg (by rw [hlen]; omega)]
  refine ⟨?_, ?_, fun hv => ?_⟩
  · rw [hL]
    have := possK_len s (((codesK s m a st plain plain.length).set k v).getD i 0) i (keysN s ((codesK s m a st plain plain.length).set k v) gl) s.toNat
    omega
  · rw [hE]; split
    · exact .inr rfl
    · exact .inl rfl
  · have hset : (codesK s m a st plain plain.length).set k v = codesK s m a st plain plain.length := by
      have hk2 : k < (codesK s m a st plain plain.length).length := by rw [codesK_len]; exact hkl
      rw [hv, List.getD_eq_getElem?_getD, List.getElem?_eq_getElem hk2, Option.getD_some, List.set_getElem_self]
    have hin := known_in hb hl hpa hg hk
    have hprime : isPrime s = true := isPrime_iff.2 ⟨⟨s0, s1⟩, hpr⟩
    simp [keyOk] at hk
    have hpi := List.all_eq_true.1 hpa (plain.getD i 0) (by rw [List.getD_eq_getElem?_getD, List.getElem?_eq_getElem hi]; exact List.getElem_mem hi)
    unfold plainOk at hpi
    simp only [Bool.and_eq_true, decide_eq_true_eq] at hpi
    obtain ⟨p, hp⟩ := Int.eq_ofNat_of_zero_le hpi.1
    have hdc : decodeN s m a st (codeN s m a st (p : Int) i) i = (p : Int) := decode_code hprime (by omega) (by omega) (by omega) (by omega)
    have hany : plain.getD i 0 ∈ possL s wo ks ds ((codesK s m a st plain plain.length).set k v) gl i := by
      rw [hL, hset, codesK_getD _ _ _ _ _ _ _ hi, hp]
      unfold possK
      refine List.mem_map.2 ⟨p, List.mem_filter.2 ⟨List.mem_range.2 (by omega), ?_⟩, rfl⟩
      unfold seenB
      rw [List.any_eq_true]
      exact ⟨_, hin, by simp only; rw [hdc]; simp⟩
    refine ⟨?_, hany⟩
    rw [hE, if_neg]
    intro h0
    rw [List.eq_nil_of_length_eq_zero h0] at hany
    cases hany
end Go.Proofs.Ytnofcpihkglmmaa
