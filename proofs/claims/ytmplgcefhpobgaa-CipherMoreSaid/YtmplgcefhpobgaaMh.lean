/- CipherKnown: what holds of true guesses. -/
import Derived.Test.YtmplgcefhpobgaaDu
import Derived.Test.YtmplgcefhpobgaaDv
import Derived.Test.YtmplgcefhpobgaaMb
namespace Go.Proofs.Ytmplgcefhpobgaa
set_option linter.unusedVariables false
set_option linter.unusedSimpArgs false
set_option linter.unnecessarySimpa false
open Go.RowKit Go.Flow

theorem codesK_len (s m a st : Int) (plain : List Int) (k : Nat) : (codesK s m a st plain k).length = k := upTo_len _ _
theorem codesK_getD (s m a st : Int) (plain : List Int) (k i : Nat) (h : i < k) : (codesK s m a st plain k).getD i 0 = codeN s m a st (plain.getD i 0) i := by
  unfold codesK
  rw [List.getD_eq_getElem?_getD, upTo_getD _ _ _ h]; rfl
theorem codesK_plain {s : Int} (hs : 0 < s) (m a st : Int) (plain : List Int) (k : Nat) : (codesK s m a st plain k).all (plainOk s) = true := by
  rw [List.all_eq_true]
  intro x hx
  unfold codesK upTo at hx
  obtain ⟨i, _, rfl⟩ := List.mem_map.1 hx
  have := codeN_b (s := s) (m := m) (a := a) (st := st) (n := plain.getD i 0) (i := i) hs
  unfold plainOk; simp only [Bool.and_eq_true, decide_eq_true_eq]; omega
theorem known_ask {s wo : Int} {ks : List K3} {ds : List Int} {m a st : Int} {plain : List Int} {gl : List (Int × Int)} (hb : bookErr s wo ks ds = 0) (hl : plain.length ≤ 10) (hpa : plain.all (plainOk s) = true) (hg : TrueG plain plain.length gl) :
    askErr s wo ks ds (codesK s m a st plain plain.length) gl = 0 := by
  obtain ⟨_, _, s0, s1, _⟩ := bookErr_ok hb
  have h2 : gl.all (guessOk s (codesK s m a st plain plain.length).length) = true := by
    rw [List.all_eq_true]
    intro g hgm
    obtain ⟨i, hi, rfl⟩ := hg.2 g hgm
    have := List.all_eq_true.1 hpa (plain.getD i 0) (by rw [List.getD_eq_getElem?_getD, List.getElem?_eq_getElem hi]; exact List.getElem_mem hi)
    unfold guessOk ownOk
    rw [this, codesK_len]
    simp; omega
  unfold askErr
  have := hg.1
  rw [if_neg (by simp [hb]), if_neg (by rw [codesK_len]; omega), if_pos ⟨codesK_plain (by omega) _ _ _ _ _, h2⟩]
theorem known_in {s wo : Int} {ks : List K3} {ds : List Int} {m a st : Int} {plain : List Int} {gl : List (Int × Int)} (hb : bookErr s wo ks ds = 0) (hl : plain.length ≤ 10) (hpa : plain.all (plainOk s) = true) (hg : TrueG plain plain.length gl) (hk : keyOk s (m, a, st) = true) :
    (m, a, st) ∈ keysN s (codesK s m a st plain plain.length) gl := by
  have hask := known_ask (m := m) (a := a) (st := st) hb hl hpa hg
  obtain ⟨_, _, _, hco, hgo⟩ := askErr_ok hask
  obtain ⟨_, _, s0, s1, _⟩ := bookErr_ok hb
  simp [keyOk] at hk
  rw [mem_keysN (by omega) hco hgo]
  refine ⟨(m - 1).toNat, a.toNat, st.toNat, by omega, by omega, by omega, ?_, ?_⟩
  · rw [List.all_eq_true]
    intro g hgm
    obtain ⟨i, hi, rfl⟩ := hg.2 g hgm
    rw [show (((m - 1).toNat : Int) + 1) = m by omega, show ((a.toNat : Nat) : Int) = a by omega, show ((st.toNat : Nat) : Int) = st by omega]
    unfold agreeOk
    simp only [Int.toNat_natCast]
    rw [codesK_getD _ _ _ _ _ _ _ hi]
    simp
  · rw [show (((m - 1).toNat : Int) + 1) = m by omega, show ((a.toNat : Nat) : Int) = a by omega, show ((st.toNat : Nat) : Int) = st by omega]
theorem poss_one {s : Int} (code : Int) (x p : Nat) (l : List K3) (h0 : l ≠ []) (hp : (p : Int) < s) (h : ∀ k ∈ l, decodeN s k.1 k.2.1 k.2.2 code x = (p : Int)) : possK s code x l s.toNat = [(p : Int)] := by
  unfold possK
  rw [filt_one _ p, if_pos]
  · rfl
  · refine ⟨by omega, ?_⟩
    obtain ⟨k, t, rfl⟩ := List.exists_cons_of_ne_nil h0
    unfold seenB
    rw [List.any_cons, h k (List.mem_cons_self ..)]
    simp
  · intro i _ hi
    unfold seenB at hi
    obtain ⟨k, hk, hd⟩ := List.any_eq_true.1 hi
    rw [h k hk] at hd
    have : (p : Int) = (i : Int) := by simpa using hd
    omega
/-- All that CipherKnown asks. -/
def KnownFin (s wo : Int) (ks : List K3) (ds : List Int) (codes plain : List Int) (gl : List (Int × Int)) (N : Int) : Prop :=
  fitsErr s wo ks ds codes gl = 0 ∧ fitsN s wo ks ds codes gl = N ∧ 1 ≤ N ∧ ∀ i : Nat, i < plain.length → possErr s wo ks ds codes gl i = 0 ∧ (possL s wo ks ds codes gl i).length ≤ 1000 ∧ (possL s wo ks ds codes gl i).any (· == plain.getD i 0) = true ∧
    (N = 1 → (possL s wo ks ds codes gl i).length = 1) ∧ ((∃ g ∈ gl, g.1 = (i : Int)) → possL s wo ks ds codes gl i = [plain.getD i 0])
theorem known_fin {s wo : Int} {ks : List K3} {ds : List Int} {m a st : Int} {plain : List Int} {gl : List (Int × Int)} (hb : bookErr s wo ks ds = 0) (hl : plain.length ≤ 10) (hpa : plain.all (plainOk s) = true) (hg : TrueG plain plain.length gl) (hk : keyOk s (m, a, st) = true) :
    KnownFin s wo ks ds (codesK s m a st plain plain.length) plain gl (keysN s (codesK s m a st plain plain.length) gl).length := by
  have hask := known_ask (m := m) (a := a) (st := st) hb hl hpa hg
  have hin := known_in hb hl hpa hg hk
  obtain ⟨_, _, _, hco, hgo⟩ := askErr_ok hask
  obtain ⟨_, _, s0, s1, hpr, _⟩ := bookErr_ok hb
  have hprime : isPrime s = true := isPrime_iff.2 ⟨⟨s0, s1⟩, hpr⟩
  simp [keyOk] at hk
  have hne : keysN s (codesK s m a st plain plain.length) gl ≠ [] := fun h => by rw [h] at hin; cases hin
  have hn0 : (keysN s (codesK s m a st plain plain.length) gl).length ≠ 0 := fun h => hne (List.eq_nil_of_length_eq_zero h)
  refine ⟨by unfold fitsErr; rw [if_neg (by simp [hask]), if_neg hn0], by unfold fitsN; rw [if_pos hask], by omega, fun i hi => ?_⟩
  have hpi := List.all_eq_true.1 hpa (plain.getD i 0) (by rw [List.getD_eq_getElem?_getD, List.getElem?_eq_getElem hi]; exact List.getElem_mem hi)
  unfold plainOk at hpi
  simp only [Bool.and_eq_true, decide_eq_true_eq] at hpi
  obtain ⟨p, hp⟩ := Int.eq_ofNat_of_zero_le hpi.1
  have hL : possL s wo ks ds (codesK s m a st plain plain.length) gl i = possK s (codeN s m a st (p : Int) i) i (keysN s (codesK s m a st plain plain.length) gl) s.toNat := by
    unfold possL
    rw [if_pos ⟨hask, by omega, by rw [codesK_len]; omega⟩, Int.toNat_natCast, codesK_getD _ _ _ _ _ _ _ hi, hp]
  have hdc : decodeN s m a st (codeN s m a st (p : Int) i) i = (p : Int) := decode_code hprime (by omega) (by omega) (by omega) (by omega)
  have hpl := possK_len s (codeN s m a st (p : Int) i) i (keysN s (codesK s m a st plain plain.length) gl) s.toNat
  have hany : (p : Int) ∈ possK s (codeN s m a st (p : Int) i) i (keysN s (codesK s m a st plain plain.length) gl) s.toNat := by
    unfold possK
    refine List.mem_map.2 ⟨p, List.mem_filter.2 ⟨List.mem_range.2 (by omega), ?_⟩, rfl⟩
    unfold seenB
    rw [List.any_eq_true]
    exact ⟨_, hin, by simp only; rw [hdc]; simp⟩
  rw [hL, hp]
  refine ⟨?_, by omega, ?_, fun h1 => ?_, fun hgi => ?_⟩
  · unfold possErr
    rw [if_neg (by simp [hask]), if_neg (by rw [codesK_len]; omega), hL, if_neg]
    intro h0
    rw [List.eq_nil_of_length_eq_zero h0] at hany
    cases hany
  · rw [List.any_eq_true]; exact ⟨_, hany, by simp⟩
  · have hl1 : (keysN s (codesK s m a st plain plain.length) gl).length = 1 := by omega
    obtain ⟨k, hk1⟩ := List.length_eq_one_iff.1 hl1
    rw [hk1] at hin
    have hk2 := List.mem_singleton.1 hin
    rw [poss_one _ _ p _ hne (by omega) (fun q hq => by rw [hk1] at hq; rw [List.mem_singleton.1 hq, ← hk2]; exact hdc)]
    rfl
  · obtain ⟨g, hgm, hgi⟩ := hgi
    refine poss_one _ _ p _ hne (by omega) (fun q hq => ?_)
    obtain ⟨m', a', st', hm', ha', hst', hall, rfl⟩ := (mem_keysN (by omega) hco hgo q).1 hq
    have hag := List.all_eq_true.1 hall g hgm
    obtain ⟨j, hj, rfl⟩ := hg.2 g hgm
    have hji : j = i := by have h9 : ((j : Nat) : Int) = (i : Int) := hgi; omega
    subst hji
    unfold agreeOk at hag
    simp only [Int.toNat_natCast] at hag
    rw [codesK_getD _ _ _ _ _ _ _ hj, hp] at hag
    have hcc : codeN s ((m' : Int) + 1) a' st' (p : Int) j = codeN s m a st (p : Int) j := by simpa using hag
    simp only
    rw [← hcc]
    exact decode_code hprime (by omega) (by omega) (by omega) (by omega)
end Go.Proofs.Ytmplgcefhpobgaa
