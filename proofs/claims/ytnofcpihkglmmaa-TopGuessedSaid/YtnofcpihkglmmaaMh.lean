/- CipherKnown: what holds of true guesses. -/
import Derived.Test.YtnofcpihkglmmaaDp
import Derived.Test.YtnofcpihkglmmaaDv
import Derived.Test.YtnofcpihkglmmaaDi
namespace Go.Proofs.Ytnofcpihkglmmaa
set_option linter.unusedVariables false
set_option linter.unusedSimpArgs false
set_option linter.unnecessarySimpa false
open Go.RowKit Go.Flow

theorem codesK_len (s m a st : Int) (plain : List Int) (k : Nat) : (codesK s m a st plain k).length = k := upTo_len _ _
theorem codesK_getD (s m a st : Int) (plain : List Int) (k i : Nat) (h : i < k) : (codesK s m a st plain k).getD i 0 = codeN s m a st (plain.getD i 0) i := by
  unfold codesK
  rw [List.getD_eq_getElem?_getD, upTo_getD _ _ _ h]; rfl
theorem codesK_plain {s : Int} (hs : 0 < s) (m a st : Int) (plain : List Int) (k : Nat) : (codesK s m a st plain k).all (plainOk s) = true := by
  rw [List.all_eq_true]
  intro x hx
  unfold codesK upTo at hx
  obtain ⟨i, _, rfl⟩ := List.mem_map.1 hx
  have := codeN_b (s := s) (m := m) (a := a) (st := st) (n := plain.getD i 0) (i := i) hs
  unfold plainOk; simp only [Bool.and_eq_true, decide_eq_true_eq]; omega
theorem known_ask {s wo : Int} {ks : List K3} {ds : List Int} {m a st : Int} {plain : List Int} {gl : List (Int × Int)} (hb : bookErr s wo ks ds = 0) (hl : plain.length ≤ 10) (hpa : plain.all (plainOk s) = true) (hg : TrueG plain plain.length gl) :
    askErr s wo ks ds (codesK s m a st plain plain.length) gl = 0 := by
  obtain ⟨_, _, s0, s1, _⟩ := bookErr_ok hb
  have h2 : gl.all (guessOk s (codesK s m a st plain plain.length).length) = true := by
    rw [List.all_eq_true]
    intro g hgm
    obtain ⟨i, hi, rfl⟩ := hg.2 g hgm
    have := List.all_eq_true.1 hpa (plain.getD i 0) (by rw [List.getD_eq_getElem?_getD, List.getElem?_eq_getElem hi]; exact List.getElem_mem hi)
    unfold guessOk ownOk
    rw [this, codesK_len]
    simp; omega
  unfold askErr
  have := hg.1
  rw [if_neg (by simp [hb]), if_neg (by rw [codesK_len]; omega), if_pos ⟨codesK_plain (by omega) _ _ _ _ _, h2⟩]
theorem known_in {s wo : Int} {ks : List K3} {ds : List Int} {m a st : Int} {plain : List Int} {gl : List (Int × Int)} (hb : bookErr s wo ks ds = 0) (hl : plain.length ≤ 10) (hpa : plain.all (plainOk s) = true) (hg : TrueG plain plain.length gl) (hk : keyOk s (m, a, st) = true) :
    (m, a, st) ∈ keysN s (codesK s m a st plain plain.length) gl := by
  have hask := known_ask (m := m) (a := a) (st := st) hb hl hpa hg
  obtain ⟨_, _, _, hco, hgo⟩ := askErr_ok hask
  obtain ⟨_, _, s0, s1, _⟩ := bookErr_ok hb
  simp [keyOk] at hk
  rw [mem_keysN (by omega) hco hgo]
  refine ⟨(m - 1).toNat, a.toNat, st.toNat, by omega, by omega, by omega, ?_, ?_⟩
  · rw [List.all_eq_true]
    intro g hgm
    obtain ⟨i, hi, rfl⟩ := hg.2 g hgm
    rw [show (((m - 1).toNat : Int) + 1) = m by omega, show ((a.toNat : Nat) : Int) = a by omega, show ((st.toNat : Nat) : Int) = st by omega]
    unfold agreeOk
    simp only [Int.toNat_natCast]
    rw [codesK_getD _ _ _ _ _ _ _ hi]
    simp
  · rw [show (((m - 1).toNat : Int) + 1) = m by omega, show ((a.toNat : Nat) : Int) = a by omega, show ((st.toNat : Nat) : Int) = st by omega]
theorem poss_one {s : Int} (code : Int) (x p : Nat) (l : List K3) (h0 : l ≠ []) (hp : (p : Int) < s) (h : ∀ k ∈ l, decodeN s k.1 k.2.1 k.2.2 code x = (p : Int)) : possK s code x l s.toNat = [(p : Int)] := by
  unfold possK
  rw [filt_one _ p, if_pos]
  · rfl
  · refine ⟨by omega, ?_⟩
    obtain ⟨k, t, rfl⟩ := List.exists_cons_of_ne_nil h0
    unfold seenB
    rw [List.any_cons, h k (List.mem_cons_self ..)]
    simp
  · intro i _ hi
    unfold seenB at hi
    obtain ⟨k, hk, hd⟩ := List.any_eq_true.1 hi
    rw [h k hk] at hd
    have : (p : Int) = (i : Int) := by simpa using hd
    omega
end Go.Proofs.Ytnofcpihkglmmaa
