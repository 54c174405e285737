/- cipher: lossed, before -/
import Derived.Test.YtmplgcefhpobgaaLc
namespace Go.Proofs.Ytmplgcefhpobgaa
set_option linter.unusedVariables false
set_option linter.unusedSimpArgs false
set_option linter.unnecessarySimpa false
open Go.RowKit Go.Flow

def lossedB (s wo : Int) (ks : List K3) (ds : List Int) (lost : List (Int × Int)) : Bool := (decide (ks.length ≤ 8) && decide (ds.length ≤ 11)) && decide ((lost.length : Int) ≤ 9) && lossErr s wo ks ds lost == 0
theorem lossedB_ok {s wo : Int} {ks : List K3} {ds : List Int} {lost : List (Int × Int)} (h : lossedB s wo ks ds lost = true) : lost.length ≤ 9 ∧ lossErr s wo ks ds lost = 0 := by
  unfold lossedB at h
  simp only [Bool.and_eq_true, decide_eq_true_eq, beq_iff_eq] at h
  exact ⟨by omega, h.2⟩

set_option maxRecDepth 100000 in
set_option maxHeartbeats 2000000 in
theorem lossed_any (s wo : Int) (ak : Option Addr) (ks : List (Int × Int × Int)) (ck : Nat) (ad : Option Addr) (ds : List Int) (cd : Nat) (ap : Option Addr) (lost : List (Int × Int)) (cp : Nat) (w : World) (hk : Recs3At w ak ks) (hd : IntsAt w ad ds) (hp : Recs2At w ap lost) :
    Calls Try.prog 34 #[.agg #[.int .i64 s, .int .i64 wo, .slice ak ks.length ck, .slice ad ds.length cd], .slice ap lost.length cp] w fun e w' => e = .returned (.bool (lossedB s wo ks ds lost)) ∧ Below w.heap.size w w' := by
  cases hT : (decide (ks.length ≤ 8) && decide (ds.length ≤ 11))
  · have Hr : Hid (lossedB s wo ks ds lost = false) := Lib.hid (by unfold lossedB; rw [hT]; rfl)
    have HT := Lib.hid hT
    clear hT
    go_enter Try.func34, Try.ntmps34
    go_wp2_with (go_at_call 16; refine (thin_eq s wo ak ks.length ck ad ds.length cd false HT _).mono ?_; rintro e w1 ⟨rfl, hb1⟩; obtain ⟨hc1, hf1, hz1⟩ := bcell hb1; (try simp at hz1); (try (have hy0 : w.heap.size < w1.heap.size := by omega)); (try (have hy1 : w.heap.size + 1 < w1.heap.size := by omega)); (try (have hy2 : w.heap.size + 2 < w1.heap.size := by omega)))
    go_ret
    rw [Hr.out]
    exact ⟨rfl, by (repeat (first | exact Below.refl _ _ | refine Below.alloc ?_ (by first | omega | (simp; done) | (simp; omega)) _ | refine Below.drew ?_ | refine Below.setCell ?_ (by first | omega | (simp; done) | (simp; omega)) _ | refine Below.trans ?_ (Below.mono (by assumption) (by first | omega | (simp; done) | (simp; omega)))))⟩
  · have lk : ks.length ≤ 1000 := by simp at hT; omega
    have ld : ds.length ≤ 1000 := by simp at hT; omega
    have HT := Lib.hid hT
    by_cases h9 : (lost.length : Int) ≤ 9
    · have d9 : decide ((lost.length : Int) ≤ 9) = true := by simpa using h9
      obtain ⟨E, hE⟩ : ∃ E, lossErr s wo ks ds lost = E := ⟨_, rfl⟩
      have HE := Lib.hid hE
      obtain ⟨r, hr⟩ : ∃ r, (E == 0) = r := ⟨_, rfl⟩
      have Hr : Hid (lossedB s wo ks ds lost = r) := Lib.hid (by unfold lossedB; rw [hT, d9, hE, hr]; cases r <;> rfl)
      clear hT hE
      cases r
      all_goals
        go_enter Try.func34, Try.ntmps34
        go_wp2_with (first
          | (go_at_call 16; refine (thin_eq s wo ak ks.length ck ad ds.length cd true HT _).mono ?_; rintro e w1 ⟨rfl, hb1⟩; obtain ⟨hc1, hf1, hz1⟩ := bcell hb1; (try simp at hz1); (try (have hy0 : w.heap.size < w1.heap.size := by omega)); (try (have hy1 : w.heap.size + 1 < w1.heap.size := by omega)); (try (have hy2 : w.heap.size + 2 < w1.heap.size := by omega)))
          | (go_at_call 31; refine (lossy_eq s wo ak ks ck ad ds cd ap lost cp E HE _ (hk.below (by (repeat (first | exact Below.refl _ _ | refine Below.alloc ?_ (by first | omega | (simp; done) | (simp; omega)) _ | refine Below.drew ?_ | refine Below.setCell ?_ (by first | omega | (simp; done) | (simp; omega)) _ | refine Below.trans ?_ (Below.mono (by assumption) (by first | omega | (simp; done) | (simp; omega))))))) (hd.below (by (repeat (first | exact Below.refl _ _ | refine Below.alloc ?_ (by first | omega | (simp; done) | (simp; omega)) _ | refine Below.drew ?_ | refine Below.setCell ?_ (by first | omega | (simp; done) | (simp; omega)) _ | refine Below.trans ?_ (Below.mono (by assumption) (by first | omega | (simp; done) | (simp; omega))))))) lk ld (hp.below (by (repeat (first | exact Below.refl _ _ | refine Below.alloc ?_ (by first | omega | (simp; done) | (simp; omega)) _ | refine Below.drew ?_ | refine Below.setCell ?_ (by first | omega | (simp; done) | (simp; omega)) _ | refine Below.trans ?_ (Below.mono (by assumption) (by first | omega | (simp; done) | (simp; omega))))))) (by omega)).mono ?_; rintro e w2 ⟨rfl, hb2⟩))
        go_ret
        rw [Hr.out]
        exact ⟨rfl, by (repeat (first | exact Below.refl _ _ | refine Below.alloc ?_ (by first | omega | (simp; done) | (simp; omega)) _ | refine Below.drew ?_ | refine Below.setCell ?_ (by first | omega | (simp; done) | (simp; omega)) _ | refine Below.trans ?_ (Below.mono (by assumption) (by first | omega | (simp; done) | (simp; omega)))))⟩
    · have d9 : decide ((lost.length : Int) ≤ 9) = false := by simpa using h9
      have Hr : Hid (lossedB s wo ks ds lost = false) := Lib.hid (by unfold lossedB; rw [d9]; simp)
      clear hT
      go_enter Try.func34, Try.ntmps34
      go_wp2_with (go_at_call 16; refine (thin_eq s wo ak ks.length ck ad ds.length cd true HT _).mono ?_; rintro e w1 ⟨rfl, hb1⟩; obtain ⟨hc1, hf1, hz1⟩ := bcell hb1; (try simp at hz1); (try (have hy0 : w.heap.size < w1.heap.size := by omega)); (try (have hy1 : w.heap.size + 1 < w1.heap.size := by omega)); (try (have hy2 : w.heap.size + 2 < w1.heap.size := by omega)))
      go_ret
      rw [Hr.out]
      exact ⟨rfl, by (repeat (first | exact Below.refl _ _ | refine Below.alloc ?_ (by first | omega | (simp; done) | (simp; omega)) _ | refine Below.drew ?_ | refine Below.setCell ?_ (by first | omega | (simp; done) | (simp; omega)) _ | refine Below.trans ?_ (Below.mono (by assumption) (by first | omega | (simp; done) | (simp; omega)))))⟩
theorem lossed_eq (s wo : Int) (ak : Option Addr) (ks : List (Int × Int × Int)) (ck : Nat) (ad : Option Addr) (ds : List Int) (cd : Nat) (ap : Option Addr) (lost : List (Int × Int)) (cp : Nat) (r : Bool) (h : Hid (lossedB s wo ks ds lost = r)) (w : World) (hk : Recs3At w ak ks) (hd : IntsAt w ad ds) (hp : Recs2At w ap lost) :
    Calls Try.prog 34 #[.agg #[.int .i64 s, .int .i64 wo, .slice ak ks.length ck, .slice ad ds.length cd], .slice ap lost.length cp] w fun e w' => e = .returned (.bool r) ∧ Below w.heap.size w w' := by
  rw [← h.out]; exact lossed_any s wo ak ks ck ad ds cd ap lost cp w hk hd hp
end Go.Proofs.Ytmplgcefhpobgaa
