/- cipher: ready -/
import Derived.Test.YtmplgcefhpobgaaLa
namespace Go.Proofs.Ytmplgcefhpobgaa
set_option linter.unusedVariables false
set_option linter.unusedSimpArgs false
set_option linter.unnecessarySimpa false
open Go.RowKit Go.Flow

def readyB (s wo : Int) (ks : List K3) (ds : List Int) (plain : List Int) : Bool := (decide (ks.length ≤ 8) && decide (ds.length ≤ 11)) && bookErr s wo ks ds == 0 && decide ((plain.length : Int) ≤ 10) && plain.all (plainOk s)
theorem readyB_ok {s wo : Int} {ks : List K3} {ds : List Int} {plain : List Int} (h : readyB s wo ks ds plain = true) : bookErr s wo ks ds = 0 ∧ plain.length ≤ 10 ∧ plain.all (plainOk s) = true := by
  unfold readyB at h
  simp only [Bool.and_eq_true, decide_eq_true_eq, beq_iff_eq] at h
  exact ⟨h.1.1.2, by omega, h.2⟩

set_option maxRecDepth 100000 in
set_option maxHeartbeats 2000000 in
theorem ready_any (s wo : Int) (ak : Option Addr) (ks : List (Int × Int × Int)) (ck : Nat) (ad : Option Addr) (ds : List Int) (cd : Nat) (ap : Option Addr) (plain : List Int) (cp : Nat) (w : World) (hk : Recs3At w ak ks) (hd : IntsAt w ad ds) (hp : IntsAt w ap plain) :
    Calls Try.prog 33 #[.agg #[.int .i64 s, .int .i64 wo, .slice ak ks.length ck, .slice ad ds.length cd], .slice ap plain.length cp] w fun e w' => e = .returned (.bool (readyB s wo ks ds plain)) ∧ Below w.heap.size w w' := by
  cases hT : (decide (ks.length ≤ 8) && decide (ds.length ≤ 11))
  · have Hr : Hid (readyB s wo ks ds plain = false) := Lib.hid (by unfold readyB; rw [hT]; rfl)
    have HT := Lib.hid hT
    clear hT
    go_enter Try.func33, Try.ntmps33
    go_wp2_with (go_at_call 16; refine (thin_eq s wo ak ks.length ck ad ds.length cd false HT _).mono ?_; rintro e w1 ⟨rfl, hb1⟩; obtain ⟨hc1, hf1, hz1⟩ := bcell hb1; (try simp at hz1); (try (have hy0 : w.heap.size < w1.heap.size := by omega)); (try (have hy1 : w.heap.size + 1 < w1.heap.size := by omega)); (try (have hy2 : w.heap.size + 2 < w1.heap.size := by omega)))
    go_ret
    rw [Hr.out]
    exact ⟨rfl, by (repeat (first | exact Below.refl _ _ | refine Below.alloc ?_ (by first | omega | (simp; done) | (simp; omega)) _ | refine Below.drew ?_ | refine Below.setCell ?_ (by first | omega | (simp; done) | (simp; omega)) _ | refine Below.trans ?_ (Below.mono (by assumption) (by first | omega | (simp; done) | (simp; omega)))))⟩
  · have lk : ks.length ≤ 1000 := by simp at hT; omega
    have ld : ds.length ≤ 1000 := by simp at hT; omega
    have HT := Lib.hid hT
    by_cases hb : bookErr s wo ks ds = 0
    · have HE := Lib.hid hb
      obtain ⟨_, _, s0, s1, _⟩ := bookErr_ok hb
      by_cases h10 : (plain.length : Int) ≤ 10
      · have d10 : decide ((plain.length : Int) ≤ 10) = true := by simpa using h10
        cases hP : plain.all (plainOk s)
        all_goals
          have Hr : Hid (readyB s wo ks ds plain = _) := Lib.hid (by unfold readyB; rw [hT, hb, d10, hP]; try rfl)
          have HP := Lib.hid hP
          clear hP hT hb
          go_enter Try.func33, Try.ntmps33
          go_wp2_with (first
            | (go_at_call 16; refine (thin_eq s wo ak ks.length ck ad ds.length cd true HT _).mono ?_; rintro e w1 ⟨rfl, hb1⟩; obtain ⟨hc1, hf1, hz1⟩ := bcell hb1; (try simp at hz1); (try (have hy0 : w.heap.size < w1.heap.size := by omega)); (try (have hy1 : w.heap.size + 1 < w1.heap.size := by omega)); (try (have hy2 : w.heap.size + 2 < w1.heap.size := by omega)))
            | (go_at_call 22; refine (fault_eq s wo ak ks ck ad ds cd 0 HE _ (hk.below (by (repeat (first | exact Below.refl _ _ | refine Below.alloc ?_ (by first | omega | (simp; done) | (simp; omega)) _ | refine Below.drew ?_ | refine Below.setCell ?_ (by first | omega | (simp; done) | (simp; omega)) _ | refine Below.trans ?_ (Below.mono (by assumption) (by first | omega | (simp; done) | (simp; omega))))))) (hd.below (by (repeat (first | exact Below.refl _ _ | refine Below.alloc ?_ (by first | omega | (simp; done) | (simp; omega)) _ | refine Below.drew ?_ | refine Below.setCell ?_ (by first | omega | (simp; done) | (simp; omega)) _ | refine Below.trans ?_ (Below.mono (by assumption) (by first | omega | (simp; done) | (simp; omega))))))) lk ld).mono ?_; rintro e w2 ⟨rfl, hb2⟩; obtain ⟨hc2, hf2, hz2⟩ := bcell hb2)
            | (go_at_call 24; refine (plainRef_eq s wo _ _ ap plain cp _ HP _ (by omega) (by omega) (hp.below (by (repeat (first | exact Below.refl _ _ | refine Below.alloc ?_ (by first | omega | (simp; done) | (simp; omega)) _ | refine Below.drew ?_ | refine Below.setCell ?_ (by first | omega | (simp; done) | (simp; omega)) _ | refine Below.trans ?_ (Below.mono (by assumption) (by first | omega | (simp; done) | (simp; omega))))))) (by omega)).mono ?_; rintro e w3 ⟨rfl, hb3⟩))
          go_ret
          rw [Hr.out]
          exact ⟨rfl, by (repeat (first | exact Below.refl _ _ | refine Below.alloc ?_ (by first | omega | (simp; done) | (simp; omega)) _ | refine Below.drew ?_ | refine Below.setCell ?_ (by first | omega | (simp; done) | (simp; omega)) _ | refine Below.trans ?_ (Below.mono (by assumption) (by first | omega | (simp; done) | (simp; omega)))))⟩
      · have d10 : decide ((plain.length : Int) ≤ 10) = false := by simpa using h10
        have Hr : Hid (readyB s wo ks ds plain = false) := Lib.hid (by unfold readyB; rw [d10]; simp)
        clear hT hb
        go_enter Try.func33, Try.ntmps33
        go_wp2_with (first
          | (go_at_call 16; refine (thin_eq s wo ak ks.length ck ad ds.length cd true HT _).mono ?_; rintro e w1 ⟨rfl, hb1⟩; obtain ⟨hc1, hf1, hz1⟩ := bcell hb1; (try simp at hz1); (try (have hy0 : w.heap.size < w1.heap.size := by omega)); (try (have hy1 : w.heap.size + 1 < w1.heap.size := by omega)); (try (have hy2 : w.heap.size + 2 < w1.heap.size := by omega)))
          | (go_at_call 22; refine (fault_eq s wo ak ks ck ad ds cd 0 HE _ (hk.below (by (repeat (first | exact Below.refl _ _ | refine Below.alloc ?_ (by first | omega | (simp; done) | (simp; omega)) _ | refine Below.drew ?_ | refine Below.setCell ?_ (by first | omega | (simp; done) | (simp; omega)) _ | refine Below.trans ?_ (Below.mono (by assumption) (by first | omega | (simp; done) | (simp; omega))))))) (hd.below (by (repeat (first | exact Below.refl _ _ | refine Below.alloc ?_ (by first | omega | (simp; done) | (simp; omega)) _ | refine Below.drew ?_ | refine Below.setCell ?_ (by first | omega | (simp; done) | (simp; omega)) _ | refine Below.trans ?_ (Below.mono (by assumption) (by first | omega | (simp; done) | (simp; omega))))))) lk ld).mono ?_; rintro e w2 ⟨rfl, hb2⟩))
        go_ret
        rw [Hr.out]
        exact ⟨rfl, by (repeat (first | exact Below.refl _ _ | refine Below.alloc ?_ (by first | omega | (simp; done) | (simp; omega)) _ | refine Below.drew ?_ | refine Below.setCell ?_ (by first | omega | (simp; done) | (simp; omega)) _ | refine Below.trans ?_ (Below.mono (by assumption) (by first | omega | (simp; done) | (simp; omega)))))⟩
    · have Hr : Hid (readyB s wo ks ds plain = false) := Lib.hid (by unfold readyB; rw [show (bookErr s wo ks ds == 0) = false by simpa using hb]; simp)
      obtain ⟨E, hE⟩ : ∃ E, bookErr s wo ks ds = E := ⟨_, rfl⟩
      have hne : (E == 0) = false := by rw [hE] at hb; simpa using hb
      have HE := Lib.hid hE
      clear hT hb hE
      go_enter Try.func33, Try.ntmps33
      go_wp2_with (first
        | (go_at_call 16; refine (thin_eq s wo ak ks.length ck ad ds.length cd true HT _).mono ?_; rintro e w1 ⟨rfl, hb1⟩; obtain ⟨hc1, hf1, hz1⟩ := bcell hb1; (try simp at hz1); (try (have hy0 : w.heap.size < w1.heap.size := by omega)); (try (have hy1 : w.heap.size + 1 < w1.heap.size := by omega)); (try (have hy2 : w.heap.size + 2 < w1.heap.size := by omega)))
        | (go_at_call 22; refine (fault_eq s wo ak ks ck ad ds cd E HE _ (hk.below (by (repeat (first | exact Below.refl _ _ | refine Below.alloc ?_ (by first | omega | (simp; done) | (simp; omega)) _ | refine Below.drew ?_ | refine Below.setCell ?_ (by first | omega | (simp; done) | (simp; omega)) _ | refine Below.trans ?_ (Below.mono (by assumption) (by first | omega | (simp; done) | (simp; omega))))))) (hd.below (by (repeat (first | exact Below.refl _ _ | refine Below.alloc ?_ (by first | omega | (simp; done) | (simp; omega)) _ | refine Below.drew ?_ | refine Below.setCell ?_ (by first | omega | (simp; done) | (simp; omega)) _ | refine Below.trans ?_ (Below.mono (by assumption) (by first | omega | (simp; done) | (simp; omega))))))) lk ld).mono ?_; rintro e w2 ⟨rfl, hb2⟩))
      go_ret
      rw [Hr.out]
      exact ⟨rfl, by (repeat (first | exact Below.refl _ _ | refine Below.alloc ?_ (by first | omega | (simp; done) | (simp; omega)) _ | refine Below.drew ?_ | refine Below.setCell ?_ (by first | omega | (simp; done) | (simp; omega)) _ | refine Below.trans ?_ (Below.mono (by assumption) (by first | omega | (simp; done) | (simp; omega)))))⟩
theorem ready_eq (s wo : Int) (ak : Option Addr) (ks : List (Int × Int × Int)) (ck : Nat) (ad : Option Addr) (ds : List Int) (cd : Nat) (ap : Option Addr) (plain : List Int) (cp : Nat) (r : Bool) (h : Hid (readyB s wo ks ds plain = r)) (w : World) (hk : Recs3At w ak ks) (hd : IntsAt w ad ds) (hp : IntsAt w ap plain) :
    Calls Try.prog 33 #[.agg #[.int .i64 s, .int .i64 wo, .slice ak ks.length ck, .slice ad ds.length cd], .slice ap plain.length cp] w fun e w' => e = .returned (.bool r) ∧ Below w.heap.size w w' := by
  rw [← h.out]; exact ready_any s wo ak ks ck ad ds cd ap plain cp w hk hd hp
end Go.Proofs.Ytmplgcefhpobgaa
