/- cipher: losses, had, Exposed -/
import Derived.Test.YtmplgcefhpobgaaCi
namespace Go.Proofs.Ytmplgcefhpobgaa
set_option linter.unusedVariables false
set_option linter.unusedSimpArgs false
set_option linter.unnecessarySimpa false
open Go.RowKit Go.Flow

def lossOk (nk nd : Nat) (x : Int × Int) : Bool := ownOk nk x.1 && ownOk nd x.2
set_option maxHeartbeats 400000 in
theorem loss_any (s wo : Int) (ak : Option Addr) (ks : List (Int × Int × Int)) (ck : Nat) (ad : Option Addr) (ds : List Int) (cd : Nat) (x : Int × Int) (w : World) (lk : ks.length ≤ 1000) (ld : ds.length ≤ 1000) :
    Calls Try.prog 91 #[.agg #[.int .i64 s, .int .i64 wo, .slice ak ks.length ck, .slice ad ds.length cd], .agg #[.int .i64 x.1, .int .i64 x.2]] w fun e w' => e = .returned (.bool (lossOk ks.length ds.length x)) ∧ Below w.heap.size w w' := by
  cases h1 : ownOk ks.length x.1
  all_goals
    unfold lossOk
    rw [h1]
    have H1 := Lib.hid h1
    go_enter Try.func91, Try.ntmps91
    go_wp2_with (first
      | (go_at_call 50; refine (own_any s wo x.1 ak ad ks.length ck ds.length cd _ lk).mono ?_; rintro e w1 ⟨rfl, hb1⟩; obtain ⟨hc1, hf1, hz1⟩ := bcell hb1; (try simp at hz1); (try (have hy0 : w.heap.size < w1.heap.size := by omega)); (try (have hy1 : w.heap.size + 1 < w1.heap.size := by omega)); (try (have hy2 : w.heap.size + 2 < w1.heap.size := by omega)); rw [show (decide (0 ≤ x.1) && decide (x.1 ≤ (ks.length : Int) - 1)) = _ from H1.out])
      | (go_at_call 56; refine (day_any s wo x.2 ak ad ks.length ck ds.length cd _ ld).mono ?_; rintro e w1 ⟨rfl, hb1⟩; obtain ⟨hc1, hf1, hz1⟩ := bcell hb1; (try simp at hz1); (try (have hy0 : w.heap.size < w1.heap.size := by omega)); (try (have hy1 : w.heap.size + 1 < w1.heap.size := by omega)); (try (have hy2 : w.heap.size + 2 < w1.heap.size := by omega))))
    go_ret
    exact ⟨by simp [ownOk], by (repeat (first | exact Below.refl _ _ | refine Below.alloc ?_ (by first | omega | (simp; done) | (simp; omega)) _ | refine Below.drew ?_ | refine Below.setCell ?_ (by first | omega | (simp; done) | (simp; omega)) _ | refine Below.trans ?_ (Below.mono (by assumption) (by first | omega | (simp; done) | (simp; omega)))))⟩

def lossErr (s wo : Int) (ks : List (Int × Int × Int)) (ds : List Int) (lost : List (Int × Int)) : Int :=
  if bookErr s wo ks ds ≠ 0 then bookErr s wo ks ds
  else if 6 < (lost.length : Int) then 3
  else if lost.all (lossOk ks.length ds.length) = false then 2
  else 0

set_option maxHeartbeats 1000000 in
theorem losses_any (s wo : Int) (ak : Option Addr) (ks : List (Int × Int × Int)) (ck : Nat) (ad : Option Addr) (ds : List Int) (cd : Nat) (al : Option Addr) (lost : List (Int × Int)) (cl : Nat) (w : World) (hk : Recs3At w ak ks) (hd : IntsAt w ad ds) (lk : ks.length ≤ 1000) (ld : ds.length ≤ 1000) (hl : Recs2At w al lost) (ll : lost.length ≤ 1000) :
    Calls Try.prog 71 #[.agg #[.int .i64 s, .int .i64 wo, .slice ak ks.length ck, .slice ad ds.length cd], .slice al lost.length cl] w fun e w' => e = .returned (.int .i64 (lossErr s wo ks ds lost)) ∧ Below w.heap.size w w' := by
  by_cases hbk : bookErr s wo ks ds = 0
  · have Hbk := Lib.hid hbk
    go_enter Try.func71, Try.ntmps71
    go_wp2_with (first
      | (go_at_call 18; refine (checkBook_any s wo ak ks ck ad ds cd _ (hk.below (by (repeat (first | exact Below.refl _ _ | refine Below.alloc ?_ (by first | omega | (simp; done) | (simp; omega)) _ | refine Below.drew ?_ | refine Below.setCell ?_ (by first | omega | (simp; done) | (simp; omega)) _ | refine Below.trans ?_ (Below.mono (by assumption) (by first | omega | (simp; done) | (simp; omega))))))) (hd.below (by (repeat (first | exact Below.refl _ _ | refine Below.alloc ?_ (by first | omega | (simp; done) | (simp; omega)) _ | refine Below.drew ?_ | refine Below.setCell ?_ (by first | omega | (simp; done) | (simp; omega)) _ | refine Below.trans ?_ (Below.mono (by assumption) (by first | omega | (simp; done) | (simp; omega))))))) lk ld).mono ?_; rintro e w1 ⟨rfl, hb1⟩; obtain ⟨hc1, hf1, hz1⟩ := bcell hb1; (try simp at hz1); (try (have hy0 : w.heap.size < w1.heap.size := by omega)); (try (have hy1 : w.heap.size + 1 < w1.heap.size := by omega)); (try (have hy2 : w.heap.size + 2 < w1.heap.size := by omega)))
      | (go_at_call 92; refine (all_loss al lost cl 91 #[.agg #[.int .i64 s, .int .i64 wo, .slice ak ks.length ck, .slice ad ds.length cd]] #[] (lossOk ks.length ds.length) _ (by omega) (hl.below (by (repeat (first | exact Below.refl _ _ | refine Below.alloc ?_ (by first | omega | (simp; done) | (simp; omega)) _ | refine Below.drew ?_ | refine Below.setCell ?_ (by first | omega | (simp; done) | (simp; omega)) _ | refine Below.trans ?_ (Below.mono (by assumption) (by first | omega | (simp; done) | (simp; omega))))))) (enters Try.func91 (by kernel_rfl) rfl) (fun x _ w1 _ => loss_any s wo ak ks ck ad ds cd x w1 lk ld)).mono ?_; rintro e w1 ⟨rfl, hb1⟩; obtain ⟨hc1, hf1, hz1⟩ := bcell hb1; (try simp at hz1); (try (have hy0 : w.heap.size < w1.heap.size := by omega)); (try (have hy1 : w.heap.size + 1 < w1.heap.size := by omega)); (try (have hy2 : w.heap.size + 2 < w1.heap.size := by omega)); cases hpa : lost.all (lossOk ks.length ds.length)))
    all_goals go_ret
    all_goals (refine ⟨?_, by (repeat (first | exact Below.refl _ _ | refine Below.alloc ?_ (by first | omega | (simp; done) | (simp; omega)) _ | refine Below.drew ?_ | refine Below.setCell ?_ (by first | omega | (simp; done) | (simp; omega)) _ | refine Below.trans ?_ (Below.mono (by assumption) (by first | omega | (simp; done) | (simp; omega)))))⟩)
    all_goals (simp [lossErr, *]; done)
  · have e1 : lossErr s wo ks ds lost = bookErr s wo ks ds := by unfold lossErr; rw [if_pos hbk]
    rw [e1]
    have hne : (bookErr s wo ks ds != 0) = true := by simpa using hbk
    clear hbk e1
    go_enter Try.func71, Try.ntmps71
    go_wp2_with (go_at_call 18; refine (checkBook_any s wo ak ks ck ad ds cd _ (hk.below (by (repeat (first | exact Below.refl _ _ | refine Below.alloc ?_ (by first | omega | (simp; done) | (simp; omega)) _ | refine Below.drew ?_ | refine Below.setCell ?_ (by first | omega | (simp; done) | (simp; omega)) _ | refine Below.trans ?_ (Below.mono (by assumption) (by first | omega | (simp; done) | (simp; omega))))))) (hd.below (by (repeat (first | exact Below.refl _ _ | refine Below.alloc ?_ (by first | omega | (simp; done) | (simp; omega)) _ | refine Below.drew ?_ | refine Below.setCell ?_ (by first | omega | (simp; done) | (simp; omega)) _ | refine Below.trans ?_ (Below.mono (by assumption) (by first | omega | (simp; done) | (simp; omega))))))) lk ld).mono ?_; rintro e w1 ⟨rfl, hb1⟩; obtain ⟨hc1, hf1, hz1⟩ := bcell hb1; (try simp at hz1); (try (have hy0 : w.heap.size < w1.heap.size := by omega)); (try (have hy1 : w.heap.size + 1 < w1.heap.size := by omega)); (try (have hy2 : w.heap.size + 2 < w1.heap.size := by omega)))
    go_ret
    exact ⟨rfl, by (repeat (first | exact Below.refl _ _ | refine Below.alloc ?_ (by first | omega | (simp; done) | (simp; omega)) _ | refine Below.drew ?_ | refine Below.setCell ?_ (by first | omega | (simp; done) | (simp; omega)) _ | refine Below.trans ?_ (Below.mono (by assumption) (by first | omega | (simp; done) | (simp; omega)))))⟩

def hadStep (key f : Int) (x : Int × Int) : Int := if x.1 = key ∧ (f = -1 ∨ x.2 < f) then x.2 else f
def hadN (l : List (Int × Int)) (key : Int) : Int := l.foldl (hadStep key) (-1)
theorem hadN_take (l : List (Int × Int)) (key : Int) (k : Nat) (hk : k < l.length) : hadN (l.take (k + 1)) key = hadStep key (hadN (l.take k) key) l[k] := by
  unfold hadN
  rw [List.take_succ_eq_append_getElem hk, List.foldl_append]
  rfl

set_option maxRecDepth 100000 in
set_option maxHeartbeats 1000000 in
theorem had_any (al : Option Addr) (l : List (Int × Int)) (cl : Nat) (key : Int) (w : World) (hl : Recs2At w al l) (ll : l.length ≤ 1000) :
    Calls Try.prog 72 #[.slice al l.length cl, .int .i64 key] w fun e w' => e = .returned (.int .i64 (hadN l key)) ∧ Below w.heap.size w w' := by
  go_enter Try.func72, Try.ntmps72
  go_wp2
  go_loopw [5, 7, 10] (fun f _ i wr => ∃ k : Nat, k ≤ l.length ∧ i = .int .i64 k ∧ f = .int .i64 (hadN (l.take k) key) ∧ Below w.heap.size w wr) (fun _ _ i _ => l.length - (intOf i).toNat)
  case atStart => exact ⟨0, Nat.zero_le _, rfl, rfl, Below.refl _ _⟩
  case round =>
    obtain ⟨k, hk, rfl, rfl, hb⟩ := hrel
    by_cases hlt : k < l.length
    · obtain ⟨b, off, rfl, hbl, h0, h1⟩ := (hl.below hb) k hlt
      have hst := hadN_take l key k hlt
      have Hst := Lib.hid hst
      clear hst
      obtain ⟨f, hf⟩ : ∃ f, hadN (l.take k) key = f := ⟨_, rfl⟩
      rw [hf] at Hst ⊢
      have hww : w.heap.size ≤ wr.heap.size := hb.size
      by_cases c1 : l[k].1 = key
      · by_cases c2 : f = -1
        · have d1 : (l[k].1 == key) = true := by simpa using c1
          have d2 : (f == -1) = true := by simpa using c2
          have e1 : hadStep key f l[k] = l[k].2 := if_pos ⟨c1, .inl c2⟩
          rw [e1] at Hst
          clear c1 c2 hf e1
          go_wp2
          go_roundw
          case rel => exact ⟨k + 1, by omega, by go_num, by rw [Hst.out], by (repeat (first | exact Below.refl _ _ | refine Below.alloc ?_ (by first | omega | (simp; done) | (simp; omega)) _ | refine Below.drew ?_ | refine Below.setCell ?_ (by first | omega | (simp; done) | (simp; omega)) _ | refine Below.trans ?_ (Below.mono (by assumption) (by first | omega | (simp; done) | (simp; omega)))))⟩
          case measure => simp [intOf]; omega
        · have d1 : (l[k].1 == key) = true := by simpa using c1
          have d2 : (f == -1) = false := by simpa using c2
          by_cases c3 : l[k].2 < f
          · have d3 : decide (l[k].2 < f) = true := by simpa using c3
            have e1 : hadStep key f l[k] = l[k].2 := if_pos ⟨c1, .inr c3⟩
            rw [e1] at Hst
            clear c1 c2 hf e1
            go_wp2
            go_roundw
            case rel => exact ⟨k + 1, by omega, by go_num, by rw [Hst.out], by (repeat (first | exact Below.refl _ _ | refine Below.alloc ?_ (by first | omega | (simp; done) | (simp; omega)) _ | refine Below.drew ?_ | refine Below.setCell ?_ (by first | omega | (simp; done) | (simp; omega)) _ | refine Below.trans ?_ (Below.mono (by assumption) (by first | omega | (simp; done) | (simp; omega)))))⟩
            case measure => simp [intOf]; omega
          · have d3 : decide (l[k].2 < f) = false := by simpa using c3
            have e1 : hadStep key f l[k] = f := if_neg (by simp [c2, c3])
            rw [e1] at Hst
            clear c1 c2 hf e1
            go_wp2
            go_roundw
            case rel => exact ⟨k + 1, by omega, by go_num, by rw [Hst.out], by (repeat (first | exact Below.refl _ _ | refine Below.alloc ?_ (by first | omega | (simp; done) | (simp; omega)) _ | refine Below.drew ?_ | refine Below.setCell ?_ (by first | omega | (simp; done) | (simp; omega)) _ | refine Below.trans ?_ (Below.mono (by assumption) (by first | omega | (simp; done) | (simp; omega)))))⟩
            case measure => simp [intOf]; omega
      · have d1 : (l[k].1 == key) = false := by simpa using c1
        have e1 : hadStep key f l[k] = f := if_neg (by simp [c1])
        rw [e1] at Hst
        clear c1 hf e1
        go_wp2
        go_roundw
        case rel => exact ⟨k + 1, by omega, by go_num, by rw [Hst.out], by (repeat (first | exact Below.refl _ _ | refine Below.alloc ?_ (by first | omega | (simp; done) | (simp; omega)) _ | refine Below.drew ?_ | refine Below.setCell ?_ (by first | omega | (simp; done) | (simp; omega)) _ | refine Below.trans ?_ (Below.mono (by assumption) (by first | omega | (simp; done) | (simp; omega)))))⟩
        case measure => simp [intOf]; omega
    · obtain rfl : k = l.length := by omega
      rw [List.take_length]
      go_wp2
      go_ret
      exact ⟨rfl, hb⟩

end Go.Proofs.Ytmplgcefhpobgaa
