/- cipher: CheckBook -/
import Derived.Test.YtmplgcefhpobgaaCc
namespace Go.Proofs.Ytmplgcefhpobgaa
set_option linter.unusedVariables false
set_option linter.unusedSimpArgs false
set_option linter.unnecessarySimpa false
open Go.RowKit Go.Flow

def keyOk (s : Int) (x : Int × Int × Int) : Bool := (decide (1 ≤ x.1) && decide (x.1 ≤ s - 1)) && (decide (0 ≤ x.2.1) && decide (x.2.1 ≤ s - 1)) && (decide (0 ≤ x.2.2) && decide (x.2.2 ≤ s - 1))
def ownOk (n : Nat) (x : Int) : Bool := decide (0 ≤ x) && decide (x ≤ (n : Int) - 1)

/-- The error of a book. -/
def bookErr (s wo : Int) (ks : List (Int × Int × Int)) (ds : List Int) : Int :=
  if 5 < (ks.length : Int) ∨ 8 < (ds.length : Int) then 3
  else if (13 ≤ s ∧ s ≤ 41) ∧ primeTo s.toNat s.toNat = true ∧ (1 ≤ wo ∧ wo ≤ s) ∧ ks ≠ [] ∧ ds ≠ [] ∧
    ks.all (keyOk s) = true ∧ ds.all (ownOk ks.length) = true then 0
  else 1

theorem key_meets (s wo : Int) (ak : Option Addr) (ks : List (Int × Int × Int)) (ck : Nat) (ad : Option Addr) (ds : List Int) (cd : Nat) (x : Int × Int × Int) (w : World) (h0 : 0 ≤ s) (h1 : s ≤ 1000) : Meets Try.prog w 49 #[.agg #[.int .i64 s, .int .i64 wo, .slice ak ks.length ck, .slice ad ds.length cd]] #[] (.agg #[.int .i64 x.1, .int .i64 x.2.1, .int .i64 x.2.2]) (keyOk s x) :=
  fun w1 _ => key_any s wo x.1 x.2.1 x.2.2 _ _ w1 h0 h1
theorem own_meets (s wo : Int) (ak : Option Addr) (ks : List (Int × Int × Int)) (ck : Nat) (ad : Option Addr) (ds : List Int) (cd : Nat) (x : Int) (w : World) (h : ks.length ≤ 1000) : Meets Try.prog w 50 #[.agg #[.int .i64 s, .int .i64 wo, .slice ak ks.length ck, .slice ad ds.length cd]] #[] (.int .i64 x) (ownOk ks.length x) :=
  fun w1 _ => own_any s wo x ak ad ks.length ck ds.length cd w1 h

set_option maxHeartbeats 1000000 in
theorem checkBook_any (s wo : Int) (ak : Option Addr) (ks : List (Int × Int × Int)) (ck : Nat) (ad : Option Addr) (ds : List Int) (cd : Nat) (w : World) (hk : Recs3At w ak ks) (hd : IntsAt w ad ds) (lk : ks.length ≤ 1000) (ld : ds.length ≤ 1000) :
    Calls Try.prog 18 #[.agg #[.int .i64 s, .int .i64 wo, .slice ak ks.length ck, .slice ad ds.length cd]] w fun e w' => e = .returned (.int .i64 (bookErr s wo ks ds)) ∧ Below w.heap.size w w' := by
  go_enter Try.func18, Try.ntmps18
  go_wp2
  (refine wp_region_ext 6 (by kernel_rfl) (by kernel_rfl) ?_; simp only [List.take_succ_cons, List.take_zero, List.drop_succ_cons, List.drop_zero]; (repeat (go_big_quiet_step ((fail)))); refine wpQuiet_nil ?_; rintro _ ⟨ex, rfl⟩; have hex := ex.below; have hexz := ex.size; (try simp at hexz); (try (have hy0 : w.heap.size < ex.to.heap.size := by omega)); (try (have hy1 : w.heap.size + 1 < ex.to.heap.size := by omega)); (try (have hy2 : w.heap.size + 2 < ex.to.heap.size := by omega)))
  go_wp2_with (first
    | (go_at_call 51; refine (within_any _ _ _ _).mono ?_; rintro e w1 ⟨rfl, rfl⟩)
    | (go_at_call 52; refine (prime_int s _ (by omega) (by omega)).mono ?_; rintro e w1 ⟨rfl, rfl⟩)
    | (go_at_call 53; refine (all_key ak ks ck 49 #[.agg #[.int .i64 s, .int .i64 wo, .slice ak ks.length ck, .slice ad ds.length cd]] #[] (keyOk s) _ (by omega) (hk.below (by (repeat (first | exact Below.refl _ _ | refine Below.alloc ?_ (by first | omega | (simp; done) | (simp; omega)) _ | refine Below.drew ?_ | refine Below.setCell ?_ (by first | omega | (simp; done) | (simp; omega)) _ | refine Below.trans ?_ (Below.mono (by assumption) (by first | omega | (simp; done) | (simp; omega))))))) (enters Try.func49 (by kernel_rfl) rfl) (fun x _ => key_meets s wo ak ks ck ad ds cd x _ (by omega) (by omega))).mono ?_; rintro e w1 ⟨rfl, hb1⟩; obtain ⟨hc1, hf1, hz1⟩ := bcell hb1; (try simp at hz1); (try (have hy0 : w.heap.size < w1.heap.size := by omega)); (try (have hy1 : w.heap.size + 1 < w1.heap.size := by omega)); (try (have hy2 : w.heap.size + 2 < w1.heap.size := by omega)); cases hka : ks.all (keyOk s))
    | (go_at_call 54; refine (all_int ad ds cd 50 #[.agg #[.int .i64 s, .int .i64 wo, .slice ak ks.length ck, .slice ad ds.length cd]] #[] (ownOk ks.length) _ (by omega) (hd.below (by (repeat (first | exact Below.refl _ _ | refine Below.alloc ?_ (by first | omega | (simp; done) | (simp; omega)) _ | refine Below.drew ?_ | refine Below.setCell ?_ (by first | omega | (simp; done) | (simp; omega)) _ | refine Below.trans ?_ (Below.mono (by assumption) (by first | omega | (simp; done) | (simp; omega))))))) (enters Try.func50 (by kernel_rfl) rfl) (fun x _ => own_meets s wo ak ks ck ad ds cd x _ lk)).mono ?_; rintro e w1 ⟨rfl, hb1⟩; obtain ⟨hc1, hf1, hz1⟩ := bcell hb1; (try simp at hz1); (try (have hy0 : w.heap.size < w1.heap.size := by omega)); (try (have hy1 : w.heap.size + 1 < w1.heap.size := by omega)); (try (have hy2 : w.heap.size + 2 < w1.heap.size := by omega)); cases hda : ds.all (ownOk ks.length)))
  all_goals go_ret
  all_goals (refine ⟨?_, by (repeat (first | exact Below.refl _ _ | refine Below.alloc ?_ (by first | omega | (simp; done) | (simp; omega)) _ | refine Below.drew ?_ | refine Below.setCell ?_ (by first | omega | (simp; done) | (simp; omega)) _ | refine Below.trans ?_ (Below.mono (by assumption) (by first | omega | (simp; done) | (simp; omega)))))⟩)
  all_goals (first | (simp [bookErr, *]; done) | (simp [bookErr, *]; omega) | (exfalso; clear hk hd; simp_all; done) | go_ways)
end Go.Proofs.Ytmplgcefhpobgaa
