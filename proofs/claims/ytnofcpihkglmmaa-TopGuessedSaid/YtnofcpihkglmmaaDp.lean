/- cipher: ProvePlan · cipher: Possible, all ways -/
import Derived.Test.YtnofcpihkglmmaaLa
import Derived.Test.YtnofcpihkglmmaaCr
import Derived.Test.YtnofcpihkglmmaaCa
import Derived.Deep.Cut
import Derived.Test.YtnofcpihkglmmaaMg
namespace Go.Proofs.Ytnofcpihkglmmaa
set_option linter.unusedVariables false
set_option linter.unusedSimpArgs false
set_option linter.unnecessarySimpa false
open Go.RowKit Go.Flow

theorem within_eqE (a b c : Int) (r : Bool) (h : Hid ((decide (b ≤ a) && decide (a ≤ c)) = r)) (w : World) :
    Calls Try.prog 31 #[.int .i64 a, .int .i64 b, .int .i64 c] w fun e w' => e = .returned (.bool r) ∧ w = w' := by
  rw [← h.out]; exact within_any a b c w
end Go.Proofs.Ytnofcpihkglmmaa

namespace Go.Proofs.Ytnofcpihkglmmaa
set_option linter.unusedVariables false
set_option linter.unusedSimpArgs false
set_option linter.unnecessarySimpa false
open Go.RowKit Go.Flow

def possL (s wo : Int) (ks : List K3) (ds : List Int) (codes : List Int) (gs : List (Int × Int)) (x : Int) : List Int :=
  if askErr s wo ks ds codes gs = 0 ∧ 0 ≤ x ∧ x ≤ (codes.length : Int) - 1 then possK s (codes.getD x.toNat 0) x.toNat (keysN s codes gs) s.toNat else []
def possErr (s wo : Int) (ks : List K3) (ds : List Int) (codes : List Int) (gs : List (Int × Int)) (x : Int) : Int :=
  if askErr s wo ks ds codes gs ≠ 0 then askErr s wo ks ds codes gs
  else if ¬ (0 ≤ x ∧ x ≤ (codes.length : Int) - 1) then 2
  else if (possL s wo ks ds codes gs x).length = 0 then 11 else 0
set_option maxRecDepth 100000 in
set_option maxHeartbeats 4000000 in
theorem poss_at (s wo : Int) (ak : Option Addr) (ks : List (Int × Int × Int)) (ck : Nat) (ad : Option Addr) (ds : List Int) (cd : Nat) (ac : Option Addr) (codes : List Int) (cc : Nat) (ag : Option Addr) (gs : List (Int × Int)) (cg : Nat) (x : Int) (L : List Int) (E : Int) (HL : Hid (possL s wo ks ds codes gs x = L)) (HE : Hid (possErr s wo ks ds codes gs x = E)) (w : World) (hk : Recs3At w ak ks) (hd : IntsAt w ad ds) (lk : ks.length ≤ 1000) (ld : ds.length ≤ 1000) (hc : IntsAt w ac codes) (lc : codes.length ≤ 1000) (hg : Recs2At w ag gs) (lg : gs.length ≤ 1000) :
    Calls Try.prog 12 #[.agg #[.int .i64 s, .int .i64 wo, .slice ak ks.length ck, .slice ad ds.length cd], .slice ac codes.length cc, .slice ag gs.length cg, .int .i64 x] w fun e w' => (∃ a c, e = .returned (.tuple #[.slice a L.length c, .int .i64 E]) ∧ IntsAt w' a L) ∧ Below w.heap.size w w' := by
  obtain ⟨A, hA⟩ : ∃ A, askErr s wo ks ds codes gs = A := ⟨_, rfl⟩
  by_cases h0 : A = 0
  · subst h0
    by_cases hx : 0 ≤ x ∧ x ≤ (codes.length : Int) - 1
    · obtain ⟨y, rfl⟩ := Int.eq_ofNat_of_zero_le hx.1
      have h1 : possL s wo ks ds codes gs y = possK s (codes.getD y 0) y (keysN s codes gs) s.toNat := by unfold possL; rw [if_pos ⟨hA, hx⟩]; simp
      have h2 : possErr s wo ks ds codes gs y = if L.length = 0 then 11 else 0 := by unfold possErr; rw [if_neg (by simp [hA]), if_neg (by simpa using hx), HL.out]
      exact poss_ok s wo ak ks ck ad ds cd ac codes cc ag gs cg y w hk hd lk ld hc lc hg lg hA (by omega) L E (Lib.hid (by rw [← h1, HL.out])) (Lib.hid (by rw [← h2, HE.out]))
    · have h1 : L = [] := by rw [← HL.out]; unfold possL; rw [if_neg (fun h => hx h.2)]
      have h2 : E = 2 := by rw [← HE.out]; unfold possErr; rw [if_neg (by simp [hA]), if_pos hx]
      subst h1 h2
      have hw : Hid ((decide (0 ≤ x) && decide (x ≤ (codes.length : Int) - 1)) = false) := Lib.hid (by
        cases h : (decide (0 ≤ x) && decide (x ≤ (codes.length : Int) - 1))
        · rfl
        · simp only [Bool.and_eq_true, decide_eq_true_eq] at h; exact absurd h hx)
      have HA := Lib.hid hA
      have cX := Cells.new ((w.alloc (.cells #[.int .i64 s, .int .i64 wo, .slice ak ks.length ck, .slice ad ds.length cd] 49)).alloc (.cells #[.slice ac codes.length cc] 26)) #[.int .i64 x] 3
      clear hA hx HL HE
      go_enter Try.func12, Try.ntmps12
      go_wp2_with fail
      go_at_call 30
      refine (asked_any s wo ak ks ck ad ds cd ac codes cc ag gs cg _ (hk.below (by (repeat (first | exact Below.refl _ _ | refine Below.alloc ?_ (by first | omega | (simp; done) | (simp; omega)) _ | refine Below.drew ?_ | refine Below.setCell ?_ (by first | omega | (simp; done) | (simp; omega)) _ | refine Below.trans ?_ (Below.mono (by assumption) (by first | omega | (simp; done) | (simp; omega))))))) (hd.below (by (repeat (first | exact Below.refl _ _ | refine Below.alloc ?_ (by first | omega | (simp; done) | (simp; omega)) _ | refine Below.drew ?_ | refine Below.setCell ?_ (by first | omega | (simp; done) | (simp; omega)) _ | refine Below.trans ?_ (Below.mono (by assumption) (by first | omega | (simp; done) | (simp; omega))))))) lk ld (hc.below (by (repeat (first | exact Below.refl _ _ | refine Below.alloc ?_ (by first | omega | (simp; done) | (simp; omega)) _ | refine Below.drew ?_ | refine Below.setCell ?_ (by first | omega | (simp; done) | (simp; omega)) _ | refine Below.trans ?_ (Below.mono (by assumption) (by first | omega | (simp; done) | (simp; omega))))))) lc (hg.below (by (repeat (first | exact Below.refl _ _ | refine Below.alloc ?_ (by first | omega | (simp; done) | (simp; omega)) _ | refine Below.drew ?_ | refine Below.setCell ?_ (by first | omega | (simp; done) | (simp; omega)) _ | refine Below.trans ?_ (Below.mono (by assumption) (by first | omega | (simp; done) | (simp; omega))))))) lg).mono ?_
      rw [HA.out]
      rintro e w1 ⟨rfl, b1⟩
      obtain ⟨hc1, hf1, hz1⟩ := bcell b1
      simp at hz1
      have hy0 : w.heap.size < w1.heap.size := by omega
      have hy1 : w.heap.size + 1 < w1.heap.size := by omega
      have hy2 : w.heap.size + 1 + 1 < w1.heap.size := by omega
      go_wp2_with fail
      go_at_call 31
      refine (within_eqE x 0 ((codes.length : Int) - 1) false hw _).mono ?_
      rintro e _ ⟨rfl, rfl⟩
      go_wp2_with fail
      go_ret2
      exact ⟨⟨none, 0, rfl, IntsAt.nil _ _⟩, by (repeat (first | exact Below.refl _ _ | refine Below.alloc ?_ (by first | omega | (simp; done) | (simp; omega)) _ | refine Below.drew ?_ | refine Below.setCell ?_ (by first | omega | (simp; done) | (simp; omega)) _ | refine Below.trans ?_ (Below.mono (by assumption) (by first | omega | (simp; done) | (simp; omega)))))⟩
  · have h1 : L = [] := by rw [← HL.out]; unfold possL; rw [if_neg (by rw [hA]; exact fun h => h0 h.1)]
    have h2 : E = A := by rw [← HE.out]; unfold possErr; rw [if_pos (by rw [hA]; exact h0), hA]
    subst h1 h2
    have HA := Lib.hid hA
    have hne : (E != 0) = true := by simpa using h0
    clear hA h0 HL HE
    go_enter Try.func12, Try.ntmps12
    go_wp2_with fail
    go_at_call 30
    refine (asked_any s wo ak ks ck ad ds cd ac codes cc ag gs cg _ (hk.below (by (repeat (first | exact Below.refl _ _ | refine Below.alloc ?_ (by first | omega | (simp; done) | (simp; omega)) _ | refine Below.drew ?_ | refine Below.setCell ?_ (by first | omega | (simp; done) | (simp; omega)) _ | refine Below.trans ?_ (Below.mono (by assumption) (by first | omega | (simp; done) | (simp; omega))))))) (hd.below (by (repeat (first | exact Below.refl _ _ | refine Below.alloc ?_ (by first | omega | (simp; done) | (simp; omega)) _ | refine Below.drew ?_ | refine Below.setCell ?_ (by first | omega | (simp; done) | (simp; omega)) _ | refine Below.trans ?_ (Below.mono (by assumption) (by first | omega | (simp; done) | (simp; omega))))))) lk ld (hc.below (by (repeat (first | exact Below.refl _ _ | refine Below.alloc ?_ (by first | omega | (simp; done) | (simp; omega)) _ | refine Below.drew ?_ | refine Below.setCell ?_ (by first | omega | (simp; done) | (simp; omega)) _ | refine Below.trans ?_ (Below.mono (by assumption) (by first | omega | (simp; done) | (simp; omega))))))) lc (hg.below (by (repeat (first | exact Below.refl _ _ | refine Below.alloc ?_ (by first | omega | (simp; done) | (simp; omega)) _ | refine Below.drew ?_ | refine Below.setCell ?_ (by first | omega | (simp; done) | (simp; omega)) _ | refine Below.trans ?_ (Below.mono (by assumption) (by first | omega | (simp; done) | (simp; omega))))))) lg).mono ?_
    rw [HA.out]
    rintro e w1 ⟨rfl, b1⟩
    go_wp2_with fail
    go_ret2
    exact ⟨⟨none, 0, rfl, IntsAt.nil _ _⟩, by (repeat (first | exact Below.refl _ _ | refine Below.alloc ?_ (by first | omega | (simp; done) | (simp; omega)) _ | refine Below.drew ?_ | refine Below.setCell ?_ (by first | omega | (simp; done) | (simp; omega)) _ | refine Below.trans ?_ (Below.mono (by assumption) (by first | omega | (simp; done) | (simp; omega)))))⟩
end Go.Proofs.Ytnofcpihkglmmaa
