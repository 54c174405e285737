/- pay: what the laws on truths call, with what it yields under a name -/
import Derived.Test.YtomjlmhnjgohdaaBx
import Derived.Test.YtomjlmhnjgohdaaIc
import Derived.Test.YtomjlmhnjgohdaaHc
namespace Go.Proofs.Ytomjlmhnjgohdaa
set_option linter.unusedVariables false
set_option linter.unusedSimpArgs false
set_option linter.unnecessarySimpa false
open Go.RowKit Go.Flow Go.Shelf

section
variable (st rate keeps : Int) (ds : List Dis) (ad : Option Addr) (cd : Nat) (w : World)
theorem bounds_eq (O : List (Int × Int)) (H0 : Hid (accErr ⟨st, rate, keeps, ds⟩ = 0)) (HO : Hid (bdOut ⟨st, rate, keeps, ds⟩ = O)) (hd : DisAt w ad ds) (SM : Hid (AccSmall ⟨st, rate, keeps, ds⟩)) :
    Calls Try.prog 40 #[.agg #[.int .i64 st, .int .i64 rate, .int .i64 keeps, .slice ad ds.length cd]] w fun e w' => (∃ a c, e = .returned (.tuple #[.slice a O.length c, .int .i64 0]) ∧ Recs2At w' a O) ∧ Below w.heap.size w w' := by
  rw [← HO.out]
  exact Bounds_good st rate keeps ds ad cd w hd SM.out H0.out
theorem reach_eq (sx : Int) (high : Bool) (R : List Int) (H0 : Hid (accErr ⟨st, rate, keeps, ds⟩ = 0)) (Hs : Hid (inR sx 0 (st - 1) = true)) (HR : Hid (reachL rate keeps (endX high) sx ds ds.length = R)) (hd : DisAt w ad ds) (SM : Hid (AccSmall ⟨st, rate, keeps, ds⟩)) :
    Calls Try.prog 42 #[.agg #[.int .i64 st, .int .i64 rate, .int .i64 keeps, .slice ad ds.length cd], .int .i64 sx, .bool high] w fun e w' => (∃ a c, e = .returned (.tuple #[.slice a R.length c, .int .i64 0]) ∧ IntsAt w' a R ∧ (a = none → c = 0)) ∧ Below w.heap.size w w' := by
  rw [← HR.out, reachL_len]
  exact Reach_in st rate keeps ds ad cd sx w hd SM.out high H0.out Hs.out
theorem picked_eq (aw : Option Addr) (ws : List Int) (cw : Nat) (T : List Int) (H0 : Hid (accErr ⟨st, rate, keeps, ds⟩ = 0)) (HT : Hid (pkL ds ws = T)) (hd : DisAt w ad ds) (hw : U16At w aw ws) (HU : Hid (U16s ws)) (hwl : ws.length ≤ 9223372036854775807) :
    Calls Try.prog 39 #[.agg #[.int .i64 st, .int .i64 rate, .int .i64 keeps, .slice ad ds.length cd], .slice aw ws.length cw] w fun e w' => (∃ a c, e = .returned (.slice a T.length c) ∧ IntsAt w' a T ∧ (a = none → c = 0)) ∧ Below w.heap.size w w' := by
  have := pkL_len ds ws
  rw [← HT.out, this]
  exact picked_any st rate keeps ds ad cd aw ws cw w hd H0.out hw HU.out hwl
theorem shares_in (i : Nat) (x : Int) (S : List Int) (H0 : Hid (accErr ⟨st, rate, keeps, ds⟩ = 0)) (hi : i < ds.length) (Hx : Hid (ds[i].lo ≤ x ∧ x ≤ ds[i].hi)) (HS : Hid (sharesF rate keeps ds[i].passed.length x = S)) (hd : DisAt w ad ds) (SM : Hid (AccSmall ⟨st, rate, keeps, ds⟩)) :
    Calls Try.prog 20 #[.agg #[.int .i64 st, .int .i64 rate, .int .i64 keeps, .slice ad ds.length cd], .int .i64 (i : Int), .int .i64 x] w fun e w' => (∃ a c, e = .returned (.tuple #[.slice a S.length c, .int .i64 0]) ∧ IntsAt w' a S) ∧ Below w.heap.size w w' := by
  have hgd : ds.getD i ⟨0, 0, 0, []⟩ = ds[i] := by simp [hi]
  have hsi : sharesIn ⟨st, rate, keeps, ds⟩ (i : Int) x = true := by
    simp only [sharesIn, Int.toNat_natCast, hgd, Bool.and_eq_true, inR_iff]
    exact ⟨by omega, Hx.out⟩
  have h0 := H0.out
  have e1 : sharesOut ⟨st, rate, keeps, ds⟩ (i : Int) x = S := by
    rw [sharesOut, if_pos (by first | exact ⟨h0, hsi⟩ | exact hsi), ← HS.out]
    simp [shF, hi]
  have e2 : sharesErr ⟨st, rate, keeps, ds⟩ (i : Int) x = 0 := by rw [sharesErr, if_neg (by simpa using h0), hsi]; rfl
  exact shares_eq st rate keeps ds ad cd w (i : Int) x S 0 H0 (Lib.hid e1) (Lib.hid e2) hd SM
end
/-- An account in memory of its own. -/
def AccW (st rate keeps : Int) (ds : List Dis) (v : Value) (w : World) : Prop := ∃ a c, v = .agg #[.int .i64 st, .int .i64 rate, .int .i64 keeps, .slice a ds.length c] ∧ DisAt w a ds
theorem AccW.kept {st rate keeps : Int} {ds : List Dis} {v : Value} {w w' : World} (h : AccW st rate keeps ds v w) (hb : Below w.heap.size w w') : AccW st rate keeps ds v w' := let ⟨a, c, h1, h2⟩ := h; ⟨a, c, h1, h2.below hb⟩
/-- A list and an error. -/
def TupV (S : List Int) (E : Int) (v : Value) (w : World) : Prop := ∃ a c, v = .tuple #[.slice a S.length c, .int .i64 E] ∧ IntsAt w a S
theorem TupV.kept {S : List Int} {E : Int} {v : Value} {w w' : World} (h : TupV S E v w) (hb : Below w.heap.size w w') : TupV S E v w' := let ⟨a, c, h1, h2⟩ := h; ⟨a, c, h1, h2.below hb⟩
def SlV (S : List Int) (v : Value) (w : World) : Prop := ∃ a c, v = .slice a S.length c ∧ IntsAt w a S
theorem SlV.kept {S : List Int} {v : Value} {w w' : World} (h : SlV S v w) (hb : Below w.heap.size w w') : SlV S v w' := let ⟨a, c, h1, h2⟩ := h; ⟨a, c, h1, h2.below hb⟩
end Go.Proofs.Ytomjlmhnjgohdaa
