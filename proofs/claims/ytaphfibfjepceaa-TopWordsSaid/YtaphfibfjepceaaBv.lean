/- The arguments of pay's laws, opened. · pay: what the laws call, with what it yields under a name -/
import Derived.Test.YtaphfibfjepceaaBi
import Derived.ProofKit
import Derived.OpenShut
import Derived.ShutString
import Derived.ChangeOld
import Derived.Deep.Slices
import Derived.Deep.Fields
import Derived.Deep.Strs
import Derived.ChangeSame
import Derived.Lib.SmallJoins
import Derived.SizedLaws
namespace Go.Proofs.Ytaphfibfjepceaa
set_option linter.unusedVariables false
set_option linter.unusedSimpArgs false
set_option linter.unnecessarySimpa false
open Go.RowKit Go.Flow
open Go.ChangeShapes Go.WideShapes Go.ChangeAt Go.Deep Go.Joins

theorem ownK : ownKnob Try.prog.godebug = none := by kernel_rfl
theorem laidOutP : laidOutB Try.prog = true := by kernel_rfl

section
variable {H : Type} {enc : TypeId × Value → H} {P : Program} {w : World} {base : Nat} {spare : Nat → Bool} {held : Bool}
theorem addr_plain {w : World} {a : Addr} {v : Value} (h : w.cell? (a.add 0) = some v) : ∃ b off, a = ⟨b, off, none⟩ ∧ b < w.heap.size := by
  obtain ⟨b, off, sp⟩ := a
  have hs := World.cell?_spot h
  simp [Addr.add] at hs
  subst hs
  rw [addr_add] at h
  exact ⟨b, off, rfl, cell_lt h⟩
/-- A slice: each element's cells mean something. -/
theorem open_each {α : Type} {t e : TypeId} {fuel : Nat} {cs : List Value} {x : DataW H × List MemPlace} (z0 : α) (ht : P.underlying t = some (.slice e)) (size : Nat) (hC : P.cellsOf e = size) (hpos : 0 < size) (R : α → List Value → Prop)
    (he : ∀ n cs' y, DataW.trod enc P w base spare held n e cs' = some y → cs'.length = size → ∃ z, R z cs') (h : DataW.trod enc P w base spare held fuel t cs = some x) :
    ∃ (a : Option Addr) (xs : List α) (c : Nat), cs = [.slice a xs.length c] ∧ (a = none → c = 0) ∧ xs.length ≤ c ∧ c ≤ maxLen ∧
      ∀ k (hk : k < xs.length), ∃ b off cs', a = some ⟨b, off, none⟩ ∧ b < w.heap.size ∧ R xs[k] cs' ∧ ∀ (j : Nat) v, cs'[j]? = some v → w.cell? ⟨b, off + k * size + j, none⟩ = some v := by
  rcases open_slice ht h with ⟨h0, _⟩ | ⟨a, len, cap, m, n, D, Pl, hcs, hb, hl, hm, hmm, hx, hi⟩
  · exact ⟨none, [], 0, h0, fun _ => rfl, Nat.le_refl _, by unfold maxLen; omega, fun k hk => absurd hk (Nat.not_lt_zero k)⟩
  · have each : ∀ i, ∃ z : α, i < len → ∃ cs', R z cs' ∧ cs'.length = size ∧ ∀ (j : Nat) v, cs'[j]? = some v → w.cell? ((a.add (i * size)).add j) = some v := by
      intro i
      by_cases hil : i < len
      · have him : i < m := by rw [hmm]; split <;> omega
        obtain ⟨cs', hc, ht'⟩ := hi i him
        rw [hC] at hc
        obtain ⟨_, hcl, hat⟩ := World.cells?_some hc
        obtain ⟨z, hz⟩ := he _ _ _ ht' hcl
        refine ⟨z, fun _ => ⟨cs', hz, hcl, fun j v hj => ?_⟩⟩
        have hjl : j < size := by rw [← hcl]; exact (List.getElem?_eq_some_iff.1 hj).1
        rw [hat j hjl]; exact hj
      · exact ⟨z0, fun h => absurd h hil⟩
    obtain ⟨f, hf⟩ := Classical.axiomOfChoice each
    refine ⟨some a, (List.range len).map f, cap, by rw [hcs]; simp, (fun h => by cases h), by simpa using hl, hm, fun k hk => ?_⟩
    have hk' : k < len := by simpa using hk
    obtain ⟨cs0, _, hl0, hc0⟩ := hf 0 (by omega)
    obtain ⟨v0, hv0⟩ : ∃ v, cs0[0]? = some v := ⟨cs0[0]'(by omega), by simp⟩
    obtain ⟨b, off, rfl, hbw⟩ := addr_plain (by have := hc0 0 v0 hv0; rw [Nat.zero_mul, Go.Deep.add_add] at this; exact this)
    obtain ⟨cs', hz, _, hc⟩ := hf k hk'
    refine ⟨b, off, cs', rfl, hbw, by simpa using hz, fun j v hj => ?_⟩
    have := hc j v hj
    rw [addr_add, addr_add] at this
    exact this
end

section
variable {H : Type} {enc : TypeId × Value → H} {w : World} {base : Nat} {spare : Nat → Bool} {held : Bool}
def IntC (x : Int) (cs : List Value) : Prop := cs = [.int .i64 x]
set_option maxRecDepth 100000 in
theorem open_ints11 {n : Nat} {cs : List Value} {y : DataW H × List MemPlace} (h : DataW.trod enc Try.prog w base spare held n 25 cs = some y) : ∃ (a : Option Addr) (xs : List Int) (c : Nat), cs = [.slice a xs.length c] ∧ IntsAt w a xs ∧ (a = none → c = 0) ∧ xs.length ≤ c ∧ c ≤ maxLen := by
  obtain ⟨a, xs, c, h1, h2, h3, h4, h5⟩ := open_each 0 Try.underlying25 1 (by kernel_rfl) (by omega) IntC (fun n cs' y ht hl => by obtain ⟨z, e, _⟩ := DataW.trod_int Try.underlying3 ht; exact ⟨z, e⟩) h
  refine ⟨a, xs, c, h1, fun k hk => ?_, h2, h3, h4⟩
  obtain ⟨b, off, cs', ha, hb, hr, hc⟩ := h5 k hk
  rw [hr] at hc
  refine ⟨b, off, ha, hb, ?_⟩
  have := hc 0 _ rfl
  simpa [hk] using this
def RangeC (x : Int × Int) (cs : List Value) : Prop := cs = [.int .i64 x.1, .int .i64 x.2]
set_option maxRecDepth 100000 in
theorem open_rangeC {n : Nat} {cs : List Value} {y : DataW H × List MemPlace} (h : DataW.trod enc Try.prog w base spare held n 46 cs = some y) (hl : cs.length = 2) : ∃ x : Int × Int, RangeC x cs := by
  obtain ⟨y0, y1, m, _, _, t0, t1⟩ := trod_struct2 Try.underlying46 h
  obtain ⟨a, e0, _, _⟩ := DataW.trod_int Try.underlying3 t0
  obtain ⟨b, e1, _, _⟩ := DataW.trod_int Try.underlying3 t1
  match cs, hl with
  | [c0, c1], _ =>
    rw [show Try.prog.cellsOf 3 = 1 by kernel_rfl] at e0 e1
    simp at e0 e1
    exact ⟨(a, b), by rw [RangeC, e0, e1]⟩
def DisC (w : World) (d : Dis) (cs : List Value) : Prop := ∃ al c, cs = [.int .i64 d.payer, .int .i64 d.lo, .int .i64 d.hi, .slice al d.passed.length c] ∧ PassAt w al c d.passed ∧ d.passed.length ≤ maxLen
set_option maxRecDepth 100000 in
theorem open_disC {n : Nat} {cs : List Value} {y : DataW H × List MemPlace} (h : DataW.trod enc Try.prog w base spare held n 48 cs = some y) (hl : cs.length = 4) : ∃ x : Dis, DisC w x cs := by
  obtain ⟨y0, y1, y2, m, _, _, t0, t1, t2⟩ := trod_struct3 Try.underlying48 h
  match cs, hl with
  | [c0, c1, c2, c3], _ =>
    rw [show Try.prog.cellsOf 3 = 1 by kernel_rfl] at t0
    rw [show Try.prog.cellsOf 46 = 2 by kernel_rfl] at t1
    rw [show Try.prog.cellsOf 25 = 1 by kernel_rfl] at t2
    obtain ⟨p, e0, _, _⟩ := DataW.trod_int Try.underlying3 t0
    obtain ⟨⟨a, b⟩, e1⟩ := open_rangeC t1 (by simp)
    obtain ⟨ar, xs, c, e2, hx, hn, h3, h4⟩ := open_ints11 t2
    simp [RangeC] at e0 e1 e2
    obtain ⟨rfl, rfl⟩ := e1
    subst e0 e2
    exact ⟨⟨p, a, b, xs⟩, ar, c, rfl, ⟨hx, h3, hn⟩, by show xs.length ≤ maxLen; omega⟩
structure AccBig (ds : List Dis) : Prop where
  d : ds.length ≤ maxLen
  p : ∀ d ∈ ds, d.passed.length ≤ maxLen
set_option maxRecDepth 100000 in
theorem open_dis {n : Nat} {cs : List Value} {y : DataW H × List MemPlace} (h : DataW.trod enc Try.prog w base spare held n 27 cs = some y) : ∃ (a : Option Addr) (xs : List Dis) (c : Nat), cs = [.slice a xs.length c] ∧ DisAt w a xs ∧ (a = none → c = 0) ∧ xs.length ≤ c ∧ AccBig xs := by
  obtain ⟨a, xs, c, h1, h2, h3, h4, h5⟩ := open_each ⟨0, 0, 0, []⟩ Try.underlying27 4 (by kernel_rfl) (by omega) (DisC w) (fun n cs' y ht hl => open_disC ht hl) h
  refine ⟨a, xs, c, h1, fun k hk => ?_, h2, h3, ⟨by omega, fun d hd => ?_⟩⟩
  · obtain ⟨b, off, cs', ha, hb, ⟨ar, c', rfl, hx, _⟩, hc⟩ := h5 k hk
    exact ⟨b, off, ar, c', ha, hb, by have := hc 0 _ rfl; simpa using this, hc 1 _ rfl, hc 2 _ rfl, hc 3 _ rfl, hx⟩
  · obtain ⟨k, hk, rfl⟩ := List.getElem_of_mem hd
    obtain ⟨b, off, cs', ha, hb, ⟨ar, c', rfl, hx, hm⟩, hc⟩ := h5 k hk
    exact hm
set_option maxRecDepth 100000 in
theorem open_acc {r : Reach} {b0 : Nat} {v : Value} {d : DataW H} {p : List MemPlace} (hv : Value.okWide Try.prog w r b0 29 v) (h : DataW.Trod enc Try.prog w base spare held 29 v d p) :
    ∃ (st rate keeps : Int) (ds : List Dis) (ad : Option Addr) (cd : Nat), v = .agg #[.int .i64 st, .int .i64 rate, .int .i64 keeps, .slice ad ds.length cd] ∧ DisAt w ad ds ∧ (ad = none → cd = 0) ∧ ds.length ≤ cd ∧ AccBig ds := by
  obtain ⟨v0, v1, v2, v3, y0, y1, y2, y3, n, rfl, _, _, t0, t1, t2, t3⟩ := open_agg4 Try.underlying29 (by kernel_rfl) (by kernel_rfl) hv h
  obtain ⟨s, e0, _, _⟩ := DataW.trod_int Try.underlying3 t0
  obtain ⟨wo, e1, _, _⟩ := DataW.trod_int Try.underlying3 t1
  obtain ⟨ke, e2, _, _⟩ := DataW.trod_int Try.underlying3 t2
  obtain ⟨ad, ds, cd, e3, hd, nd, lc, big⟩ := open_dis t3
  simp at e0 e1 e2 e3
  subst e0 e1 e2 e3
  exact ⟨s, wo, ke, ds, ad, cd, rfl, hd, nd, lc, big⟩
set_option maxRecDepth 100000 in
theorem open_list {r : Reach} {b0 : Nat} {v : Value} {d : DataW H} {p : List MemPlace} (hv : Value.okWide Try.prog w r b0 25 v) (h : DataW.Trod enc Try.prog w base spare held 25 v d p) :
    ∃ (a : Option Addr) (xs : List Int) (c : Nat), v = .slice a xs.length c ∧ IntsAt w a xs ∧ (a = none → c = 0) ∧ xs.length ≤ c ∧ c ≤ maxLen := by
  obtain ⟨a0, len0, cap0, rfl⟩ := okWide_slice Try.underlying25 hv
  obtain ⟨fuel, hf⟩ := h
  obtain ⟨a, xs, c, e, hx, hn, h1, h2⟩ := open_ints11 hf
  simp [Value.cells] at e
  obtain ⟨rfl, rfl, rfl⟩ := e
  exact ⟨_, xs, _, rfl, hx, hn, h1, h2⟩
def PayC (x : Int × Int × Int) (cs : List Value) : Prop := cs = [.int .i64 x.1, .int .i64 x.2.1, .int .i64 x.2.2]
def IntsC (w : World) (x : List Int) (cs : List Value) : Prop := ∃ a c, cs = [.slice a x.length c] ∧ IntsAt w a x ∧ (a = none → c = 0) ∧ x.length ≤ maxLen
/-- Numbers of sixteen bits in a slice. -/
def U16At (w : World) (a : Option Addr) (xs : List Int) : Prop :=
  ∀ k, k < xs.length → ∃ b off, a = some ⟨b, off, none⟩ ∧ b < w.heap.size ∧ w.cell? ⟨b, off + k, none⟩ = some (.int .u16 (xs.getD k 0))
theorem U16At.below {w w' : World} {a : Option Addr} {xs : List Int} (h : U16At w a xs) (hb : Below w.heap.size w w') : U16At w' a xs := fun k hk =>
  let ⟨b, off, ha, hlt, hc⟩ := h k hk
  ⟨b, off, ha, Nat.lt_of_lt_of_le hlt hb.size, (hb.cell (p := ⟨b, off + k, none⟩) hlt).trans hc⟩
def U16C (x : Int) (cs : List Value) : Prop := cs = [.int .u16 x] ∧ 0 ≤ x ∧ x ≤ 65535
set_option maxRecDepth 100000 in
theorem open_words {r : Reach} {b0 : Nat} {v : Value} {d : DataW H} {p : List MemPlace} (hv : Value.okWide Try.prog w r b0 26 v) (h : DataW.Trod enc Try.prog w base spare held 26 v d p) :
    ∃ (a : Option Addr) (xs : List Int) (c : Nat), v = .slice a xs.length c ∧ U16At w a xs ∧ (a = none → c = 0) ∧ xs.length ≤ c ∧ c ≤ maxLen ∧ ∀ n ∈ xs, 0 ≤ n ∧ n ≤ 65535 := by
  obtain ⟨a0, len0, cap0, rfl⟩ := okWide_slice Try.underlying26 hv
  obtain ⟨fuel, hf⟩ := h
  obtain ⟨a, xs, c, h1, h2, h3, h4, h5⟩ := open_each 0 Try.underlying26 1 (by kernel_rfl) (by omega) U16C (fun n cs' y ht hl => by obtain ⟨z, e, _, hw⟩ := DataW.trod_int Try.underlying92 ht; exact ⟨z, e, by simp [Lit.wf, IntKind.min, IntKind.max, IntKind.bits, IntKind.signed] at hw; omega⟩) hf
  simp [Value.cells] at h1
  obtain ⟨rfl, rfl, rfl⟩ := h1
  refine ⟨_, xs, _, rfl, fun k hk => ?_, h2, h3, h4, fun n hn => ?_⟩
  · obtain ⟨b, off, cs', ha, hb, ⟨rfl, _⟩, hc⟩ := h5 k hk
    refine ⟨b, off, ha, hb, ?_⟩
    have := hc 0 _ rfl
    simpa [hk] using this
  · obtain ⟨k, hk, rfl⟩ := List.getElem_of_mem hn
    obtain ⟨b, off, cs', ha, hb, ⟨_, h1, h2⟩, hc⟩ := h5 k hk
    exact ⟨h1, h2⟩
end
end Go.Proofs.Ytaphfibfjepceaa

namespace Go.Proofs.Ytaphfibfjepceaa
set_option linter.unusedVariables false
set_option linter.unusedSimpArgs false
set_option linter.unnecessarySimpa false
open Go.RowKit Go.Flow Go.Shelf

section
variable (st rate keeps : Int) (ds : List Dis) (ad : Option Addr) (cd : Nat) (w : World)
theorem thin_eq (T : Bool) (HT : Hid (thinB ds = T)) (hd : DisAt w ad ds) (big : Hid (AccBig ds)) :
    Calls Try.prog 7 #[.agg #[.int .i64 st, .int .i64 rate, .int .i64 keeps, .slice ad ds.length cd]] w fun e w' => e = .returned (.bool T) ∧ Below w.heap.size w w' := by
  rw [← HT.out]
  have b1 := big.out.d
  unfold maxLen at b1
  exact thin_any st rate keeps ds ad cd w hd (by omega) (fun d h => by have := big.out.p d h; unfold maxLen at this; omega)
theorem account_eq (hd : DisAt w ad ds) (SM : Hid (AccSmall ⟨st, rate, keeps, ds⟩)) :
    Calls Try.prog 16 #[.agg #[.int .i64 st, .int .i64 rate, .int .i64 keeps, .slice ad ds.length cd]] w fun e w' => (∃ a c, e = .returned (.agg #[.int .i64 st, .int .i64 rate, .int .i64 keeps, .slice a ds.length c]) ∧ DisAt w' a ds) ∧ Below w.heap.size w w' :=
  account_any st rate keeps ds ad cd w hd SM.out
theorem check_eq (E : Int) (HE : Hid (accErr ⟨st, rate, keeps, ds⟩ = E)) (hd : DisAt w ad ds) (SM : Hid (AccSmall ⟨st, rate, keeps, ds⟩)) :
    Calls Try.prog 52 #[.agg #[.int .i64 st, .int .i64 rate, .int .i64 keeps, .slice ad ds.length cd]] w fun e w' => e = .returned (.int .i64 E) ∧ Below w.heap.size w w' := by
  rw [← HE.out]
  exact checkAccount_any st rate keeps ds ad cd w hd SM.out
theorem sharesBad_eq (E d x : Int) (HE : Hid (accErr ⟨st, rate, keeps, ds⟩ = E)) (hne : E ≠ 0) (hd : DisAt w ad ds) (SM : Hid (AccSmall ⟨st, rate, keeps, ds⟩)) :
    Calls Try.prog 18 #[.agg #[.int .i64 st, .int .i64 rate, .int .i64 keeps, .slice ad ds.length cd], .int .i64 d, .int .i64 x] w fun e w' => e = .returned (.tuple #[.slice none 0 0, .int .i64 E]) ∧ Below w.heap.size w w' :=
  Shares_bad st rate keeps ds ad cd d x w hd SM.out E HE.out hne
theorem shares_eq (d x : Int) (S : List Int) (eS : Int) (H0 : Hid (accErr ⟨st, rate, keeps, ds⟩ = 0)) (HS : Hid (sharesOut ⟨st, rate, keeps, ds⟩ d x = S)) (He : Hid (sharesErr ⟨st, rate, keeps, ds⟩ d x = eS)) (hd : DisAt w ad ds) (SM : Hid (AccSmall ⟨st, rate, keeps, ds⟩)) :
    Calls Try.prog 18 #[.agg #[.int .i64 st, .int .i64 rate, .int .i64 keeps, .slice ad ds.length cd], .int .i64 d, .int .i64 x] w fun e w' => (∃ a c, e = .returned (.tuple #[.slice a S.length c, .int .i64 eS]) ∧ IntsAt w' a S) ∧ Below w.heap.size w w' := by
  rw [← HS.out, ← He.out]
  exact Shares_good st rate keeps ds ad cd d x w hd SM.out H0.out
variable (at_ : Option Addr) (t : List Int) (ct : Nat)
theorem balBad_eq (E : Int) (HE : Hid (accErr ⟨st, rate, keeps, ds⟩ = E)) (hne : E ≠ 0) (hd : DisAt w ad ds) (SM : Hid (AccSmall ⟨st, rate, keeps, ds⟩)) (ht : IntsAt w at_ t) (lt : t.length ≤ 1000) :
    Calls Try.prog 17 #[.agg #[.int .i64 st, .int .i64 rate, .int .i64 keeps, .slice ad ds.length cd], .slice at_ t.length ct] w fun e w' => e = .returned (.tuple #[.slice none 0 0, .int .i64 E]) ∧ Below w.heap.size w w' :=
  Balance_bad st rate keeps ds ad cd at_ t ct w hd SM.out E HE.out hne
theorem bal_eq (B : List Int) (eB : Int) (H0 : Hid (accErr ⟨st, rate, keeps, ds⟩ = 0)) (HB : Hid (balOut ⟨st, rate, keeps, ds⟩ t = B)) (He : Hid (balErr ⟨st, rate, keeps, ds⟩ t = eB)) (hd : DisAt w ad ds) (SM : Hid (AccSmall ⟨st, rate, keeps, ds⟩)) (ht : IntsAt w at_ t) (lt : t.length ≤ 1000) :
    Calls Try.prog 17 #[.agg #[.int .i64 st, .int .i64 rate, .int .i64 keeps, .slice ad ds.length cd], .slice at_ t.length ct] w fun e w' => (∃ a c, e = .returned (.tuple #[.slice a B.length c, .int .i64 eB]) ∧ IntsAt w' a B) ∧ Below w.heap.size w w' := by
  rw [← HB.out, ← He.out]
  exact Balance_good st rate keeps ds ad cd at_ t ct w hd SM.out ht lt H0.out
theorem list_eq (ht : IntsAt w at_ t) (lt : t.length ≤ 1000) (hn : at_ = none → ct = 0) :
    Calls Try.prog 35 #[.slice at_ t.length ct] w fun e w' => (∃ a c, e = .returned (.slice a t.length c) ∧ IntsAt w' a t ∧ (a = none → c = 0)) ∧ Below w.heap.size w w' :=
  (list_any at_ t ct w ht (by omega) hn).mono fun e w' ⟨a, c, he, ho, hb⟩ => ⟨⟨a, c, he, ho.ints.1, fun h => by subst h; exact ho.isnil.2⟩, hb⟩
end
theorem rin_eq' (a b c : Int) (r : Bool) (h : Hid (inR a b c = r)) (w : World) :
    Calls Try.prog 21 #[.int .i64 a, .int .i64 b, .int .i64 c] w fun e w' => e = .returned (.bool r) ∧ w = w' := rin_eq a b c r h.out w
end Go.Proofs.Ytaphfibfjepceaa
