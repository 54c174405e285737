/- The arguments of copies' laws, opened. -/
import Derived.Test.YtfclemnkcpadpaaRi
import Derived.ProofKit
import Derived.OpenShut
import Derived.ShutString
import Derived.ChangeOld
import Derived.Deep.Slices
import Derived.Deep.Fields
import Derived.ChangeSame
import Derived.Lib.SmallJoins
import Derived.SizedLaws
namespace Go.Proofs.Ytfclemnkcpadpaa
set_option linter.unusedVariables false
set_option linter.unusedSimpArgs false
set_option linter.unnecessarySimpa false
open Go.RowKit Go.Flow
open Go.ChangeShapes Go.WideShapes Go.ChangeAt Go.Deep Go.Joins

theorem ownK : ownKnob Try.prog.godebug = none := by kernel_rfl
theorem laidOutP : laidOutB Try.prog = true := by kernel_rfl

section
variable {H : Type} {enc : TypeId × Value → H} {P : Program} {w : World} {base : Nat} {spare : Nat → Bool} {held : Bool}
theorem addr_plain {w : World} {a : Addr} {v : Value} (h : w.cell? (a.add 0) = some v) : ∃ b off, a = ⟨b, off, none⟩ ∧ b < w.heap.size := by
  obtain ⟨b, off, sp⟩ := a
  have hs := World.cell?_spot h
  simp [Addr.add] at hs
  subst hs
  rw [addr_add] at h
  exact ⟨b, off, rfl, cell_lt h⟩
/-- A slice: each element's cells mean something. -/
theorem open_each {α : Type} {t e : TypeId} {fuel : Nat} {cs : List Value} {x : DataW H × List MemPlace} (z0 : α) (ht : P.underlying t = some (.slice e)) (size : Nat) (hC : P.cellsOf e = size) (hpos : 0 < size) (R : α → List Value → Prop)
    (he : ∀ n cs' y, DataW.trod enc P w base spare held n e cs' = some y → cs'.length = size → ∃ z, R z cs') (h : DataW.trod enc P w base spare held fuel t cs = some x) :
    ∃ (a : Option Addr) (xs : List α) (c : Nat), cs = [.slice a xs.length c] ∧ (a = none → c = 0) ∧ xs.length ≤ c ∧ c ≤ maxLen ∧
      ∀ k (hk : k < xs.length), ∃ b off cs', a = some ⟨b, off, none⟩ ∧ b < w.heap.size ∧ R xs[k] cs' ∧ ∀ (j : Nat) v, cs'[j]? = some v → w.cell? ⟨b, off + k * size + j, none⟩ = some v := by
  rcases open_slice ht h with ⟨h0, _⟩ | ⟨a, len, cap, m, n, D, Pl, hcs, hb, hl, hm, hmm, hx, hi⟩
  · exact ⟨none, [], 0, h0, fun _ => rfl, Nat.le_refl _, by unfold maxLen; omega, fun k hk => absurd hk (Nat.not_lt_zero k)⟩
  · have each : ∀ i, ∃ z : α, i < len → ∃ cs', R z cs' ∧ cs'.length = size ∧ ∀ (j : Nat) v, cs'[j]? = some v → w.cell? ((a.add (i * size)).add j) = some v := by
      intro i
      by_cases hil : i < len
      · have him : i < m := by rw [hmm]; split <;> omega
        obtain ⟨cs', hc, ht'⟩ := hi i him
        rw [hC] at hc
        obtain ⟨_, hcl, hat⟩ := World.cells?_some hc
        obtain ⟨z, hz⟩ := he _ _ _ ht' hcl
        refine ⟨z, fun _ => ⟨cs', hz, hcl, fun j v hj => ?_⟩⟩
        have hjl : j < size := by rw [← hcl]; exact (List.getElem?_eq_some_iff.1 hj).1
        rw [hat j hjl]; exact hj
      · exact ⟨z0, fun h => absurd h hil⟩
    obtain ⟨f, hf⟩ := Classical.axiomOfChoice each
    refine ⟨some a, (List.range len).map f, cap, by rw [hcs]; simp, (fun h => by cases h), by simpa using hl, hm, fun k hk => ?_⟩
    have hk' : k < len := by simpa using hk
    obtain ⟨cs0, _, hl0, hc0⟩ := hf 0 (by omega)
    obtain ⟨v0, hv0⟩ : ∃ v, cs0[0]? = some v := ⟨cs0[0]'(by omega), by simp⟩
    obtain ⟨b, off, rfl, hbw⟩ := addr_plain (by have := hc0 0 v0 hv0; rw [Nat.zero_mul, Go.Deep.add_add] at this; exact this)
    obtain ⟨cs', hz, _, hc⟩ := hf k hk'
    refine ⟨b, off, cs', rfl, hbw, by simpa using hz, fun j v hj => ?_⟩
    have := hc j v hj
    rw [addr_add, addr_add] at this
    exact this
end

section
variable {H : Type} {enc : TypeId × Value → H} {w : World} {base : Nat} {spare : Nat → Bool} {held : Bool}
def RangeC (x : Int × Int) (cs : List Value) : Prop := cs = [.int .i64 x.1, .int .i64 x.2]
set_option maxRecDepth 100000 in
theorem open_rangeC {n : Nat} {cs : List Value} {y : DataW H × List MemPlace} (h : DataW.trod enc Try.prog w base spare held n 64 cs = some y) (hl : cs.length = 2) : ∃ x : Int × Int, RangeC x cs := by
  obtain ⟨y0, y1, m, _, _, t0, t1⟩ := trod_struct2 Try.underlying64 h
  obtain ⟨a, e0, _, _⟩ := DataW.trod_int Try.underlying3 t0
  obtain ⟨b, e1, _, _⟩ := DataW.trod_int Try.underlying3 t1
  match cs, hl with
  | [c0, c1], _ =>
    rw [show Try.prog.cellsOf 3 = 1 by kernel_rfl] at e0 e1
    simp at e0 e1
    exact ⟨(a, b), by rw [RangeC, e0, e1]⟩
def LegC (w : World) (l : Leg) (cs : List Value) : Prop := ∃ ar c, cs = [.int .i64 l.lo, .int .i64 l.hi, .slice ar l.asl.length c] ∧ Recs2At w ar l.asl ∧ l.asl.length ≤ maxLen
set_option maxRecDepth 100000 in
theorem open_ranges {n : Nat} {cs : List Value} {y : DataW H × List MemPlace} (h : DataW.trod enc Try.prog w base spare held n 84 cs = some y) : ∃ (a : Option Addr) (xs : List (Int × Int)) (c : Nat), cs = [.slice a xs.length c] ∧ Recs2At w a xs ∧ (a = none → c = 0) ∧ xs.length ≤ c ∧ c ≤ maxLen := by
  obtain ⟨a, xs, c, h1, h2, h3, h4, h5⟩ := open_each (0, 0) Try.underlying84 2 (by kernel_rfl) (by omega) RangeC (fun n cs' y ht hl => open_rangeC ht hl) h
  refine ⟨a, xs, c, h1, fun k hk => ?_, h2, h3, h4⟩
  obtain ⟨b, off, cs', ha, hb, hr, hc⟩ := h5 k hk
  rw [hr] at hc
  exact ⟨b, off, ha, hb, by have := hc 0 _ rfl; simpa using this, hc 1 _ rfl⟩
set_option maxRecDepth 100000 in
theorem open_legC {n : Nat} {cs : List Value} {y : DataW H × List MemPlace} (h : DataW.trod enc Try.prog w base spare held n 86 cs = some y) (hl : cs.length = 3) : ∃ x : Leg, LegC w x cs := by
  obtain ⟨y0, y1, m, _, _, t0, t1⟩ := trod_struct2 Try.underlying86 h
  match cs, hl with
  | [c0, c1, c2], _ =>
    rw [show Try.prog.cellsOf 64 = 2 by kernel_rfl] at t0
    rw [show Try.prog.cellsOf 84 = 1 by kernel_rfl] at t1
    obtain ⟨⟨a, b⟩, e0⟩ := open_rangeC t0 (by simp)
    obtain ⟨ar, xs, c, e1, hx, _, h3, h4⟩ := open_ranges t1
    simp [RangeC] at e0 e1
    obtain ⟨rfl, rfl⟩ := e0
    subst e1
    exact ⟨⟨a, b, xs⟩, ar, c, rfl, hx, by show xs.length ≤ maxLen; omega⟩
set_option maxRecDepth 100000 in
theorem open_legs {n : Nat} {cs : List Value} {y : DataW H × List MemPlace} (h : DataW.trod enc Try.prog w base spare held n 52 cs = some y) : ∃ (a : Option Addr) (xs : List Leg) (c : Nat), cs = [.slice a xs.length c] ∧ LegsAt w a xs ∧ (a = none → c = 0) ∧ xs.length ≤ c ∧ c ≤ maxLen ∧ ∀ l ∈ xs, l.asl.length ≤ maxLen := by
  obtain ⟨a, xs, c, h1, h2, h3, h4, h5⟩ := open_each ⟨0, 0, []⟩ Try.underlying52 3 (by kernel_rfl) (by omega) (LegC w) (fun n cs' y ht hl => open_legC ht hl) h
  refine ⟨a, xs, c, h1, fun k hk => ?_, h2, h3, h4, fun l hl => ?_⟩
  · obtain ⟨b, off, cs', ha, hb, ⟨ar, c', rfl, hx, _⟩, hc⟩ := h5 k hk
    exact ⟨b, off, ar, c', ha, hb, by have := hc 0 _ rfl; simpa using this, hc 1 _ rfl, hc 2 _ rfl, hx⟩
  · obtain ⟨k, hk, rfl⟩ := List.getElem_of_mem hl
    obtain ⟨b, off, cs', ha, hb, ⟨ar, c', rfl, hx, hm⟩, hc⟩ := h5 k hk
    exact hm
structure RouteBig (r : Route) : Prop where
  l : r.legs.length ≤ maxLen
  a : ∀ l ∈ r.legs, l.asl.length ≤ maxLen
def RouteC (w : World) (r : Route) (cs : List Value) : Prop := ∃ al c, cs = [.slice al r.legs.length c, .bool r.lossy] ∧ LegsAt w al r.legs ∧ RouteBig r
set_option maxRecDepth 100000 in
theorem open_routeC {n : Nat} {cs : List Value} {y : DataW H × List MemPlace} (h : DataW.trod enc Try.prog w base spare held n 54 cs = some y) (hl : cs.length = 2) : ∃ x : Route, RouteC w x cs := by
  obtain ⟨y0, y1, m, _, _, t0, t1⟩ := trod_struct2 Try.underlying54 h
  match cs, hl with
  | [c0, c1], _ =>
    rw [show Try.prog.cellsOf 52 = 1 by kernel_rfl] at t0
    rw [show Try.prog.cellsOf 4 = 1 by kernel_rfl] at t1
    obtain ⟨al, xs, c, e0, hx, _, h3, h4, h5⟩ := open_legs t0
    obtain ⟨b, e1, _⟩ := DataW.trod_bool Try.underlying4 t1
    simp at e0 e1
    subst e0 e1
    exact ⟨⟨xs, b⟩, al, c, rfl, hx, ⟨by show xs.length ≤ maxLen; omega, h5⟩⟩
set_option maxRecDepth 100000 in
theorem open_routes {n : Nat} {cs : List Value} {y : DataW H × List MemPlace} (h : DataW.trod enc Try.prog w base spare held n 23 cs = some y) : ∃ (a : Option Addr) (xs : List Route) (c : Nat), cs = [.slice a xs.length c] ∧ RoutesAt w a xs ∧ (a = none → c = 0) ∧ xs.length ≤ c ∧ c ≤ maxLen ∧ ∀ r ∈ xs, RouteBig r := by
  obtain ⟨a, xs, c, h1, h2, h3, h4, h5⟩ := open_each ⟨[], false⟩ Try.underlying23 2 (by kernel_rfl) (by omega) (RouteC w) (fun n cs' y ht hl => open_routeC ht hl) h
  refine ⟨a, xs, c, h1, fun k hk => ?_, h2, h3, h4, fun l hl => ?_⟩
  · obtain ⟨b, off, cs', ha, hb, ⟨ar, c', rfl, hx, _⟩, hc⟩ := h5 k hk
    exact ⟨b, off, ar, c', ha, hb, by have := hc 0 _ rfl; simpa using this, hc 1 _ rfl, hx⟩
  · obtain ⟨k, hk, rfl⟩ := List.getElem_of_mem hl
    obtain ⟨b, off, cs', ha, hb, ⟨ar, c', rfl, hx, hm⟩, hc⟩ := h5 k hk
    exact hm
structure PostBig (p : Post) : Prop where
  s : p.sends.length ≤ maxLen
  r : p.routes.length ≤ maxLen
  l : ∀ r ∈ p.routes, RouteBig r
def IntsC (w : World) (x : List Int) (cs : List Value) : Prop := ∃ a c, cs = [.slice a x.length c] ∧ IntsAt w a x ∧ (a = none → c = 0) ∧ x.length ≤ maxLen
def IntC (x : Int) (cs : List Value) : Prop := cs = [.int .i64 x]
set_option maxRecDepth 100000 in
theorem open_ints5 {n : Nat} {cs : List Value} {y : DataW H × List MemPlace} (h : DataW.trod enc Try.prog w base spare held n 22 cs = some y) : ∃ (a : Option Addr) (xs : List Int) (c : Nat), cs = [.slice a xs.length c] ∧ IntsAt w a xs ∧ (a = none → c = 0) ∧ xs.length ≤ c ∧ c ≤ maxLen := by
  obtain ⟨a, xs, c, h1, h2, h3, h4, h5⟩ := open_each 0 Try.underlying22 1 (by kernel_rfl) (by omega) IntC (fun n cs' y ht hl => by obtain ⟨z, e, _⟩ := DataW.trod_int Try.underlying3 ht; exact ⟨z, e⟩) h
  refine ⟨a, xs, c, h1, fun k hk => ?_, h2, h3, h4⟩
  obtain ⟨b, off, cs', ha, hb, hr, hc⟩ := h5 k hk
  rw [hr] at hc
  exact ⟨b, off, ha, hb, by have := hc 0 _ rfl; simpa [hk] using this⟩
set_option maxRecDepth 100000 in
theorem open_lists {n : Nat} {cs : List Value} {y : DataW H × List MemPlace} (h : DataW.trod enc Try.prog w base spare held n 103 cs = some y) : ∃ (a : Option Addr) (xs : List (List Int)) (c : Nat), cs = [.slice a xs.length c] ∧ ListsAt w a xs ∧ (a = none → c = 0) ∧ xs.length ≤ c ∧ c ≤ maxLen ∧ ∀ x ∈ xs, x.length ≤ maxLen := by
  obtain ⟨a, xs, c, h1, h2, h3, h4, h5⟩ := open_each [] Try.underlying103 1 (by kernel_rfl) (by omega) (IntsC w) (fun n cs' y ht hl => by obtain ⟨a, xs, c, e, hx, hn, q1, q2⟩ := open_ints5 ht; exact ⟨xs, a, c, e, hx, hn, by omega⟩) h
  refine ⟨a, xs, c, h1, fun k hk => ?_, h2, h3, h4, fun l hl => ?_⟩
  · obtain ⟨b, off, cs', ha, hb, ⟨a2, c2, rfl, hx, hn, _⟩, hc⟩ := h5 k hk
    exact ⟨b, off, a2, c2, ha, hb, by have := hc 0 _ rfl; simpa using this, hx, hn⟩
  · obtain ⟨k, hk, rfl⟩ := List.getElem_of_mem hl
    obtain ⟨b, off, cs', ha, hb, ⟨a2, c2, rfl, hx, hn, hm⟩, hc⟩ := h5 k hk
    exact hm
def ListsC (w : World) (x : List (List Int)) (cs : List Value) : Prop := ∃ a c, cs = [.slice a x.length c] ∧ ListsAt w a x ∧ (a = none → c = 0) ∧ x.length ≤ maxLen ∧ ∀ y ∈ x, y.length ≤ maxLen
structure TruthBig (t : List (List (List Int))) : Prop where
  a : t.length ≤ maxLen
  b : ∀ l ∈ t, l.length ≤ maxLen
  c : ∀ l ∈ t, ∀ x ∈ l, x.length ≤ maxLen
set_option maxRecDepth 100000 in
theorem open_truthC {n : Nat} {cs : List Value} {y : DataW H × List MemPlace} (h : DataW.trod enc Try.prog w base spare held n 26 cs = some y) : ∃ (a : Option Addr) (t : List (List (List Int))) (c : Nat), cs = [.slice a t.length c] ∧ TruthAt w a t ∧ (a = none → c = 0) ∧ TruthBig t := by
  obtain ⟨a, xs, c, h1, h2, h3, h4, h5⟩ := open_each [] Try.underlying26 1 (by kernel_rfl) (by omega) (ListsC w) (fun n cs' y ht hl => by obtain ⟨a, xs, c, e, hx, hn, q1, q2, q3⟩ := open_lists ht; exact ⟨xs, a, c, e, hx, hn, by omega, q3⟩) h
  refine ⟨a, xs, c, h1, fun k hk => ?_, h2, ⟨by omega, fun l hl => ?_, fun l hl => ?_⟩⟩
  · obtain ⟨b, off, cs', ha, hb, ⟨a2, c2, rfl, hx, hn, _⟩, hc⟩ := h5 k hk
    exact ⟨b, off, a2, c2, ha, hb, by have := hc 0 _ rfl; simpa using this, hx, hn⟩
  · obtain ⟨k, hk, rfl⟩ := List.getElem_of_mem hl
    obtain ⟨b, off, cs', ha, hb, ⟨a2, c2, rfl, hx, hn, hm, _⟩, hc⟩ := h5 k hk
    exact hm
  · obtain ⟨k, hk, rfl⟩ := List.getElem_of_mem hl
    obtain ⟨b, off, cs', ha, hb, ⟨a2, c2, rfl, hx, hn, _, hm⟩, hc⟩ := h5 k hk
    exact hm
def EntC (e : Ent) (cs : List Value) : Prop := cs = [.int .i64 e.num, .int .i64 e.at_, .bool e.skip]
set_option maxRecDepth 100000 in
theorem open_entC {n : Nat} {cs : List Value} {y : DataW H × List MemPlace} (h : DataW.trod enc Try.prog w base spare held n 93 cs = some y) (hl : cs.length = 3) : ∃ e : Ent, EntC e cs := by
  obtain ⟨ys, m, _, _, _, hlen, hf⟩ := DataW.trod_struct Try.underlying93 h
  have t0 : DataW.trod enc Try.prog w base spare held m 3 ((cs.drop 0).take (Try.prog.cellsOf 3)) = ys[0]? := hf 0 _ rfl
  have t1 : DataW.trod enc Try.prog w base spare held m 3 ((cs.drop 1).take (Try.prog.cellsOf 3)) = ys[1]? := hf 1 _ rfl
  have t2 : DataW.trod enc Try.prog w base spare held m 4 ((cs.drop 2).take (Try.prog.cellsOf 4)) = ys[2]? := hf 2 _ rfl
  have hs : ys.length = 3 := hlen
  match cs, hl, ys, hs with
  | [c0, c1, c2], _, [y0, y1, y2], _ =>
    rw [show Try.prog.cellsOf 3 = 1 by kernel_rfl] at t0 t1
    rw [show Try.prog.cellsOf 4 = 1 by kernel_rfl] at t2
    obtain ⟨a, e0, _⟩ := DataW.trod_int Try.underlying3 t0
    obtain ⟨b, e1, _⟩ := DataW.trod_int Try.underlying3 t1
    obtain ⟨c, e2, _⟩ := DataW.trod_bool Try.underlying4 t2
    simp at e0 e1 e2
    exact ⟨⟨a, b, c⟩, by rw [EntC, e0, e1, e2]⟩
set_option maxRecDepth 100000 in
theorem open_entsC {n : Nat} {cs : List Value} {y : DataW H × List MemPlace} (h : DataW.trod enc Try.prog w base spare held n 43 cs = some y) : ∃ (a : Option Addr) (xs : List Ent) (c : Nat), cs = [.slice a xs.length c] ∧ EntsAt w a xs ∧ (a = none → c = 0) ∧ xs.length ≤ c ∧ c ≤ maxLen := by
  obtain ⟨a, xs, c, h1, h2, h3, h4, h5⟩ := open_each ⟨0, 0, false⟩ Try.underlying43 3 (by kernel_rfl) (by omega) EntC (fun n cs' y ht hl => open_entC ht hl) h
  refine ⟨a, xs, c, h1, fun k hk => ?_, h2, h3, h4⟩
  obtain ⟨b, off, cs', ha, hb, hr, hc⟩ := h5 k hk
  rw [hr] at hc
  exact ⟨b, off, ha, hb, by have := hc 0 _ rfl; simpa using this, hc 1 _ rfl, hc 2 _ rfl⟩

/-! ### at the arguments -/
set_option maxRecDepth 100000 in
theorem open_post {r : Reach} {b0 : Nat} {v : Value} {d : DataW H} {p : List MemPlace} (hv : Value.okWide Try.prog w r b0 25 v) (h : DataW.Trod enc Try.prog w base spare held 25 v d p) :
    ∃ (a : Option Addr) (c : Nat) (ar : Option Addr) (cr : Nat) (q : Post), v = .agg #[.slice a q.sends.length c, .slice ar q.routes.length cr, .int .i64 q.pat] ∧ IntsAt w a q.sends ∧ RoutesAt w ar q.routes ∧ (a = none → c = 0) ∧ PostBig q := by
  obtain ⟨v0, v1, v2, y0, y1, y2, n, rfl, _, _, t0, t1, t2⟩ := open_agg3 Try.underlying25 (by kernel_rfl) (by kernel_rfl) hv h
  obtain ⟨a, xs, c, e0, hx, hn, q0, q1⟩ := open_ints5 t0
  obtain ⟨ar, rs, cr, e1, hr, _, q2, q3, q4⟩ := open_routes t1
  obtain ⟨pat, e2, _, _⟩ := DataW.trod_int Try.underlying3 t2
  simp at e0 e1 e2
  subst e0 e1 e2
  exact ⟨a, c, ar, cr, ⟨xs, rs, pat⟩, rfl, hx, hr, hn, ⟨by show xs.length ≤ maxLen; omega, by show rs.length ≤ maxLen; omega, q4⟩⟩
set_option maxRecDepth 100000 in
theorem open_truth {r : Reach} {b0 : Nat} {v : Value} {d : DataW H} {p : List MemPlace} (hv : Value.okWide Try.prog w r b0 26 v) (h : DataW.Trod enc Try.prog w base spare held 26 v d p) :
    ∃ (a : Option Addr) (t : List (List (List Int))) (c : Nat), v = .slice a t.length c ∧ TruthAt w a t ∧ (a = none → c = 0) ∧ TruthBig t := by
  obtain ⟨a0, len0, cap0, rfl⟩ := okWide_slice Try.underlying26 hv
  obtain ⟨fuel, hf⟩ := h
  obtain ⟨a, t, c, e, hx, hn, hb⟩ := open_truthC hf
  simp [Value.cells] at e
  obtain ⟨rfl, rfl, rfl⟩ := e
  exact ⟨_, t, _, rfl, hx, hn, hb⟩
set_option maxRecDepth 100000 in
theorem open_ents {r : Reach} {b0 : Nat} {v : Value} {d : DataW H} {p : List MemPlace} (hv : Value.okWide Try.prog w r b0 43 v) (h : DataW.Trod enc Try.prog w base spare held 43 v d p) :
    ∃ (a : Option Addr) (xs : List Ent) (c : Nat), v = .slice a xs.length c ∧ EntsAt w a xs ∧ (a = none → c = 0) ∧ xs.length ≤ c ∧ c ≤ maxLen := by
  obtain ⟨a0, len0, cap0, rfl⟩ := okWide_slice Try.underlying43 hv
  obtain ⟨fuel, hf⟩ := h
  obtain ⟨a, xs, c, e, hx, hn, h1, h2⟩ := open_entsC hf
  simp [Value.cells] at e
  obtain ⟨rfl, rfl, rfl⟩ := e
  exact ⟨_, xs, _, rfl, hx, hn, h1, h2⟩
end
end Go.Proofs.Ytfclemnkcpadpaa
