/- The arguments of copies' laws, opened. · what copies' laws call, with what it yields under a name · copies' laws: ready; what they call, with what it yields under a name -/
import Derived.Test.YtfclemnkcpadpaaRi
import Derived.ProofKit
import Derived.OpenShut
import Derived.ShutString
import Derived.ChangeOld
import Derived.Deep.Slices
import Derived.Deep.Fields
import Derived.ChangeSame
import Derived.Lib.SmallJoins
import Derived.SizedLaws
import Derived.Test.YtfclemnkcpadpaaRl
import Derived.Test.YtfclemnkcpadpaaPc
namespace Go.Proofs.Ytfclemnkcpadpaa
set_option linter.unusedVariables false
set_option linter.unusedSimpArgs false
set_option linter.unnecessarySimpa false
open Go.RowKit Go.Flow
open Go.ChangeShapes Go.WideShapes Go.ChangeAt Go.Deep Go.Joins

theorem ownK : ownKnob Try.prog.godebug = none := by kernel_rfl
theorem laidOutP : laidOutB Try.prog = true := by kernel_rfl

section
variable {H : Type} {enc : TypeId × Value → H} {P : Program} {w : World} {base : Nat} {spare : Nat → Bool} {held : Bool}
theorem addr_plain {w : World} {a : Addr} {v : Value} (h : w.cell? (a.add 0) = some v) : ∃ b off, a = ⟨b, off, none⟩ ∧ b < w.heap.size := by
  obtain ⟨b, off, sp⟩ := a
  have hs := World.cell?_spot h
  simp [Addr.add] at hs
  subst hs
  rw [addr_add] at h
  exact ⟨b, off, rfl, cell_lt h⟩
/-- A slice: each element's cells mean something. -/
theorem open_each {α : Type} {t e : TypeId} {fuel : Nat} {cs : List Value} {x : DataW H × List MemPlace} (z0 : α) (ht : P.underlying t = some (.slice e)) (size : Nat) (hC : P.cellsOf e = size) (hpos : 0 < size) (R : α → List Value → Prop)
    (he : ∀ n cs' y, DataW.trod enc P w base spare held n e cs' = some y → cs'.length = size → ∃ z, R z cs') (h : DataW.trod enc P w base spare held fuel t cs = some x) :
    ∃ (a : Option Addr) (xs : List α) (c : Nat), cs = [.slice a xs.length c] ∧ (a = none → c = 0) ∧ xs.length ≤ c ∧ c ≤ maxLen ∧
      ∀ k (hk : k < xs.length), ∃ b off cs', a = some ⟨b, off, none⟩ ∧ b < w.heap.size ∧ R xs[k] cs' ∧ ∀ (j : Nat) v, cs'[j]? = some v → w.cell? ⟨b, off + k * size + j, none⟩ = some v := by
  rcases open_slice ht h with ⟨h0, _⟩ | ⟨a, len, cap, m, n, D, Pl, hcs, hb, hl, hm, hmm, hx, hi⟩
  · exact ⟨none, [], 0, h0, fun _ => rfl, Nat.le_refl _, by unfold maxLen; omega, fun k hk => absurd hk (Nat.not_lt_zero k)⟩
  · have each : ∀ i, ∃ z : α, i < len → ∃ cs', R z cs' ∧ cs'.length = size ∧ ∀ (j : Nat) v, cs'[j]? = some v → w.cell? ((a.add (i * size)).add j) = some v := by
      intro i
      by_cases hil : i < len
      · have him : i < m := by rw [hmm]; split <;> omega
        obtain ⟨cs', hc, ht'⟩ := hi i him
        rw [hC] at hc
        obtain ⟨_, hcl, hat⟩ := World.cells?_some hc
        obtain ⟨z, hz⟩ := he _ _ _ ht' hcl
        refine ⟨z, fun _ => ⟨cs', hz, hcl, fun j v hj => ?_⟩⟩
        have hjl : j < size := by rw [← hcl]; exact (List.getElem?_eq_some_iff.1 hj).1
        rw [hat j hjl]; exact hj
      · exact ⟨z0, fun h => absurd h hil⟩
    obtain ⟨f, hf⟩ := Classical.axiomOfChoice each
    refine ⟨some a, (List.range len).map f, cap, by rw [hcs]; simp, (fun h => by cases h), by simpa using hl, hm, fun k hk => ?_⟩
    have hk' : k < len := by simpa using hk
    obtain ⟨cs0, _, hl0, hc0⟩ := hf 0 (by omega)
    obtain ⟨v0, hv0⟩ : ∃ v, cs0[0]? = some v := ⟨cs0[0]'(by omega), by simp⟩
    obtain ⟨b, off, rfl, hbw⟩ := addr_plain (by have := hc0 0 v0 hv0; rw [Nat.zero_mul, Go.Deep.add_add] at this; exact this)
    obtain ⟨cs', hz, _, hc⟩ := hf k hk'
    refine ⟨b, off, cs', rfl, hbw, by simpa using hz, fun j v hj => ?_⟩
    have := hc j v hj
    rw [addr_add, addr_add] at this
    exact this
end

section
variable {H : Type} {enc : TypeId × Value → H} {w : World} {base : Nat} {spare : Nat → Bool} {held : Bool}
def RangeC (x : Int × Int) (cs : List Value) : Prop := cs = [.int .i64 x.1, .int .i64 x.2]
set_option maxRecDepth 100000 in
theorem open_rangeC {n : Nat} {cs : List Value} {y : DataW H × List MemPlace} (h : DataW.trod enc Try.prog w base spare held n 64 cs = some y) (hl : cs.length = 2) : ∃ x : Int × Int, RangeC x cs := by
  obtain ⟨y0, y1, m, _, _, t0, t1⟩ := trod_struct2 Try.underlying64 h
  obtain ⟨a, e0, _, _⟩ := DataW.trod_int Try.underlying3 t0
  obtain ⟨b, e1, _, _⟩ := DataW.trod_int Try.underlying3 t1
  match cs, hl with
  | [c0, c1], _ =>
    rw [show Try.prog.cellsOf 3 = 1 by kernel_rfl] at e0 e1
    simp at e0 e1
    exact ⟨(a, b), by rw [RangeC, e0, e1]⟩
def LegC (w : World) (l : Leg) (cs : List Value) : Prop := ∃ ar c, cs = [.int .i64 l.lo, .int .i64 l.hi, .slice ar l.asl.length c] ∧ Recs2At w ar l.asl ∧ l.asl.length ≤ maxLen
set_option maxRecDepth 100000 in
theorem open_ranges {n : Nat} {cs : List Value} {y : DataW H × List MemPlace} (h : DataW.trod enc Try.prog w base spare held n 84 cs = some y) : ∃ (a : Option Addr) (xs : List (Int × Int)) (c : Nat), cs = [.slice a xs.length c] ∧ Recs2At w a xs ∧ (a = none → c = 0) ∧ xs.length ≤ c ∧ c ≤ maxLen := by
  obtain ⟨a, xs, c, h1, h2, h3, h4, h5⟩ := open_each (0, 0) Try.underlying84 2 (by kernel_rfl) (by omega) RangeC (fun n cs' y ht hl => open_rangeC ht hl) h
  refine ⟨a, xs, c, h1, fun k hk => ?_, h2, h3, h4⟩
  obtain ⟨b, off, cs', ha, hb, hr, hc⟩ := h5 k hk
  rw [hr] at hc
  exact ⟨b, off, ha, hb, by have := hc 0 _ rfl; simpa using this, hc 1 _ rfl⟩
set_option maxRecDepth 100000 in
theorem open_legC {n : Nat} {cs : List Value} {y : DataW H × List MemPlace} (h : DataW.trod enc Try.prog w base spare held n 86 cs = some y) (hl : cs.length = 3) : ∃ x : Leg, LegC w x cs := by
  obtain ⟨y0, y1, m, _, _, t0, t1⟩ := trod_struct2 Try.underlying86 h
  match cs, hl with
  | [c0, c1, c2], _ =>
    rw [show Try.prog.cellsOf 64 = 2 by kernel_rfl] at t0
    rw [show Try.prog.cellsOf 84 = 1 by kernel_rfl] at t1
    obtain ⟨⟨a, b⟩, e0⟩ := open_rangeC t0 (by simp)
    obtain ⟨ar, xs, c, e1, hx, _, h3, h4⟩ := open_ranges t1
    simp [RangeC] at e0 e1
    obtain ⟨rfl, rfl⟩ := e0
    subst e1
    exact ⟨⟨a, b, xs⟩, ar, c, rfl, hx, by show xs.length ≤ maxLen; omega⟩
set_option maxRecDepth 100000 in
theorem open_legs {n : Nat} {cs : List Value} {y : DataW H × List MemPlace} (h : DataW.trod enc Try.prog w base spare held n 52 cs = some y) : ∃ (a : Option Addr) (xs : List Leg) (c : Nat), cs = [.slice a xs.length c] ∧ LegsAt w a xs ∧ (a = none → c = 0) ∧ xs.length ≤ c ∧ c ≤ maxLen ∧ ∀ l ∈ xs, l.asl.length ≤ maxLen := by
  obtain ⟨a, xs, c, h1, h2, h3, h4, h5⟩ := open_each ⟨0, 0, []⟩ Try.underlying52 3 (by kernel_rfl) (by omega) (LegC w) (fun n cs' y ht hl => open_legC ht hl) h
  refine ⟨a, xs, c, h1, fun k hk => ?_, h2, h3, h4, fun l hl => ?_⟩
  · obtain ⟨b, off, cs', ha, hb, ⟨ar, c', rfl, hx, _⟩, hc⟩ := h5 k hk
    exact ⟨b, off, ar, c', ha, hb, by have := hc 0 _ rfl; simpa using this, hc 1 _ rfl, hc 2 _ rfl, hx⟩
  · obtain ⟨k, hk, rfl⟩ := List.getElem_of_mem hl
    obtain ⟨b, off, cs', ha, hb, ⟨ar, c', rfl, hx, hm⟩, hc⟩ := h5 k hk
    exact hm
structure RouteBig (r : Route) : Prop where
  l : r.legs.length ≤ maxLen
  a : ∀ l ∈ r.legs, l.asl.length ≤ maxLen
def RouteC (w : World) (r : Route) (cs : List Value) : Prop := ∃ al c, cs = [.slice al r.legs.length c, .bool r.lossy] ∧ LegsAt w al r.legs ∧ RouteBig r
set_option maxRecDepth 100000 in
theorem open_routeC {n : Nat} {cs : List Value} {y : DataW H × List MemPlace} (h : DataW.trod enc Try.prog w base spare held n 54 cs = some y) (hl : cs.length = 2) : ∃ x : Route, RouteC w x cs := by
  obtain ⟨y0, y1, m, _, _, t0, t1⟩ := trod_struct2 Try.underlying54 h
  match cs, hl with
  | [c0, c1], _ =>
    rw [show Try.prog.cellsOf 52 = 1 by kernel_rfl] at t0
    rw [show Try.prog.cellsOf 4 = 1 by kernel_rfl] at t1
    obtain ⟨al, xs, c, e0, hx, _, h3, h4, h5⟩ := open_legs t0
    obtain ⟨b, e1, _⟩ := DataW.trod_bool Try.underlying4 t1
    simp at e0 e1
    subst e0 e1
    exact ⟨⟨xs, b⟩, al, c, rfl, hx, ⟨by show xs.length ≤ maxLen; omega, h5⟩⟩
set_option maxRecDepth 100000 in
theorem open_routes {n : Nat} {cs : List Value} {y : DataW H × List MemPlace} (h : DataW.trod enc Try.prog w base spare held n 23 cs = some y) : ∃ (a : Option Addr) (xs : List Route) (c : Nat), cs = [.slice a xs.length c] ∧ RoutesAt w a xs ∧ (a = none → c = 0) ∧ xs.length ≤ c ∧ c ≤ maxLen ∧ ∀ r ∈ xs, RouteBig r := by
  obtain ⟨a, xs, c, h1, h2, h3, h4, h5⟩ := open_each ⟨[], false⟩ Try.underlying23 2 (by kernel_rfl) (by omega) (RouteC w) (fun n cs' y ht hl => open_routeC ht hl) h
  refine ⟨a, xs, c, h1, fun k hk => ?_, h2, h3, h4, fun l hl => ?_⟩
  · obtain ⟨b, off, cs', ha, hb, ⟨ar, c', rfl, hx, _⟩, hc⟩ := h5 k hk
    exact ⟨b, off, ar, c', ha, hb, by have := hc 0 _ rfl; simpa using this, hc 1 _ rfl, hx⟩
  · obtain ⟨k, hk, rfl⟩ := List.getElem_of_mem hl
    obtain ⟨b, off, cs', ha, hb, ⟨ar, c', rfl, hx, hm⟩, hc⟩ := h5 k hk
    exact hm
structure PostBig (p : Post) : Prop where
  s : p.sends.length ≤ maxLen
  r : p.routes.length ≤ maxLen
  l : ∀ r ∈ p.routes, RouteBig r
def IntsC (w : World) (x : List Int) (cs : List Value) : Prop := ∃ a c, cs = [.slice a x.length c] ∧ IntsAt w a x ∧ (a = none → c = 0) ∧ x.length ≤ maxLen
def IntC (x : Int) (cs : List Value) : Prop := cs = [.int .i64 x]
set_option maxRecDepth 100000 in
theorem open_ints5 {n : Nat} {cs : List Value} {y : DataW H × List MemPlace} (h : DataW.trod enc Try.prog w base spare held n 22 cs = some y) : ∃ (a : Option Addr) (xs : List Int) (c : Nat), cs = [.slice a xs.length c] ∧ IntsAt w a xs ∧ (a = none → c = 0) ∧ xs.length ≤ c ∧ c ≤ maxLen := by
  obtain ⟨a, xs, c, h1, h2, h3, h4, h5⟩ := open_each 0 Try.underlying22 1 (by kernel_rfl) (by omega) IntC (fun n cs' y ht hl => by obtain ⟨z, e, _⟩ := DataW.trod_int Try.underlying3 ht; exact ⟨z, e⟩) h
  refine ⟨a, xs, c, h1, fun k hk => ?_, h2, h3, h4⟩
  obtain ⟨b, off, cs', ha, hb, hr, hc⟩ := h5 k hk
  rw [hr] at hc
  exact ⟨b, off, ha, hb, by have := hc 0 _ rfl; simpa [hk] using this⟩
set_option maxRecDepth 100000 in
theorem open_lists {n : Nat} {cs : List Value} {y : DataW H × List MemPlace} (h : DataW.trod enc Try.prog w base spare held n 103 cs = some y) : ∃ (a : Option Addr) (xs : List (List Int)) (c : Nat), cs = [.slice a xs.length c] ∧ ListsAt w a xs ∧ (a = none → c = 0) ∧ xs.length ≤ c ∧ c ≤ maxLen ∧ ∀ x ∈ xs, x.length ≤ maxLen := by
  obtain ⟨a, xs, c, h1, h2, h3, h4, h5⟩ := open_each [] Try.underlying103 1 (by kernel_rfl) (by omega) (IntsC w) (fun n cs' y ht hl => by obtain ⟨a, xs, c, e, hx, hn, q1, q2⟩ := open_ints5 ht; exact ⟨xs, a, c, e, hx, hn, by omega⟩) h
  refine ⟨a, xs, c, h1, fun k hk => ?_, h2, h3, h4, fun l hl => ?_⟩
  · obtain ⟨b, off, cs', ha, hb, ⟨a2, c2, rfl, hx, hn, _⟩, hc⟩ := h5 k hk
    exact ⟨b, off, a2, c2, ha, hb, by have := hc 0 _ rfl; simpa using this, hx, hn⟩
  · obtain ⟨k, hk, rfl⟩ := List.getElem_of_mem hl
    obtain ⟨b, off, cs', ha, hb, ⟨a2, c2, rfl, hx, hn, hm⟩, hc⟩ := h5 k hk
    exact hm
def ListsC (w : World) (x : List (List Int)) (cs : List Value) : Prop := ∃ a c, cs = [.slice a x.length c] ∧ ListsAt w a x ∧ (a = none → c = 0) ∧ x.length ≤ maxLen ∧ ∀ y ∈ x, y.length ≤ maxLen
structure TruthBig (t : List (List (List Int))) : Prop where
  a : t.length ≤ maxLen
  b : ∀ l ∈ t, l.length ≤ maxLen
  c : ∀ l ∈ t, ∀ x ∈ l, x.length ≤ maxLen
set_option maxRecDepth 100000 in
theorem open_truthC {n : Nat} {cs : List Value} {y : DataW H × List MemPlace} (h : DataW.trod enc Try.prog w base spare held n 26 cs = some y) : ∃ (a : Option Addr) (t : List (List (List Int))) (c : Nat), cs = [.slice a t.length c] ∧ TruthAt w a t ∧ (a = none → c = 0) ∧ TruthBig t := by
  obtain ⟨a, xs, c, h1, h2, h3, h4, h5⟩ := open_each [] Try.underlying26 1 (by kernel_rfl) (by omega) (ListsC w) (fun n cs' y ht hl => by obtain ⟨a, xs, c, e, hx, hn, q1, q2, q3⟩ := open_lists ht; exact ⟨xs, a, c, e, hx, hn, by omega, q3⟩) h
  refine ⟨a, xs, c, h1, fun k hk => ?_, h2, ⟨by omega, fun l hl => ?_, fun l hl => ?_⟩⟩
  · obtain ⟨b, off, cs', ha, hb, ⟨a2, c2, rfl, hx, hn, _⟩, hc⟩ := h5 k hk
    exact ⟨b, off, a2, c2, ha, hb, by have := hc 0 _ rfl; simpa using this, hx, hn⟩
  · obtain ⟨k, hk, rfl⟩ := List.getElem_of_mem hl
    obtain ⟨b, off, cs', ha, hb, ⟨a2, c2, rfl, hx, hn, hm, _⟩, hc⟩ := h5 k hk
    exact hm
  · obtain ⟨k, hk, rfl⟩ := List.getElem_of_mem hl
    obtain ⟨b, off, cs', ha, hb, ⟨a2, c2, rfl, hx, hn, _, hm⟩, hc⟩ := h5 k hk
    exact hm
def EntC (e : Ent) (cs : List Value) : Prop := cs = [.int .i64 e.num, .int .i64 e.at_, .bool e.skip]
set_option maxRecDepth 100000 in
theorem open_entC {n : Nat} {cs : List Value} {y : DataW H × List MemPlace} (h : DataW.trod enc Try.prog w base spare held n 93 cs = some y) (hl : cs.length = 3) : ∃ e : Ent, EntC e cs := by
  obtain ⟨ys, m, _, _, _, hlen, hf⟩ := DataW.trod_struct Try.underlying93 h
  have t0 : DataW.trod enc Try.prog w base spare held m 3 ((cs.drop 0).take (Try.prog.cellsOf 3)) = ys[0]? := hf 0 _ rfl
  have t1 : DataW.trod enc Try.prog w base spare held m 3 ((cs.drop 1).take (Try.prog.cellsOf 3)) = ys[1]? := hf 1 _ rfl
  have t2 : DataW.trod enc Try.prog w base spare held m 4 ((cs.drop 2).take (Try.prog.cellsOf 4)) = ys[2]? := hf 2 _ rfl
  have hs : ys.length = 3 := hlen
  match cs, hl, ys, hs with
  | [c0, c1, c2], _, [y0, y1, y2], _ =>
    rw [show Try.prog.cellsOf 3 = 1 by kernel_rfl] at t0 t1
    rw [show Try.prog.cellsOf 4 = 1 by kernel_rfl] at t2
    obtain ⟨a, e0, _⟩ := DataW.trod_int Try.underlying3 t0
    obtain ⟨b, e1, _⟩ := DataW.trod_int Try.underlying3 t1
    obtain ⟨c, e2, _⟩ := DataW.trod_bool Try.underlying4 t2
    simp at e0 e1 e2
    exact ⟨⟨a, b, c⟩, by rw [EntC, e0, e1, e2]⟩
set_option maxRecDepth 100000 in
theorem open_entsC {n : Nat} {cs : List Value} {y : DataW H × List MemPlace} (h : DataW.trod enc Try.prog w base spare held n 43 cs = some y) : ∃ (a : Option Addr) (xs : List Ent) (c : Nat), cs = [.slice a xs.length c] ∧ EntsAt w a xs ∧ (a = none → c = 0) ∧ xs.length ≤ c ∧ c ≤ maxLen := by
  obtain ⟨a, xs, c, h1, h2, h3, h4, h5⟩ := open_each ⟨0, 0, false⟩ Try.underlying43 3 (by kernel_rfl) (by omega) EntC (fun n cs' y ht hl => open_entC ht hl) h
  refine ⟨a, xs, c, h1, fun k hk => ?_, h2, h3, h4⟩
  obtain ⟨b, off, cs', ha, hb, hr, hc⟩ := h5 k hk
  rw [hr] at hc
  exact ⟨b, off, ha, hb, by have := hc 0 _ rfl; simpa using this, hc 1 _ rfl, hc 2 _ rfl⟩

/-! ### at the arguments -/
set_option maxRecDepth 100000 in
theorem open_post {r : Reach} {b0 : Nat} {v : Value} {d : DataW H} {p : List MemPlace} (hv : Value.okWide Try.prog w r b0 25 v) (h : DataW.Trod enc Try.prog w base spare held 25 v d p) :
    ∃ (a : Option Addr) (c : Nat) (ar : Option Addr) (cr : Nat) (q : Post), v = .agg #[.slice a q.sends.length c, .slice ar q.routes.length cr, .int .i64 q.pat] ∧ IntsAt w a q.sends ∧ RoutesAt w ar q.routes ∧ (a = none → c = 0) ∧ PostBig q := by
  obtain ⟨v0, v1, v2, y0, y1, y2, n, rfl, _, _, t0, t1, t2⟩ := open_agg3 Try.underlying25 (by kernel_rfl) (by kernel_rfl) hv h
  obtain ⟨a, xs, c, e0, hx, hn, q0, q1⟩ := open_ints5 t0
  obtain ⟨ar, rs, cr, e1, hr, _, q2, q3, q4⟩ := open_routes t1
  obtain ⟨pat, e2, _, _⟩ := DataW.trod_int Try.underlying3 t2
  simp at e0 e1 e2
  subst e0 e1 e2
  exact ⟨a, c, ar, cr, ⟨xs, rs, pat⟩, rfl, hx, hr, hn, ⟨by show xs.length ≤ maxLen; omega, by show rs.length ≤ maxLen; omega, q4⟩⟩
set_option maxRecDepth 100000 in
theorem open_truth {r : Reach} {b0 : Nat} {v : Value} {d : DataW H} {p : List MemPlace} (hv : Value.okWide Try.prog w r b0 26 v) (h : DataW.Trod enc Try.prog w base spare held 26 v d p) :
    ∃ (a : Option Addr) (t : List (List (List Int))) (c : Nat), v = .slice a t.length c ∧ TruthAt w a t ∧ (a = none → c = 0) ∧ TruthBig t := by
  obtain ⟨a0, len0, cap0, rfl⟩ := okWide_slice Try.underlying26 hv
  obtain ⟨fuel, hf⟩ := h
  obtain ⟨a, t, c, e, hx, hn, hb⟩ := open_truthC hf
  simp [Value.cells] at e
  obtain ⟨rfl, rfl, rfl⟩ := e
  exact ⟨_, t, _, rfl, hx, hn, hb⟩
set_option maxRecDepth 100000 in
theorem open_ents {r : Reach} {b0 : Nat} {v : Value} {d : DataW H} {p : List MemPlace} (hv : Value.okWide Try.prog w r b0 43 v) (h : DataW.Trod enc Try.prog w base spare held 43 v d p) :
    ∃ (a : Option Addr) (xs : List Ent) (c : Nat), v = .slice a xs.length c ∧ EntsAt w a xs ∧ (a = none → c = 0) ∧ xs.length ≤ c ∧ c ≤ maxLen := by
  obtain ⟨a0, len0, cap0, rfl⟩ := okWide_slice Try.underlying43 hv
  obtain ⟨fuel, hf⟩ := h
  obtain ⟨a, xs, c, e, hx, hn, h1, h2⟩ := open_entsC hf
  simp [Value.cells] at e
  obtain ⟨rfl, rfl, rfl⟩ := e
  exact ⟨_, xs, _, rfl, hx, hn, h1, h2⟩
end
end Go.Proofs.Ytfclemnkcpadpaa

namespace Go.Proofs.Ytfclemnkcpadpaa
set_option linter.unusedVariables false
set_option linter.unusedSimpArgs false
set_option linter.unnecessarySimpa false
open Go.RowKit Go.Flow

theorem thin_small {p : Post} (h : thinB p = true) : PostSmall p := by
  simp only [thinB, Bool.and_eq_true, decide_eq_true_eq, List.all_eq_true, routeThin] at h
  obtain ⟨⟨h1, h2⟩, h3⟩ := h
  exact ⟨by omega, by omega, fun r hr => by have := (h3 r hr).1; omega, fun r hr l hl => by have := (h3 r hr).2 l hl; omega⟩
theorem short_small {t : List (List (List Int))} (h : shortB t = true) : TruthSmall t := by
  simp only [shortB, Bool.and_eq_true, decide_eq_true_eq, List.all_eq_true, rowsShort] at h
  obtain ⟨h1, h3⟩ := h
  exact ⟨by omega, fun l hl => by have := (h3 l hl).1; omega, fun l hl x hx => by have := (h3 l hl).2 x hx; omega⟩
section
variable (a : Option Addr) (c : Nat) (ar : Option Addr) (cr : Nat) (p : Post) (w : World)
theorem thin_eq (B : Bool) (h : Hid (thinB p = B)) (hr : RoutesAt w ar p.routes) (big : PostBig p) :
    Calls Try.prog 17 #[.agg #[.slice a p.sends.length c, .slice ar p.routes.length cr, .int .i64 p.pat]] w fun e w' => e = .returned (.bool B) ∧ Below w.heap.size w w' := by
  rw [← h.out]
  have e : maxLen ≤ 9223372036854775807 := by unfold maxLen; omega
  exact thin_any a c ar cr p w hr (by have := big.s; omega) (by have := big.r; omega) (fun r hr => ⟨by have := (big.l r hr).l; omega, fun l hl => by have := (big.l r hr).a l hl; omega⟩)
theorem short_eq (at_ : Option Addr) (t : List (List (List Int))) (ct : Nat) (B : Bool) (h : Hid (shortB t = B)) (ht : TruthAt w at_ t) (big : TruthBig t) :
    Calls Try.prog 18 #[.slice at_ t.length ct] w fun e w' => e = .returned (.bool B) ∧ Below w.heap.size w w' := by
  rw [← h.out]
  have e : maxLen ≤ 9223372036854775807 := by unfold maxLen; omega
  exact short_any at_ t ct w ht ⟨by have := big.a; omega, fun l hl => by have := big.b l hl; omega, fun l hl x hx => by have := big.c l hl x hx; omega⟩
theorem chk_eq (E : Int) (h : Hid (postErr p = E)) (hs : IntsAt w a p.sends) (hr : RoutesAt w ar p.routes) (sm : Hid (PostSmall p)) :
    Calls Try.prog 20 #[.agg #[.slice a p.sends.length c, .slice ar p.routes.length cr, .int .i64 p.pat]] w fun e w' => e = .returned (.int .i64 E) ∧ Below w.heap.size w w' := by
  rw [← h.out]; exact checkPost_any a c ar cr p w hs hr sm.out
theorem fault_eq (E : Int) (h : Hid (postErr p = E)) (hs : IntsAt w a p.sends) (hr : RoutesAt w ar p.routes) (sm : Hid (PostSmall p)) :
    Calls Try.prog 24 #[.agg #[.slice a p.sends.length c, .slice ar p.routes.length cr, .int .i64 p.pat]] w fun e w' => e = .returned (.int .i64 E) ∧ Below w.heap.size w w' := by
  rw [← h.out]; exact fault_any a c ar cr p w hs hr sm.out
theorem post_eq (hs : IntsAt w a p.sends) (hr : RoutesAt w ar p.routes) (sm : Hid (PostSmall p)) (na : a = none → c = 0) :
    Calls Try.prog 21 #[.agg #[.slice a p.sends.length c, .slice ar p.routes.length cr, .int .i64 p.pat]] w fun e w' => (∃ a c ar cr, e = .returned (.agg #[.slice a p.sends.length c, .slice ar p.routes.length cr, .int .i64 p.pat]) ∧ IntsAt w' a p.sends ∧ RoutesAt w' ar p.routes) ∧ Below w.heap.size w w' := postConv_any a c ar cr p w hs hr sm.out na
theorem truth_eq (at_ : Option Addr) (t : List (List (List Int))) (ct : Nat) (ht : TruthAt w at_ t) (st : Hid (TruthSmall t)) :
    Calls Try.prog 23 #[.slice at_ t.length ct] w fun e w' => (∃ a c, e = .returned (.slice a t.length c) ∧ TruthAt w' a t) ∧ Below w.heap.size w w' :=
  (truthConv_any at_ t ct w ht st.out.n st.out.l st.out.r).mono fun _ _ ⟨⟨a, c, he, ho⟩, hb⟩ => ⟨⟨a, c, he, ho.at⟩, hb⟩
theorem play_eq (at_ : Option Addr) (t : List (List (List Int))) (ct : Nat) (E : Int) (O : List Ent) (n : Nat) (hE : Hid (playErr p t = E)) (hO : Hid (playOut p t = O)) (hn : Hid (O.length = n)) (hs : IntsAt w a p.sends) (hr : RoutesAt w ar p.routes) (sm : Hid (PostSmall p)) (ht : TruthAt w at_ t) (st : Hid (TruthSmall t)) :
    Calls Try.prog 22 #[.agg #[.slice a p.sends.length c, .slice ar p.routes.length cr, .int .i64 p.pat], .slice at_ t.length ct] w fun e w' => (∃ a c, e = .returned (.tuple #[.slice a n c, .int .i64 E]) ∧ EntsAt w' a O) ∧ Below w.heap.size w w' := by
  rw [← hE.out, ← hn.out, ← hO.out]; exact Play_any a c ar cr p at_ ct t w hs hr sm.out ht st.out
theorem tfault_eq (at_ : Option Addr) (t : List (List (List Int))) (ct : Nat) (E : Int) (h : Hid (shapeErr p t = E)) (hr : RoutesAt w ar p.routes) (sm : Hid (PostSmall p)) (ht : TruthAt w at_ t) (st : Hid (TruthSmall t)) :
    Calls Try.prog 25 #[.agg #[.slice a p.sends.length c, .slice ar p.routes.length cr, .int .i64 p.pat], .slice at_ t.length ct] w fun e w' => e = .returned (.int .i64 E) ∧ Below w.heap.size w w' := by
  rw [← h.out]; exact truthFault_any a c ar cr p at_ ct t w hr ht sm.out.s sm.out.r sm.out.l st.out.n st.out.l st.out.r
theorem rplay_eq (at_ : Option Addr) (t : List (List (List Int))) (ct : Nat) (O : List Ent) (n : Nat) (hO : Hid (playF p t = O)) (hn : Hid (O.length = n)) (hs : IntsAt w a p.sends) (hr : RoutesAt w ar p.routes) (ht : TruthAt w at_ t) (ok : Hid (PlayOk p t)) :
    Calls Try.prog 27 #[.agg #[.slice a p.sends.length c, .slice ar p.routes.length cr, .int .i64 p.pat], .slice at_ t.length ct] w fun e w' => (∃ a c, e = .returned (.slice a n c) ∧ EntsAt w' a O) ∧ Below w.heap.size w w' := by
  have hl : t.length = n := by rw [← hn.out, ← hO.out]; exact (playGo_len p t 0 0).symm
  rw [← hl, ← hO.out]; exact refPlay_any a c ar cr p at_ ct t w hs hr ht ok.out
end
/-- The box of the post. -/
theorem box_cells {w w1 : World} {cs : Array Value} {T : TypeId} (hb : Below (w.alloc (.cells cs T)).heap.size (w.alloc (.cells cs T)) w1) (k : Nat) {v : Value} (hk : cs[k]? = some v) : w1.cell? ⟨w.heap.size, k, none⟩ = some v := by
  rw [((Cells.new w cs T).below hb).cell]; exact hk
end Go.Proofs.Ytfclemnkcpadpaa

namespace Go.Proofs.Ytfclemnkcpadpaa
set_option linter.unusedVariables false
set_option linter.unusedSimpArgs false
set_option linter.unnecessarySimpa false
open Go.RowKit Go.Flow

def readyB (p : Post) : Bool := thinB p && decide (postErr p = 0)
theorem ready_small {p : Post} (h : readyB p = true) : PostSmall p ∧ postErr p = 0 := by
  simp only [readyB, Bool.and_eq_true, decide_eq_true_eq] at h
  exact ⟨thin_small h.1, h.2⟩
section
variable (a : Option Addr) (c : Nat) (ar : Option Addr) (cr : Nat) (p : Post) (w : World)
set_option maxRecDepth 100000 in
set_option maxHeartbeats 1000000 in
theorem ready_eq (B : Bool) (h : Hid (readyB p = B)) (hs : IntsAt w a p.sends) (hr : RoutesAt w ar p.routes) (big : PostBig p) :
    Calls Try.prog 44 #[.agg #[.slice a p.sends.length c, .slice ar p.routes.length cr, .int .i64 p.pat]] w fun e w' => e = .returned (.bool B) ∧ Below w.heap.size w w' := by
  rw [← h.out]
  clear h
  have HB := Lib.hid big
  clear big
  by_cases hT : thinB p = true
  · have SM := Lib.hid (thin_small hT)
    have hq : readyB p = decide (postErr p = 0) := by unfold readyB; rw [hT, Bool.true_and]
    rw [hq]
    have HT := Lib.hid hT
    obtain ⟨E, hE⟩ : ∃ E, postErr p = E := ⟨_, rfl⟩
    have HE := Lib.hid hE
    have hbd : 0 ≤ E ∧ E ≤ 3 := by rw [← hE]; exact postErr_bd p
    rw [hE]
    clear hq hT hE
    go_enter Try.func44, Try.ntmps44
    go_wp2_with fail
    go_at_call 17
    refine (thin_eq a c ar cr p _ true HT (hr.below (by (repeat (first | exact Below.refl _ _ | refine Below.alloc ?_ (by first | omega | (simp; done) | (simp; omega)) _ | refine Below.drew ?_ | refine Below.setCell ?_ (by first | omega | (simp; done) | (simp; omega)) _ | refine Below.trans ?_ (Below.mono (by assumption) (by first | omega | (simp; done) | (simp; omega))))))) HB.out).mono ?_
    rintro e w1 ⟨rfl, b1⟩
    have t1 : Below w.heap.size w w1 := by (repeat (first | exact Below.refl _ _ | refine Below.alloc ?_ (by first | omega | (simp; done) | (simp; omega)) _ | refine Below.drew ?_ | refine Below.setCell ?_ (by first | omega | (simp; done) | (simp; omega)) _ | refine Below.trans ?_ (Below.mono (by assumption) (by first | omega | (simp; done) | (simp; omega)))))
    replace hs := hs.below t1
    replace hr := hr.below t1
    have q0 := box_cells b1 0 rfl
    have q1 := box_cells b1 1 rfl
    have q2 := box_cells b1 2 rfl
    have lB := cell_ltK q0
    go_wp2_with fail
    go_at_call 24
    refine (fault_eq a c ar cr p _ E HE (hs.below (by (repeat (first | exact Below.refl _ _ | refine Below.alloc ?_ (by first | omega | (simp; done) | (simp; omega)) _ | refine Below.drew ?_ | refine Below.setCell ?_ (by first | omega | (simp; done) | (simp; omega)) _ | refine Below.trans ?_ (Below.mono (by assumption) (by first | omega | (simp; done) | (simp; omega))))))) (hr.below (by (repeat (first | exact Below.refl _ _ | refine Below.alloc ?_ (by first | omega | (simp; done) | (simp; omega)) _ | refine Below.drew ?_ | refine Below.setCell ?_ (by first | omega | (simp; done) | (simp; omega)) _ | refine Below.trans ?_ (Below.mono (by assumption) (by first | omega | (simp; done) | (simp; omega))))))) SM).mono ?_
    rintro e w2 ⟨rfl, b2⟩
    have j2 : Below w1.heap.size w1 w2 := by (repeat (first | exact Below.refl _ _ | refine Below.alloc ?_ (by first | omega | (simp; done) | (simp; omega)) _ | refine Below.drew ?_ | refine Below.setCell ?_ (by first | omega | (simp; done) | (simp; omega)) _ | refine Below.trans ?_ (Below.mono (by assumption) (by first | omega | (simp; done) | (simp; omega)))))
    have t2 : Below w.heap.size w w2 := t1.trans (j2.mono t1.size)
    go_wp2_with fail
    go_ret
    exact ⟨rfl, t2⟩
  · have HT : Hid (thinB p = false) := Lib.hid (by simpa using hT)
    have hq : readyB p = false := by unfold readyB; rw [HT.out, Bool.false_and]
    rw [hq]
    clear hq hT
    go_enter Try.func44, Try.ntmps44
    go_wp2_with fail
    go_at_call 17
    refine (thin_eq a c ar cr p _ false HT (hr.below (by (repeat (first | exact Below.refl _ _ | refine Below.alloc ?_ (by first | omega | (simp; done) | (simp; omega)) _ | refine Below.drew ?_ | refine Below.setCell ?_ (by first | omega | (simp; done) | (simp; omega)) _ | refine Below.trans ?_ (Below.mono (by assumption) (by first | omega | (simp; done) | (simp; omega))))))) HB.out).mono ?_
    rintro e w1 ⟨rfl, b1⟩
    have t1 : Below w.heap.size w w1 := by (repeat (first | exact Below.refl _ _ | refine Below.alloc ?_ (by first | omega | (simp; done) | (simp; omega)) _ | refine Below.drew ?_ | refine Below.setCell ?_ (by first | omega | (simp; done) | (simp; omega)) _ | refine Below.trans ?_ (Below.mono (by assumption) (by first | omega | (simp; done) | (simp; omega)))))
    go_wp2_with fail
    go_ret
    exact ⟨rfl, t1⟩
theorem sure_eq (E : Int) (O : List Int) (n : Nat) (hE : Hid (postErr p = E)) (hO : Hid (sureOut p = O)) (hn : Hid (O.length = n)) (hs : IntsAt w a p.sends) (hr : RoutesAt w ar p.routes) (sm : Hid (PostSmall p)) :
    Calls Try.prog 33 #[.agg #[.slice a p.sends.length c, .slice ar p.routes.length cr, .int .i64 p.pat]] w fun e w' => (∃ a c, e = .returned (.tuple #[.slice a n c, .int .i64 E]) ∧ IntsAt w' a O) ∧ Below w.heap.size w w' := by
  rw [← hE.out, ← hn.out, ← hO.out]; exact Surely_any a c ar cr p w hs hr sm.out
theorem spans_eq (E : Int) (O : List (Int × Int)) (n : Nat) (hE : Hid (postErr p = E)) (hO : Hid (spansOut p = O)) (hn : Hid (O.length = n)) (hs : IntsAt w a p.sends) (hr : RoutesAt w ar p.routes) (sm : Hid (PostSmall p)) :
    Calls Try.prog 32 #[.agg #[.slice a p.sends.length c, .slice ar p.routes.length cr, .int .i64 p.pat]] w fun e w' => (∃ a c, e = .returned (.tuple #[.slice a n c, .int .i64 E]) ∧ Recs2At w' a O) ∧ Below w.heap.size w w' := by
  rw [← hE.out, ← hn.out, ← hO.out]; exact Spans_any a c ar cr p w hs hr sm.out
theorem hours_eq (i r : Int) (E : Int) (O : List Int) (n : Nat) (hE : Hid (hoursErr p i r = E)) (hO : Hid (hoursOut p i r = O)) (hn : Hid (O.length = n)) (hs : IntsAt w a p.sends) (hr : RoutesAt w ar p.routes) (sm : Hid (PostSmall p)) :
    Calls Try.prog 28 #[.agg #[.slice a p.sends.length c, .slice ar p.routes.length cr, .int .i64 p.pat], .int .i64 i, .int .i64 r] w fun e w' => (∃ a c, e = .returned (.tuple #[.slice a n c, .int .i64 E]) ∧ IntsAt w' a O) ∧ Below w.heap.size w w' := by
  rw [← hE.out, ← hn.out, ← hO.out]; exact Hours_any a c ar cr p i r w hs hr sm.out
theorem least_eq (E O : Int) (hE : Hid (leastErr p = E)) (hO : Hid (leastOut p = O)) (hs : IntsAt w a p.sends) (hr : RoutesAt w ar p.routes) (sm : Hid (PostSmall p)) :
    Calls Try.prog 34 #[.agg #[.slice a p.sends.length c, .slice ar p.routes.length cr, .int .i64 p.pat]] w fun e w' => e = .returned (.tuple #[.int .i64 O, .int .i64 E]) ∧ Below w.heap.size w w' := by
  rw [← hE.out, ← hO.out]; exact Least_any a c ar cr p w hs hr sm.out
theorem pat_small {p : Post} (sm : PostSmall p) (x : Int) : PostSmall (withPat p x) := ⟨sm.1, sm.2, sm.3, sm.4⟩
theorem postX_eq (x : Int) (hs : IntsAt w a p.sends) (hr : RoutesAt w ar p.routes) (sm : Hid (PostSmall p)) (na : a = none → c = 0) :
    Calls Try.prog 21 #[.agg #[.slice a p.sends.length c, .slice ar p.routes.length cr, .int .i64 x]] w fun e w' => (∃ a c ar cr, e = .returned (.agg #[.slice a p.sends.length c, .slice ar p.routes.length cr, .int .i64 x]) ∧ IntsAt w' a p.sends ∧ RoutesAt w' ar p.routes) ∧ Below w.heap.size w w' :=
  post_eq a c ar cr (withPat p x) w hs hr (Lib.hid (pat_small sm.out x)) na
theorem sureX_eq (x : Int) (E : Int) (O : List Int) (n : Nat) (hE : Hid (postErr (withPat p x) = E)) (hO : Hid (sureOut (withPat p x) = O)) (hn : Hid (O.length = n)) (hs : IntsAt w a p.sends) (hr : RoutesAt w ar p.routes) (sm : Hid (PostSmall p)) :
    Calls Try.prog 33 #[.agg #[.slice a p.sends.length c, .slice ar p.routes.length cr, .int .i64 x]] w fun e w' => (∃ a c, e = .returned (.tuple #[.slice a n c, .int .i64 E]) ∧ IntsAt w' a O) ∧ Below w.heap.size w w' :=
  sure_eq a c ar cr (withPat p x) w E O n hE hO hn hs hr (Lib.hid (pat_small sm.out x))
theorem spansX_eq (x : Int) (E : Int) (O : List (Int × Int)) (n : Nat) (hE : Hid (postErr (withPat p x) = E)) (hO : Hid (spansOut (withPat p x) = O)) (hn : Hid (O.length = n)) (hs : IntsAt w a p.sends) (hr : RoutesAt w ar p.routes) (sm : Hid (PostSmall p)) :
    Calls Try.prog 32 #[.agg #[.slice a p.sends.length c, .slice ar p.routes.length cr, .int .i64 x]] w fun e w' => (∃ a c, e = .returned (.tuple #[.slice a n c, .int .i64 E]) ∧ Recs2At w' a O) ∧ Below w.heap.size w w' :=
  spans_eq a c ar cr (withPat p x) w E O n hE hO hn hs hr (Lib.hid (pat_small sm.out x))
end
end Go.Proofs.Ytfclemnkcpadpaa
