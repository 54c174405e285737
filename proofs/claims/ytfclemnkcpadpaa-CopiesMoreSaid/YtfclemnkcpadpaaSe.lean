/- append onto a literal without elements; rows known cell by cell; lists of legs and of routes as flat cells -/
import Derived.Test.YtfclemnkcpadpaaCep
import Derived.Test.YtfclemnkcpadpaaRj
namespace Go.Proofs.Ytfclemnkcpadpaa
set_option linter.unusedVariables false
set_option linter.unusedSimpArgs false
set_option linter.unnecessarySimpa false
open Go.RowKit Go.Flow

section
variable {P : Program} {t E : TypeId} {z : Value} {size bytes : Nat}
theorem run_app0 (el : Elem P t E z size bytes) (ty : TypeId) (w : World) (base g : Nat) (hg : Cells w g #[] E) (hbg : base ≤ g) (ao : Option Addr) (m c : Nat) (news : List Value) (hnone : ao = none → m = 0 ∧ c = 0)
    (hl : news.length = m * size) (hsrc : SrcAt w ao news) (h63 : m ≤ maxLen) (hbytes : m * bytes ≤ 140737488355328) :
    ∃ v w', (Builtin.append_ #[t, t] ty #[.slice (some ⟨g, 0, none⟩) 0 0, .slice ao m c]).run P w = .ok v w' ∧ OwnV E size base m news v w' ∧ Below w.heap.size w w' := by
  obtain ⟨i, hi, hz0, hz1, hz2⟩ := el.info
  have hsmall : m ≤ 9223372036854775807 := by simp only [maxLen] at h63; omega
  by_cases hm : m = 0
  · subst hm
    have hn : news = [] := List.eq_nil_of_length_eq_zero (by simpa using hl)
    subst hn
    refine ⟨.slice (some ⟨g, 0, none⟩) 0 0, w, ?_, ⟨some ⟨g, 0, none⟩, 0, rfl, ⟨by simp, .inr ⟨g, 0, _, rfl, hbg, hg, Nat.le_refl _, Nat.zero_le _, by simp, by simp⟩⟩⟩, Below.refl _ _⟩
    have hs : ∀ b : Addr, Sem.run P (storeCells b []) w = .ok () w := fun b => rfl
    cases ao <;> simp [hs, Builtin.append_, run_underlying el.slice, sizeOf, typeInfo, hi, Builtin.lenOf, Builtin.firstCells, loadCells, loadCellsFrom]
  · obtain ⟨a, rfl⟩ : ∃ a, ao = some a := by
      cases ao with
      | none => exact absurd (hnone rfl).1 hm
      | some a => exact ⟨a, rfl⟩
    have hnews : ∀ j u, news[j]? = some u → w.cell? (a.add j) = some u := fun j u hu => by
      obtain ⟨b, off, ha, hc⟩ := hsrc j u hu
      obtain rfl := Option.some.inj ha
      rw [addr_add]; exact hc
    have hfit : Builtin.nextslicecap (0 + m) 0 * i.bytes ≤ 281474976710656 := growslice_fits (by omega) (by rw [hz2]; simpa using hbytes)
    have hr := run_append_grow (P := P) (w := w) t ty E i z el.slice hi hz0 ⟨g, 0, none⟩ 0 0 [] (by simp) (by simp) a m c news (by rw [hz1]; exact hl) hnews (by omega) (by omega) hfit
    refine ⟨_, _, hr, ⟨some ⟨w.heap.size, 0, none⟩, grownCap w (0 + m) 0 E, by rw [Nat.zero_add], hl, .inr ⟨w.heap.size, _, _, rfl, by have := hg.lt; omega, heap_alloc_new w.drew _, by have := grownCap_ge w (0 + m) 0 E; omega, grownCap_le_maxLen w (0 + m) 0 E (by omega), ?_, ?_⟩⟩, ((Below.refl _ w).drew).alloc (Nat.le_refl _) _⟩
    · simp only [Array.size_append, List.size_toArray, size_zeroCells, el.cells, hl, List.length_nil, Nat.zero_add, ← Nat.add_mul]
      congr 1
      have := grownCap_ge w m 0 E
      omega
    · simp only [Array.toList_append, List.nil_append]
      rw [← hl]
      exact List.take_left
theorem gives_app0 {o : Oper} {a : Act} (el : Elem P t E z size bytes) (w : World) (base g : Nat) (s x : Operand) (ho : o.op = .call { callee := .builtin .append, args := #[s, x], argTypes := #[t, t] })
    (hs : a.eval s = .slice (some ⟨g, 0, none⟩) 0 0) (hg : Cells w g #[] E) (hbg : base ≤ g) (ao : Option Addr) (m c : Nat) (news : List Value) (hx : a.eval x = .slice ao m c) (hnone : ao = none → m = 0 ∧ c = 0)
    (hl : news.length = m * size) (hsrc : SrcAt w ao news) (h63 : m ≤ maxLen) (hbytes : m * bytes ≤ 140737488355328) :
    o.gives P a w fun v w' => Below w.heap.size w w' ∧ OwnV E size base m news v w' := by
  obtain ⟨v, w', h1, h2, h3⟩ := run_app0 el o.type w base g hg hbg ao m c news hnone hl hsrc h63 hbytes
  unfold Oper.gives
  simp only [execOp, ho, resolve, invoke, builtin, Sem.run_bind, Sem.run_pure, Result.andThen_ok, List.map_toArray, List.map_cons, List.map_nil, hs, hx, h1, Oper.givesUpon]
  exact ⟨h3, h2⟩
end

/-- A block whose first cells are known. -/
def RowAt (w : World) (g : Nat) (E : TypeId) (xs : List Value) : Prop := ∃ cur : Array Value, Cells w g cur E ∧ ∀ (j : Nat) u, xs[j]? = some u → cur[j]? = some u
section
variable {w w' : World} {g : Nat} {E : TypeId} {xs : List Value}
theorem RowAt.lt (h : RowAt w g E xs) : g < w.heap.size := let ⟨_, h1, _⟩ := h; h1.lt
theorem RowAt.cell (h : RowAt w g E xs) {j : Nat} {u : Value} (hu : xs[j]? = some u) : w.cell? ⟨g, j, none⟩ = some u := let ⟨_, h1, h2⟩ := h; (h1.cell j).trans (h2 j u hu)
theorem RowAt.frozen (h : RowAt w g E xs) (j : Nat) : w.frozen? ⟨g, j, none⟩ = false := let ⟨_, h1, _⟩ := h; h1.frozen j
theorem RowAt.below (h : RowAt w g E xs) (hb : Below w.heap.size w w') : RowAt w' g E xs := let ⟨cur, h1, h2⟩ := h; ⟨cur, h1.below hb, h2⟩
theorem RowAt.base (h : RowAt w g E xs) {B : Nat} (hg : g < B) (hb : Below B w w') : RowAt w' g E xs := let ⟨cur, h1, h2⟩ := h; ⟨cur, (hb.block g hg).trans h1, h2⟩
theorem RowAt.other (h : RowAt w g E xs) {g' : Nat} (hne : g ≠ g') (k : Nat) (v : Value) : RowAt (w.setCell ⟨g', k, none⟩ v) g E xs := let ⟨cur, h1, h2⟩ := h; ⟨cur, h1.other hne k v, h2⟩
theorem RowAt.set (h : RowAt w g E xs) (k : Nat) (v : Value) : RowAt (w.setCell ⟨g, k, none⟩ v) g E (xs.set k v) := by
  obtain ⟨cur, h1, h2⟩ := h
  refine ⟨_, h1.set k v, fun j u hu => ?_⟩
  rw [List.getElem?_set] at hu
  rw [Array.getElem?_setIfInBounds]
  by_cases e : k = j
  · subst e
    rw [if_pos rfl] at hu ⊢
    split at hu
    · rename_i hlt
      have := h2 k _ (List.getElem?_eq_getElem hlt)
      rw [if_pos (Array.getElem?_eq_some_iff.1 this).1]
      exact hu
    · cases hu
  · rw [if_neg e] at hu ⊢
    exact h2 j u hu
theorem OwnL.row {size base c n : Nat} (h : OwnL E size base w (some ⟨g, 0, none⟩) c n xs) : base ≤ g ∧ RowAt w g E xs := by
  rcases h.form with ⟨h1, _⟩ | ⟨g', h1, h2, _, _, _, _, hc⟩
  · cases h1
  · cases h1
    refine ⟨h2, ?_⟩
    rcases h.2 with ⟨hn, _⟩ | ⟨g'', cap, cur, hv, hbg, hg, _⟩
    · simp at hn
    · simp only [Value.slice.injEq, Option.some.injEq, Addr.mk.injEq, and_true] at hv
      obtain ⟨rfl, _⟩ := hv
      exact ⟨cur, hg, fun j u hu => by rw [← Cells.cell hg j]; exact hc j u hu⟩
end
/-- The elements' parts, chosen. -/
theorem chosen {α : Type} {n : Nat} {Q : Nat → α → Prop} (z : α) (h : ∀ k, k < n → ∃ x, Q k x) : ∃ ps : List α, ps.length = n ∧ ∀ (k : Nat) x, ps[k]? = some x → Q k x := by
  have h' : ∀ k : Nat, ∃ x, k < n → Q k x := fun k => by
    by_cases hk : k < n
    · obtain ⟨x, hx⟩ := h k hk; exact ⟨x, fun _ => hx⟩
    · exact ⟨z, fun h => absurd h hk⟩
  obtain ⟨f, hf⟩ := Classical.axiomOfChoice h'
  refine ⟨(List.range n).map f, by simp, fun k x hx => ?_⟩
  rw [List.getElem?_map, Option.map_eq_some_iff] at hx
  obtain ⟨y, hy, rfl⟩ := hx
  have hk : k < n := by have := (List.getElem?_eq_some_iff.1 hy).1; simpa using this
  rw [List.getElem?_range hk] at hy
  cases hy
  exact hf k hk
theorem flat_get {α : Type} {size : Nat} {val : α → Option Addr × Nat → List Value} (hv : ∀ x p, (val x p).length = size) {l : List α} {ps : List (Option Addr × Nat)} (hl : ps.length = l.length) {k j : Nat} (hk : k < l.length) (hj : j < size) :
    ((l.zip ps).flatMap fun x => val x.1 x.2)[k * size + j]? = (val l[k] (ps[k]'(by omega)))[j]? := by
  refine flatMap_get size (fun x => val x.1 x.2) (fun x => hv _ _) (l.zip ps) k j (l[k], ps[k]'(by omega)) ?_ hj
  rw [List.getElem?_zip_eq_some]
  exact ⟨by simp, by simp⟩
theorem legV_len (l : Leg) (pp : Option Addr × Nat) : (legV l pp).length = 3 := rfl
theorem routeV_len (r : Route) (pp : Option Addr × Nat) : (routeV r pp).length = 2 := rfl
theorem legV_one {ls : List (Leg × (Option Addr × Nat))} : ∀ u ∈ ls.flatMap (fun x => legV x.1 x.2), u.oneCell' = true := fun u hu => by
  obtain ⟨x, _, hx⟩ := List.mem_flatMap.1 hu
  simp [legV] at hx
  rcases hx with rfl | rfl | rfl <;> rfl
theorem routeV_one {ls : List (Route × (Option Addr × Nat))} : ∀ u ∈ ls.flatMap (fun x => routeV x.1 x.2), u.oneCell' = true := fun u hu => by
  obtain ⟨x, _, hx⟩ := List.mem_flatMap.1 hu
  simp [routeV] at hx
  rcases hx with rfl | rfl <;> rfl
theorem legs_src {w : World} {a : Option Addr} {ls : List Leg} (h : LegsAt w a ls) : ∃ ps : List (Option Addr × Nat), ps.length = ls.length ∧ SrcAt w a ((ls.zip ps).flatMap fun x => legV x.1 x.2) ∧ ∀ (q : Nat) l pp, ls[q]? = some l → ps[q]? = some pp → Recs2At w pp.1 l.asl := by
  obtain ⟨ps, h1, h2⟩ := chosen (Q := fun k pp => ∀ (hk : k < ls.length), ∃ b off, a = some ⟨b, off, none⟩ ∧ w.cell? ⟨b, off + k * 3, none⟩ = some (.int .i64 ls[k].lo) ∧ w.cell? ⟨b, off + k * 3 + 1, none⟩ = some (.int .i64 ls[k].hi) ∧ w.cell? ⟨b, off + k * 3 + 2, none⟩ = some (.slice pp.1 ls[k].asl.length pp.2) ∧ Recs2At w pp.1 ls[k].asl) (none, 0)
    (fun k hk => by obtain ⟨b, off, ar, c, e, _, c0, c1, c2, c3⟩ := h k hk; exact ⟨(ar, c), fun _ => ⟨b, off, e, c0, c1, c2, c3⟩⟩)
  refine ⟨ps, h1, fun j u hu => ?_, fun q l pp hq hp => ?_⟩
  · have hlen := ownL_len (E := 3) (val := legV) (l := ls) (ps := ps) legV_len (by omega)
    have hj : j < ls.length * 3 := by have := (List.getElem?_eq_some_iff.1 hu).1; rw [hlen, h1] at this; exact this
    have hk : j / 3 < ls.length := by omega
    have hg := flat_get (val := legV) legV_len h1 hk (Nat.mod_lt j (by omega : 0 < 3))
    rw [show j / 3 * 3 + j % 3 = j by omega, hu] at hg
    obtain ⟨b, off, e, c0, c1, c2, _⟩ := h2 (j / 3) _ (List.getElem?_eq_getElem (by omega)) hk
    refine ⟨b, off, e, ?_⟩
    have hm : j % 3 = 0 ∨ j % 3 = 1 ∨ j % 3 = 2 := by omega
    rcases hm with hm | hm | hm
    · rw [hm] at hg; rw [show j = j / 3 * 3 by omega, c0]; simpa [legV] using hg.symm
    · rw [hm] at hg; rw [show off + j = off + j / 3 * 3 + 1 by omega, c1]; simpa [legV] using hg.symm
    · rw [hm] at hg; rw [show off + j = off + j / 3 * 3 + 2 by omega, c2]; simpa [legV] using hg.symm
  · obtain ⟨hlt, rfl⟩ := List.getElem?_eq_some_iff.1 hq
    obtain ⟨b, off, e, _, _, _, c3⟩ := h2 q pp hp hlt
    exact c3
theorem routes_src {w : World} {a : Option Addr} {rs : List Route} (h : RoutesAt w a rs) : ∃ ps : List (Option Addr × Nat), ps.length = rs.length ∧ SrcAt w a ((rs.zip ps).flatMap fun x => routeV x.1 x.2) ∧ ∀ (q : Nat) r pp, rs[q]? = some r → ps[q]? = some pp → LegsAt w pp.1 r.legs := by
  obtain ⟨ps, h1, h2⟩ := chosen (Q := fun k pp => ∀ (hk : k < rs.length), ∃ b off, a = some ⟨b, off, none⟩ ∧ w.cell? ⟨b, off + k * 2, none⟩ = some (.slice pp.1 rs[k].legs.length pp.2) ∧ w.cell? ⟨b, off + k * 2 + 1, none⟩ = some (.bool rs[k].lossy) ∧ LegsAt w pp.1 rs[k].legs) (none, 0)
    (fun k hk => by obtain ⟨b, off, ar, c, e, _, c0, c1, c2⟩ := h k hk; exact ⟨(ar, c), fun _ => ⟨b, off, e, c0, c1, c2⟩⟩)
  refine ⟨ps, h1, fun j u hu => ?_, fun q l pp hq hp => ?_⟩
  · have hlen := ownL_len (E := 3) (val := routeV) (l := rs) (ps := ps) routeV_len (by omega)
    have hj : j < rs.length * 2 := by have := (List.getElem?_eq_some_iff.1 hu).1; rw [hlen, h1] at this; exact this
    have hk : j / 2 < rs.length := by omega
    have hg := flat_get (val := routeV) routeV_len h1 hk (Nat.mod_lt j (by omega : 0 < 2))
    rw [show j / 2 * 2 + j % 2 = j by omega, hu] at hg
    obtain ⟨b, off, e, c0, c1, _⟩ := h2 (j / 2) _ (List.getElem?_eq_getElem (by omega)) hk
    refine ⟨b, off, e, ?_⟩
    have hm : j % 2 = 0 ∨ j % 2 = 1 := by omega
    rcases hm with hm | hm
    · rw [hm] at hg; rw [show j = j / 2 * 2 by omega, c0]; simpa [routeV] using hg.symm
    · rw [hm] at hg; rw [show off + j = off + j / 2 * 2 + 1 by omega, c1]; simpa [routeV] using hg.symm
  · obtain ⟨hlt, rfl⟩ := List.getElem?_eq_some_iff.1 hq
    obtain ⟨b, off, e, _, _, c3⟩ := h2 q pp hp hlt
    exact c3
theorem routes_of_row {w : World} {g : Nat} {E : TypeId} {rs : List Route} {ps : List (Option Addr × Nat)} (h : RowAt w g E ((rs.zip ps).flatMap fun x => routeV x.1 x.2)) (hl : ps.length = rs.length) (hs : ∀ (q : Nat) r pp, rs[q]? = some r → ps[q]? = some pp → LegsAt w pp.1 r.legs) : RoutesAt w (some ⟨g, 0, none⟩) rs := fun k hk => by
  have g0 := flat_get (val := routeV) routeV_len hl hk (show 0 < 2 by omega)
  have g1 := flat_get (val := routeV) routeV_len hl hk (show 1 < 2 by omega)
  refine ⟨g, 0, (ps[k]'(by omega)).1, (ps[k]'(by omega)).2, rfl, h.lt, ?_, ?_, hs k _ _ (by simp) (by simp)⟩
  · rw [Nat.zero_add]; exact h.cell (g0.trans rfl)
  · rw [Nat.zero_add]; exact h.cell (g1.trans rfl)
end Go.Proofs.Ytfclemnkcpadpaa
