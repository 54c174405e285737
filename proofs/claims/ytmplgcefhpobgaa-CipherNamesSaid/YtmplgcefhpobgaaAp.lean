/- append onto a literal without elements -/
import Derived.Test.YtmplgcefhpobgaaDh
namespace Go.Proofs.Ytmplgcefhpobgaa
set_option linter.unusedVariables false
set_option linter.unusedSimpArgs false
set_option linter.unnecessarySimpa false
open Go.RowKit Go.Flow

section
variable {P : Program} {t E : TypeId} {z : Value} {size bytes : Nat}
theorem run_app0 (el : Elem P t E z size bytes) (ty : TypeId) (w : World) (base g : Nat) (hg : Cells w g #[] E) (hbg : base ≤ g) (ao : Option Addr) (m c : Nat) (news : List Value) (hnone : ao = none → m = 0 ∧ c = 0)
    (hl : news.length = m * size) (hsrc : SrcAt w ao news) (h63 : m ≤ maxLen) (hbytes : m * bytes ≤ 140737488355328) :
    ∃ v w', (Builtin.append_ #[t, t] ty #[.slice (some ⟨g, 0, none⟩) 0 0, .slice ao m c]).run P w = .ok v w' ∧ OwnV E size base m news v w' ∧ Below w.heap.size w w' := by
  obtain ⟨i, hi, hz0, hz1, hz2⟩ := el.info
  have hsmall : m ≤ 9223372036854775807 := by simp only [maxLen] at h63; omega
  by_cases hm : m = 0
  · subst hm
    have hn : news = [] := List.eq_nil_of_length_eq_zero (by simpa using hl)
    subst hn
    refine ⟨.slice (some ⟨g, 0, none⟩) 0 0, w, ?_, ⟨some ⟨g, 0, none⟩, 0, rfl, ⟨by simp, .inr ⟨g, 0, _, rfl, hbg, hg, Nat.le_refl _, Nat.zero_le _, by simp, by simp⟩⟩⟩, Below.refl _ _⟩
    have hs : ∀ b : Addr, Sem.run P (storeCells b []) w = .ok () w := fun b => rfl
    cases ao <;> simp [hs, Builtin.append_, run_underlying el.slice, sizeOf, typeInfo, hi, Builtin.lenOf, Builtin.firstCells, loadCells, loadCellsFrom]
  · obtain ⟨a, rfl⟩ : ∃ a, ao = some a := by
      cases ao with
      | none => exact absurd (hnone rfl).1 hm
      | some a => exact ⟨a, rfl⟩
    have hnews : ∀ j u, news[j]? = some u → w.cell? (a.add j) = some u := fun j u hu => by
      obtain ⟨b, off, ha, hc⟩ := hsrc j u hu
      obtain rfl := Option.some.inj ha
      rw [addr_add]; exact hc
    have hfit : Builtin.nextslicecap (0 + m) 0 * i.bytes ≤ 281474976710656 := growslice_fits (by omega) (by rw [hz2]; simpa using hbytes)
    have hr := run_append_grow (P := P) (w := w) t ty E i z el.slice hi hz0 ⟨g, 0, none⟩ 0 0 [] (by simp) (by simp) a m c news (by rw [hz1]; exact hl) hnews (by omega) (by omega) hfit
    refine ⟨_, _, hr, ⟨some ⟨w.heap.size, 0, none⟩, grownCap w (0 + m) 0 E, by rw [Nat.zero_add], hl, .inr ⟨w.heap.size, _, _, rfl, by have := hg.lt; omega, heap_alloc_new w.drew _, by have := grownCap_ge w (0 + m) 0 E; omega, grownCap_le_maxLen w (0 + m) 0 E (by omega), ?_, ?_⟩⟩, ((Below.refl _ w).drew).alloc (Nat.le_refl _) _⟩
    · simp only [Array.size_append, List.size_toArray, size_zeroCells, el.cells, hl, List.length_nil, Nat.zero_add, ← Nat.add_mul]
      congr 1
      have := grownCap_ge w m 0 E
      omega
    · simp only [Array.toList_append, List.nil_append]
      rw [← hl]
      exact List.take_left
theorem gives_app0 {o : Oper} {a : Act} (el : Elem P t E z size bytes) (w : World) (base g : Nat) (s x : Operand) (ho : o.op = .call { callee := .builtin .append, args := #[s, x], argTypes := #[t, t] })
    (hs : a.eval s = .slice (some ⟨g, 0, none⟩) 0 0) (hg : Cells w g #[] E) (hbg : base ≤ g) (ao : Option Addr) (m c : Nat) (news : List Value) (hx : a.eval x = .slice ao m c) (hnone : ao = none → m = 0 ∧ c = 0)
    (hl : news.length = m * size) (hsrc : SrcAt w ao news) (h63 : m ≤ maxLen) (hbytes : m * bytes ≤ 140737488355328) :
    o.gives P a w fun v w' => Below w.heap.size w w' ∧ OwnV E size base m news v w' := by
  obtain ⟨v, w', h1, h2, h3⟩ := run_app0 el o.type w base g hg hbg ao m c news hnone hl hsrc h63 hbytes
  unfold Oper.gives
  simp only [execOp, ho, resolve, invoke, builtin, Sem.run_bind, Sem.run_pure, Result.andThen_ok, List.map_toArray, List.map_cons, List.map_nil, hs, hx, h1, Oper.givesUpon]
  exact ⟨h3, h2⟩
end
/-- A slice of bytes. -/
def U8At (w : World) (a : Option Addr) (xs : List Int) : Prop :=
  ∀ k, k < xs.length → ∃ b off, a = some ⟨b, off, none⟩ ∧ b < w.heap.size ∧ w.cell? ⟨b, off + k, none⟩ = some (.int .u8 (xs.getD k 0))
theorem U8At.below {w w' : World} {a : Option Addr} {xs : List Int} (h : U8At w a xs) (hb : Below w.heap.size w w') : U8At w' a xs := fun k hk =>
  let ⟨b, off, ha, hlt, hc⟩ := h k hk
  ⟨b, off, ha, Nat.lt_of_lt_of_le hlt hb.size, (hb.cell (p := ⟨b, off + k, none⟩) hlt).trans hc⟩
theorem flat2_len (xs : List (Int × Int)) : (flat2 xs).length = xs.length * 2 := by
  unfold flat2
  induction xs with
  | nil => rfl
  | cons x l ih => simp only [List.flatMap_cons, List.length_append, List.length_cons, List.length_nil, ih]; omega
theorem flat2_one {xs : List (Int × Int)} : ∀ u ∈ flat2 xs, u.oneCell' = true := fun u hu => by
  unfold flat2 at hu
  obtain ⟨x, _, hx⟩ := List.mem_flatMap.1 hu
  simp at hx
  rcases hx with rfl | rfl <;> rfl
theorem SrcAt.recs2 {w : World} {a : Option Addr} {xs : List (Int × Int)} (h : Recs2At w a xs) : SrcAt w a (flat2 xs) := fun j u hu => by
  have hj : j < xs.length * 2 := by have := (List.getElem?_eq_some_iff.1 hu).1; rwa [flat2_len] at this
  obtain ⟨b, off, e, _, c0, c1⟩ := h (j / 2) (by omega)
  obtain ⟨f0, f1⟩ := flat2_get xs (j / 2) (by omega)
  refine ⟨b, off, e, ?_⟩
  rcases Nat.mod_two_eq_zero_or_one j with hm | hm
  · have ej : j / 2 * 2 = j := by omega
    rw [ej] at c0 f0
    rw [c0, ← f0, hu]
  · have ej : j / 2 * 2 + 1 = j := by omega
    rw [Nat.add_assoc, ej] at c1
    rw [ej] at f1
    rw [c1, ← f1, hu]
end Go.Proofs.Ytmplgcefhpobgaa
