/- Blocks known whole; lists that a call made; regions over any frame. -/
import Derived.Test.YtnofcpihkglmmaaOwn
import Derived.Test.YtnofcpihkglmmaaFlo
import Derived.Laws.EntriesVeiled
import Derived.RangeFuncRecord
import Derived.OneCell
import Derived.Outline
namespace Go.Proofs.Ytnofcpihkglmmaa
set_option linter.unusedVariables false
set_option linter.unusedSimpArgs false
set_option linter.unnecessarySimpa false
open Go.RowKit Go.Flow

theorem cell_lt {w : World} {a : Addr} {v : Value} (h : w.cell? a = some v) : a.block < w.heap.size := by
  by_cases e : a.block < w.heap.size
  · exact e
  · have : w.heap[a.block]? = none := Array.getElem?_eq_none (by omega)
    simp [World.cell?, this] at h
theorem below_cell {w w' : World} (hb : Below w.heap.size w w') {a : Addr} {v : Value} (hc : w.cell? a = some v) : w'.cell? a = some v := (hb.cell (cell_lt hc)).trans hc
/-- A block of cells, known whole. -/
def Cells (w : World) (g : Nat) (cs : Array Value) (T : TypeId) : Prop := w.heap[g]? = some (.cells cs T (0, 0))
theorem Cells.lt {w : World} {g : Nat} {cs : Array Value} {T : TypeId} (h : Cells w g cs T) : g < w.heap.size := (Array.getElem?_eq_some_iff.1 h).1
theorem Cells.cell {w : World} {g : Nat} {cs : Array Value} {T : TypeId} (h : Cells w g cs T) (k : Nat) : w.cell? ⟨g, k, none⟩ = cs[k]? := by simp [World.cell?, show w.heap[g]? = _ from h]
theorem Cells.frozen {w : World} {g : Nat} {cs : Array Value} {T : TypeId} (h : Cells w g cs T) (k : Nat) : w.frozen? ⟨g, k, none⟩ = false := by simp [World.frozen?, show w.heap[g]? = _ from h]
theorem Cells.new (w : World) (cs : Array Value) (T : TypeId) : Cells (w.alloc (.cells cs T)) w.heap.size cs T := World.alloc_heap_new w _
theorem Cells.below {w w' : World} {g : Nat} {cs : Array Value} {T : TypeId} (h : Cells w g cs T) (hb : Below w.heap.size w w') : Cells w' g cs T := (hb.block g h.lt).trans h
theorem Cells.set {w : World} {g : Nat} {cs : Array Value} {T : TypeId} (h : Cells w g cs T) (k : Nat) (v : Value) : Cells (w.setCell ⟨g, k, none⟩ v) g (cs.setIfInBounds k v) T := by
  obtain ⟨hlt, hk⟩ := Array.getElem?_eq_some_iff.1 h
  show (w.heap.modify g _)[g]? = _
  rw [Array.getElem?_eq_getElem (by rw [Array.size_modify]; exact hlt), Array.getElem_modify_self, hk]
  rfl
theorem Cells.grown {w w' : World} {row : Option Nat} {g : Nat} {cs : Array Value} {T : TypeId} (h : Cells w g cs T) (hg : w.grownBy w' row) (hne : some g ≠ row) : Cells w' g cs T := (hg.block g h.lt hne).trans h
theorem Cells.not_row {w : World} {g : Nat} {cs : Array Value} {T : TypeId} (h : Cells w g cs T) {E : TypeId} (hte : T ≠ E) {size base n c : Nat} {a : Option Addr} {xs : List Value} (hr : OwnL E size base w a c n xs) : some g ≠ (Value.slice a n c).ownBlock := by
  rcases hr.2 with ⟨h1, _⟩ | ⟨g', cap, cur, h1, _, hgb, _⟩
  · rw [h1]; simp [Value.ownBlock]
  · rw [h1]
    intro e'
    obtain rfl : g = g' := by simpa [Value.ownBlock] using e'
    have := (show w.heap[g]? = _ from h).symm.trans hgb
    simp at this
    exact hte this.2

theorem Cells.src {w : World} {g : Nat} {cs : Array Value} {T : TypeId} (h : Cells w g cs T) : SrcAt w (some ⟨g, 0, none⟩) cs.toList := fun j u hu => ⟨g, 0, rfl, by rw [Nat.zero_add, h.cell]; simpa using hu⟩
/-- a pointer to a new block -/
def PtrV (B : Nat) (cs : Array Value) (T : TypeId) (v : Value) (w : World) : Prop := ∃ g, v = .pointer (some ⟨g, 0, none⟩) ∧ B ≤ g ∧ Cells w g cs T
theorem PtrV.kept {B : Nat} {cs : Array Value} {T : TypeId} {v : Value} {w w' : World} (h : PtrV B cs T v w) (hb : Below w.heap.size w w') : PtrV B cs T v w' := let ⟨g, h1, h2, h3⟩ := h; ⟨g, h1, h2, h3.below hb⟩
/-- a literal slice in a new block -/
def LitV (B n : Nat) (cs : Array Value) (T : TypeId) (v : Value) (w : World) : Prop := ∃ g, v = .slice (some ⟨g, 0, none⟩) n n ∧ B ≤ g ∧ Cells w g cs T
theorem LitV.kept {B n : Nat} {cs : Array Value} {T : TypeId} {v : Value} {w w' : World} (h : LitV B n cs T v w) (hb : Below w.heap.size w w') : LitV B n cs T v w' := let ⟨g, h1, h2, h3⟩ := h; ⟨g, h1, h2, h3.below hb⟩

theorem OwnL.moved {E : TypeId} {size base : Nat} {w w' : World} {a : Option Addr} {c n : Nat} {xs : List Value} {g : Nat} (h : OwnL E size base w a c n xs) (hz : w.heap.size ≤ w'.heap.size) (hb : ∀ b, b ≠ g → w'.heap[b]? = w.heap[b]?) (hne : some g ≠ (Value.slice a n c).ownBlock) : OwnL E size base w' a c n xs := by
  refine ⟨h.1, ?_⟩
  rcases h.2 with hn | ⟨g', cap, cur, hv, hbg, hg, rest⟩
  · exact .inl hn
  · refine .inr ⟨g', cap, cur, hv, hbg, ?_, rest⟩
    rw [hb g' (fun e => hne (by rw [hv, e]; rfl))]
    exact hg
section
variable {P : Program} {t E : TypeId} {z : Value} {size bytes : Nat} {w : World} {ops : Array Oper} {rest : List Oper} {o : Oper} {a : Act} {Q : Exit → Act → World → Prop}
/-- 'append': nothing turns but the list's own row. -/
theorem wpList_app_g (el : Elem P t E z size bytes) (hgd : o.guard = none) (s x : Operand) (ho : o.op = .call { callee := .builtin .append, args := #[s, x], argTypes := #[t, t] })
    (base : Nat) (a0 : Option Addr) (n c0 : Nat) (xs : List Value) (hs : a.eval s = .slice a0 n c0) (hown : OwnL E size base w a0 c0 n xs)
    (ao : Option Addr) (m c : Nat) (news : List Value) (hx : a.eval x = .slice ao m c) (hnone : ao = none → m = 0 ∧ c = 0) (hl : news.length = m * size) (hsrc : SrcAt w ao news) (h1 : ∀ u ∈ news, u.oneCell' = true)
    (h63 : n + m ≤ maxLen) (hbytes : (n + m) * bytes ≤ 140737488355328) (hbase : base ≤ w.heap.size)
    (h : ∀ a' c' w', OwnL E size base w' a' c' (n + m) (xs ++ news) → Below base w w' → w.grownBy w' (Value.slice a0 n c0).ownBlock → wpList P ops Q rest (a.put o.dst (.slice a' (n + m) c')) w') : wpList P ops Q (o :: rest) a w := by
  obtain ⟨i, hi, hz0, hz1, hz2⟩ := el.info
  cases ao with
  | none =>
    obtain ⟨rfl, rfl⟩ := hnone rfl
    have hn0 : news = [] := List.eq_nil_of_length_eq_zero (by simpa using hl)
    subst hn0
    refine wpList_plain hgd fun K hK => ?_
    have hrun := run_append_owned_none (P := P) (w := w) base t o.type E i size el.slice hi _ n xs hown
    unfold Oper.wp
    simp only [execOp, ho, resolve, invoke, builtin, Sem.run_bind, Sem.run_pure, Result.andThen_ok, List.map_toArray, List.map_cons, List.map_nil, hs, hx, hrun]
    exact hK _ _ (h a0 c0 w (by simpa using hown) (Below.refl _ _) (World.grownBy.refl _ _))
  | some ad =>
    have hnews : ∀ j u, news[j]? = some u → w.cell? (ad.add j) = some u := fun j u hu => by
      obtain ⟨b, off, ha, hc⟩ := hsrc j u hu
      obtain rfl := Option.some.inj ha
      rw [addr_add]; exact hc
    refine wpList_append_own w hgd s x t ho base E i z size bytes el.slice hi hz0 hz1 hz2 el.cells el.pos (.slice a0 n c0) n xs hs hown ad m c news hx hl hnews h1 h63 hbytes hbase ?_
    intro v' w' h2 h3 h4
    have hv : ∃ a' c', v' = .slice a' (n + m) c' := by
      rcases h2.2 with ⟨rfl, hnm⟩ | ⟨g, cap, cur, rfl, _⟩
      · exact ⟨none, 0, by rw [hnm]⟩
      · exact ⟨_, _, rfl⟩
    obtain ⟨a', c', rfl⟩ := hv
    exact h a' c' w' h2 (below_of_grown hown hbase h3) h3
end
theorem OwnL.grown {E : TypeId} {size base : Nat} {w w' : World} {a : Option Addr} {c n : Nat} {xs : List Value} {row : Option Nat} (h : OwnL E size base w a c n xs) (hg : w.grownBy w' row) (hne : ∀ g, row = some g → (Value.slice a n c).ownBlock ≠ some g) : OwnL E size base w' a c n xs := by
  refine ⟨h.1, ?_⟩
  rcases h.2 with hn | ⟨g', cap, cur, hv, hbg, hg', rest⟩
  · exact .inl hn
  · refine .inr ⟨g', cap, cur, hv, hbg, ?_, rest⟩
    rw [hg.block g' (Array.getElem?_eq_some_iff.1 hg').1 (fun e => hne g' e.symm (by rw [hv]; rfl))]
    exact hg'
/-- Rows of two element types lie apart. -/
theorem OwnL.apart {E E' : TypeId} (hE : E ≠ E') {size size' base base' : Nat} {w : World} {a a' : Option Addr} {c n c' n' : Nat} {xs xs' : List Value} (h : OwnL E size base w a c n xs) (k : OwnL E' size' base' w a' c' n' xs') : ∀ g, (Value.slice a' n' c').ownBlock = some g → (Value.slice a n c).ownBlock ≠ some g := by
  intro g hg hg2
  rcases h.2 with ⟨h1, _⟩ | ⟨g1, cap, cur, h1, _, hgb, _⟩
  · rw [h1] at hg2; simp [Value.ownBlock] at hg2
  · rcases k.2 with ⟨k1, _⟩ | ⟨g2, cap2, cur2, k1, _, kgb, _⟩
    · rw [k1] at hg; simp [Value.ownBlock] at hg
    · rw [h1] at hg2; rw [k1] at hg
      simp [Value.ownBlock] at hg hg2
      subst hg; subst hg2
      rw [hgb] at kgb
      simp at kgb
      exact hE kgb.2
theorem results_cell1 {fn : Func} {c : Tmp} {T : TypeId} {tmps : Array Value} {P : Program} {w : World} {a : Addr} {v : Value} (h : fn.results = #[.cell c T]) (ha : tmps.getD c undef = .pointer (some a))
    (hv : (loadVar T a).run P w = .ok v w) : (results fn tmps).run P w = .ok v w := by
  rw [Array.getD_eq_getD_getElem?] at ha
  simp [results, h, ha, asAddr, hv]
theorem Cells.other {w : World} {g g' : Nat} {cs : Array Value} {T : TypeId} (h : Cells w g cs T) (hne : g ≠ g') (k : Nat) (v : Value) : Cells (w.setCell ⟨g', k, none⟩ v) g cs T :=
  (Below.heap_setCell w ⟨g', k, none⟩ v g hne).trans h
theorem Cells.ints {w : World} {g : Nat} {cs : Array Value} {T : TypeId} (h : Cells w g cs T) (l : List Int) (hl : cs.toList = l.map (Value.int .i64)) : IntsAt w (some ⟨g, 0, none⟩) l := fun k hk => by
  refine ⟨g, 0, rfl, h.lt, ?_⟩
  rw [Nat.zero_add, h.cell, ← Array.getElem?_toList, hl]
  simp [hk]
theorem Cells.alloc {w : World} {g : Nat} {cs : Array Value} {T : TypeId} (h : Cells w g cs T) (o : Obj) : Cells (w.alloc o) g cs T := h.below ((Below.refl _ _).alloc (Nat.le_refl _) _)
theorem Cells.new' (w : World) (cs : Array Value) (T : TypeId) (B : Nat) (hB : B = w.heap.size) : Cells (w.alloc (.cells cs T)) B cs T := by subst hB; exact Cells.new w cs T
section
variable {P : Program} {ops : Array Oper} {w : World} {m : List Bool} {o : Oper} {l : List Oper} {R : Value → World → Prop} {Rs : List (Value → World → Prop)} {acc : List (Option Tmp × (Value → World → Prop))} {a : Act} {d : Option Tmp} {K : Act → World → Prop} {Q : Act → Prop}
end
end Go.Proofs.Ytnofcpihkglmmaa
