/- cipher: extend (Plan$1): what is appended to a list that a captured variable holds -/
import Derived.Test.YtmplgcefhpobgaaCp
namespace Go.Proofs.Ytmplgcefhpobgaa
set_option linter.unusedVariables false
set_option linter.unusedSimpArgs false
set_option linter.unnecessarySimpa false
open Go.RowKit Go.Flow

theorem OwnL.keep {E : TypeId} {size base bm : Nat} {w w' : World} {a : Option Addr} {c n : Nat} {xs : List Value} (h : OwnL E size base w a c n xs) (k : Keep bm w w') : OwnL E size base w' a c n xs := by
  refine ⟨h.1, ?_⟩
  rcases h.2 with hn | ⟨g, cap, cur, hv, hbg, hg, rest⟩
  · exact .inl hn
  · refine .inr ⟨g, cap, cur, hv, hbg, ?_, rest⟩
    rw [k.grown.block g (Array.getElem?_eq_some_iff.1 hg).1 (fun e => ?_)]
    · exact hg
    · obtain ⟨es, cl, hm⟩ := k.old
      rw [← Option.some.inj e, hg] at hm
      cases hm

section
variable {P : Program} {t E : TypeId} {z : Value} {size bytes : Nat} {w : World} {ops : Array Oper} {rest : List Oper} {o : Oper} {a : Act} {Q : Exit → Act → World → Prop}

/-- 'append(out, x)': nothing turns but the list's own row. -/
theorem wpList_app_lit_g {W : World} {cs : Array Value} {E2 : TypeId} (el : Elem P t E z size bytes) (hgd : o.guard = none) (s x : Operand) (ho : o.op = .call { callee := .builtin .append, args := #[s, x], argTypes := #[t, t] })
    (base : Nat) (a0 : Option Addr) (n c0 : Nat) (xs : List Value) (hs : a.eval s = .slice a0 n c0) (hown : OwnL E size base W a0 c0 n xs)
    (m c : Nat) (hx : a.eval x = .slice (some ⟨W.heap.size, 0, none⟩) m c) (hl : cs.size = m * size) (h1 : ∀ u ∈ cs.toList, u.oneCell' = true)
    (h63 : n + m ≤ maxLen) (hbytes : (n + m) * bytes ≤ 140737488355328) (hbase : base ≤ W.heap.size)
    (h : ∀ a' c' w', OwnL E size base w' a' c' (n + m) (xs ++ cs.toList) → (W.alloc (.cells cs E2)).grownBy w' (Value.slice a0 n c0).ownBlock → wpList P ops Q rest (a.put o.dst (.slice a' (n + m) c')) w') :
    wpList P ops Q (o :: rest) a (W.alloc (.cells cs E2)) := by
  obtain ⟨i, hi, hz0, hz1, hz2⟩ := el.info
  refine wpList_append_own _ hgd s x t ho base E i z size bytes el.slice hi hz0 hz1 hz2 el.cells el.pos (.slice a0 n c0) n xs hs (hown.alloc _) ⟨W.heap.size, 0, none⟩ m c cs.toList hx (by simpa using hl) ?_ h1 h63 hbytes (by simp; omega) ?_
  · intro j u hu
    rw [addr_add, World.cell?_alloc_at _ _ _ _ rfl, Nat.zero_add]
    simpa using hu
  · intro v' w' h2 h3 h4
    have hv : ∃ a' c', v' = .slice a' (n + m) c' := by
      rcases h2.2 with ⟨rfl, hnm⟩ | ⟨g, cap, cur, rfl, _⟩
      · exact ⟨none, 0, by rw [hnm]⟩
      · exact ⟨_, _, rfl⟩
    obtain ⟨a', c', rfl⟩ := hv
    exact h a' c' w' h2 h3
end

/-- A cell that lies in no row of the list survives the append. -/
theorem grown_cell {E : TypeId} {size base : Nat} {W w' : World} {a0 : Option Addr} {c0 n : Nat} {xs : List Value} {o : Obj} (hown : OwnL E size base W a0 c0 n xs) (hg : (W.alloc o).grownBy w' (Value.slice a0 n c0).ownBlock) {p : Addr} {v : Value}
    (hne : ∀ g, a0 = some ⟨g, 0, none⟩ → p.block ≠ g) (hc : W.cell? p = some v) : w'.cell? p = some v := by
  refine hg.cell (below_cell ((Below.refl _ W).alloc (Nat.le_refl _) o) hc) ?_
  rcases hown.form with ⟨rfl, _⟩ | ⟨g, rfl, _⟩
  · simp [Value.ownBlock]
  · simp [Value.ownBlock]
    exact hne g rfl

theorem OwnL.setCell {E : TypeId} {size base : Nat} {w : World} {a : Option Addr} {c n : Nat} {xs : List Value} (h : OwnL E size base w a c n xs) {p : Addr} (hp : p.block < base) (u : Value) : OwnL E size base (w.setCell p u) a c n xs := by
  refine ⟨h.1, ?_⟩
  rcases h.2 with hn | ⟨g, cap, cur, hv, hbg, hg, rest⟩
  · exact .inl hn
  · exact .inr ⟨g, cap, cur, hv, hbg, by rw [Below.heap_setCell _ _ _ _ (by omega)]; exact hg, rest⟩

/-- What the append and the store into the variable leave as it was. -/
theorem turned_below {E : TypeId} {size base B0 : Nat} {W w' : World} {a0 : Option Addr} {c0 n : Nat} {xs : List Value} {o : Obj} (hown : OwnL E size base W a0 c0 n xs) (hg : (W.alloc o).grownBy w' (Value.slice a0 n c0).ownBlock) (hB : B0 ≤ base) (hW : base ≤ W.heap.size)
    {p : Addr} (hp : B0 ≤ p.block) (u : Value) : Below B0 W (w'.setCell p u) := by
  refine Below.setCell ?_ hp u
  have h1 : Below base (W.alloc o) w' := below_of_grown (hown.alloc o) (by simp; omega) hg
  exact ((Below.refl B0 W).alloc (by omega) o).trans (h1.mono hB)

theorem MemoAt.turned {E : TypeId} {size base bm n : Nat} {G : Spot → Int} {W w' : World} {a0 : Option Addr} {c0 k : Nat} {xs : List Value} {o : Obj} (h : MemoAt W bm n G) (hown : OwnL E size base W a0 c0 k xs) (hg : (W.alloc o).grownBy w' (Value.slice a0 k c0).ownBlock) (hb : bm < base)
    {p : Addr} (hp : bm ≠ p.block) (u : Value) : MemoAt (w'.setCell p u) bm n G := by
  obtain ⟨D, ho, hG⟩ := h
  refine ⟨D, World.ownsMap.setCell (World.ownsMap.kept (ho.alloc o) hg ?_) hp u, hG⟩
  rcases hown.form with ⟨rfl, _⟩ | ⟨g, rfl, hg2, _⟩
  · simp [Value.ownBlock]
  · simp [Value.ownBlock]
    omega

/-- A cell below the list's rows, in another block than the variable. -/
theorem turned_cell {E : TypeId} {size base : Nat} {W w' : World} {a0 : Option Addr} {c0 n : Nat} {xs : List Value} {o : Obj} (hown : OwnL E size base W a0 c0 n xs) (hg : (W.alloc o).grownBy w' (Value.slice a0 n c0).ownBlock) {q : Addr} {v : Value} (hq : q.block < base) (hc : W.cell? q = some v)
    {p : Addr} (hp : q.block ≠ p.block) (u : Value) : (w'.setCell p u).cell? q = some v := by
  rw [World.cell?_setCell_other _ _ _ _ (fun e => hp (by rw [e]))]
  refine grown_cell hown hg (fun g e => ?_) hc
  rcases hown.form with ⟨h1, _⟩ | ⟨g', h1, hg2, _⟩
  · rw [h1] at e; cases e
  · rw [h1] at e
    simp at e
    omega

def planPick (F : Nat → Int) (m : Int) (nk r : Nat) (s : Spot) (left : Int) (k : Nat) : Bool := mayB (F k) m s k && (mayC s k + fewR F m nk r (s.bump k) == left)
def planR (F : Nat → Int) (m : Int) (nk : Nat) : Nat → Spot → Int → List Int
  | 0, _, _ => []
  | r + 1, s, left => match (List.range nk).find? (planPick F m nk r s left) with
    | none => []
    | some k => (k : Int) :: planR F m nk r (s.bump k) (left - mayC s k)

theorem Keep.toBelow {bm B0 : Nat} {a b : World} (h : Keep bm a b) (hb : B0 ≤ bm) (hs : B0 ≤ a.heap.size) : Below B0 a b :=
  ⟨h.grown.os, h.grown.tape, h.grown.output, h.grown.size, fun k hk => h.grown.block k (by omega) (fun e => by have := Option.some.inj e; omega)⟩
theorem find_first {p : Nat → Bool} {n j : Nat} (hj : j < n) (hno : ∀ k, k < j → p k = false) (hp : p j = true) : (List.range n).find? p = some j := by
  rw [List.find?_range_eq_some]
  exact ⟨hp, List.mem_range.2 hj, fun k hk => by simp [hno k hk]⟩
theorem find_none {p : Nat → Bool} {n : Nat} (hno : ∀ k, k < n → p k = false) : (List.range n).find? p = none := by
  rw [List.find?_eq_none]
  intro x hx
  simp [hno x (List.mem_range.1 hx)]

end Go.Proofs.Ytmplgcefhpobgaa
