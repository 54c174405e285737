/- appends to one of several own lists: where the new row lies -/
import Derived.Test.YtnofcpihkglmmaaCel
import Derived.Maps.AppendAt
namespace Go.Proofs.Ytnofcpihkglmmaa
set_option linter.unusedVariables false
set_option linter.unusedSimpArgs false
set_option linter.unnecessarySimpa false
open Go.RowKit Go.Flow

section
variable {P : Program} {t E : TypeId} {z : Value} {size bytes : Nat} {ops : Array Oper} {rest : List Oper} {o : Oper} {a : Act} {Q : Exit → Act → World → Prop}
def Apart (a1 a2 : Option Addr) : Prop := ∀ x y, a1 = some x → a2 = some y → x.block ≠ y.block
theorem OwnL.old {E : TypeId} {size base : Nat} {w : World} {a : Option Addr} {c n : Nat} {xs : List Value} (h : OwnL E size base w a c n xs) {x : Addr} (hx : a = some x) : x.block < w.heap.size := by
  rcases h.form with ⟨h1, _⟩ | ⟨g, h1, _, h2, _⟩
  · rw [h1] at hx; cases hx
  · rw [h1] at hx; cases hx; exact h2
/-- 'append(out, x)': where the new row lies. -/
theorem wpList_app_lit_at {W : World} {cs : Array Value} {E2 : TypeId} (el : Elem P t E z size bytes) (hgd : o.guard = none) (s x : Operand) (ho : o.op = .call { callee := .builtin .append, args := #[s, x], argTypes := #[t, t] })
    (base : Nat) (a0 : Option Addr) (n c0 : Nat) (xs : List Value) (hs : a.eval s = .slice a0 n c0) (hown : OwnL E size base W a0 c0 n xs)
    (m c : Nat) (hx : a.eval x = .slice (some ⟨W.heap.size, 0, none⟩) m c) (hl : cs.size = m * size) (h1 : ∀ u ∈ cs.toList, u.oneCell' = true)
    (h63 : n + m ≤ maxLen) (hbytes : (n + m) * bytes ≤ 140737488355328) (hbase : base ≤ W.heap.size)
    (h : ∀ a' c' w', OwnL E size base w' a' c' (n + m) (xs ++ cs.toList) → Below base W w' →
      (∀ {E' : TypeId} {size' base' : Nat} {a2 : Option Addr} {c2 n2 : Nat} {xs2 : List Value}, OwnL E' size' base' W a2 c2 n2 xs2 → Apart a0 a2 → OwnL E' size' base' w' a2 c2 n2 xs2 ∧ Apart a' a2) → wpList P ops Q rest (a.put o.dst (.slice a' (n + m) c')) w') :
    wpList P ops Q (o :: rest) a (W.alloc (.cells cs E2)) := by
  obtain ⟨i, hi, hz0, hz1, hz2⟩ := el.info
  refine wpList_append_own_at _ hgd s x t ho base E i z size bytes el.slice hi hz0 hz1 hz2 el.cells el.pos (.slice a0 n c0) n xs hs (hown.alloc _) ⟨W.heap.size, 0, none⟩ m c cs.toList hx (by simpa using hl) ?_ h1 h63 hbytes (by simp; omega) ?_
  · intro j u hu
    rw [addr_add, World.cell?_alloc_at _ _ _ _ rfl, Nat.zero_add]
    simpa using hu
  · intro v' w' h2 h3 h4 h5
    have hv : ∃ a' c', v' = .slice a' (n + m) c' := by
      rcases h2.2 with ⟨rfl, hnm⟩ | ⟨g, cap, cur, rfl, _⟩
      · exact ⟨none, 0, by rw [hnm]⟩
      · exact ⟨_, _, rfl⟩
    obtain ⟨a', c', rfl⟩ := hv
    refine h a' c' w' h2 (((Below.refl base W).alloc hbase _).trans (below_of_grown (hown.alloc _) (by simp; omega) h3)) ?_
    intro E' size' base' a2 c2 n2 xs2 k2 hap
    refine ⟨(k2.alloc _).grown h3 (fun g hg hg2 => ?_), ?_⟩
    · cases a0 with
      | none => simp [Value.ownBlock] at hg
      | some x0 =>
        cases a2 with
        | none => simp [Value.ownBlock] at hg2
        | some x2 =>
          simp [Value.ownBlock] at hg hg2
          exact hap x0 x2 rfl rfl (by rw [hg, hg2])
    · intro x1 x2 e1 e2
      subst e1 e2
      have hlt := k2.old rfl
      rcases h5 with h5 | h5
      · cases a0 with
        | none => simp [Value.ownBlock] at h5
        | some x0 =>
          simp [Value.ownBlock] at h5
          rw [h5]
          exact hap x0 x2 rfl rfl
      · simp [Value.ownBlock] at h5
        omega
theorem Apart.symm {a1 a2 : Option Addr} (h : Apart a1 a2) : Apart a2 a1 := fun x y h1 h2 e => h y x h2 h1 e.symm
theorem Apart.none (a : Option Addr) : Apart none a := fun _ _ h => by cases h
/-- 'append(out, x)' of a slice that lies in the world: where the new row lies. -/
theorem wpList_app_keep {W : World} (el : Elem P t E z size bytes) (hgd : o.guard = none) (s x : Operand) (ho : o.op = .call { callee := .builtin .append, args := #[s, x], argTypes := #[t, t] })
    (base : Nat) (a0 : Option Addr) (n c0 : Nat) (xs : List Value) (hs : a.eval s = .slice a0 n c0) (hown : OwnL E size base W a0 c0 n xs)
    (gg m c : Nat) (news : List Value) (hx : a.eval x = .slice (some ⟨gg, 0, none⟩) m c) (hl : news.length = m * size) (hsrc : SrcAt W (some ⟨gg, 0, none⟩) news) (h1 : ∀ u ∈ news, u.oneCell' = true)
    (h63 : n + m ≤ maxLen) (hbytes : (n + m) * bytes ≤ 140737488355328) (hbase : base ≤ W.heap.size)
    (h : ∀ a' c' w', OwnL E size base w' a' c' (n + m) (xs ++ news) → Below base W w' →
      (∀ {E' : TypeId} {size' base' : Nat} {a2 : Option Addr} {c2 n2 : Nat} {xs2 : List Value}, OwnL E' size' base' W a2 c2 n2 xs2 → Apart a0 a2 → OwnL E' size' base' w' a2 c2 n2 xs2 ∧ Apart a' a2) → wpList P ops Q rest (a.put o.dst (.slice a' (n + m) c')) w') :
    wpList P ops Q (o :: rest) a W := by
  obtain ⟨i, hi, hz0, hz1, hz2⟩ := el.info
  refine wpList_append_own_at W hgd s x t ho base E i z size bytes el.slice hi hz0 hz1 hz2 el.cells el.pos (.slice a0 n c0) n xs hs hown ⟨gg, 0, none⟩ m c news hx hl ?_ h1 h63 hbytes hbase ?_
  · intro j u hu
    obtain ⟨b, off, e, hc⟩ := hsrc j u hu
    simp only [Option.some.injEq, Addr.mk.injEq, and_true] at e
    obtain ⟨rfl, rfl⟩ := e
    rw [addr_add]
    exact hc
  · intro v' w' h2 h3 h4 h5
    have hv : ∃ a' c', v' = .slice a' (n + m) c' := by
      rcases h2.2 with ⟨rfl, hnm⟩ | ⟨g, cap, cur, rfl, _⟩
      · exact ⟨none, 0, by rw [hnm]⟩
      · exact ⟨_, _, rfl⟩
    obtain ⟨a', c', rfl⟩ := hv
    refine h a' c' w' h2 (below_of_grown hown hbase h3) ?_
    intro E' size' base' a2 c2 n2 xs2 k2 hap
    refine ⟨k2.grown h3 (fun g hg hg2 => ?_), ?_⟩
    · cases a0 with
      | none => simp [Value.ownBlock] at hg
      | some x0 =>
        cases a2 with
        | none => simp [Value.ownBlock] at hg2
        | some x2 =>
          simp [Value.ownBlock] at hg hg2
          exact hap x0 x2 rfl rfl (by rw [hg, hg2])
    · intro x1 x2 e1 e2
      subst e1 e2
      have hlt := k2.old rfl
      rcases h5 with h5 | h5
      · cases a0 with
        | none => simp [Value.ownBlock] at h5
        | some x0 =>
          simp [Value.ownBlock] at h5
          rw [h5]
          exact hap x0 x2 rfl rfl
      · simp [Value.ownBlock] at h5
        omega
end
end Go.Proofs.Ytnofcpihkglmmaa
