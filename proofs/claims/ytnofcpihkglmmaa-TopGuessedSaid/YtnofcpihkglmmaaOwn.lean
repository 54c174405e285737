/- Slices that a call has made: what is appended, what is stored. -/
import Derived.Test.YtnofcpihkglmmaaBase
namespace Go.Proofs.Ytnofcpihkglmmaa
set_option linter.unusedVariables false
set_option linter.unusedSimpArgs false
set_option linter.unnecessarySimpa false
open Go.RowKit Go.Flow

/-- The slice (a, n, c) owns the cells xs in a row of its own from block 'base' on. -/
def OwnL (E : TypeId) (size base : Nat) (w : World) (a : Option Addr) (c n : Nat) (xs : List Value) : Prop := w.ownsRow base E size (.slice a n c) n xs

structure Elem (P : Program) (t E : TypeId) (z : Value) (size bytes : Nat) : Prop where
  slice : P.underlying t = some (.slice E)
  info : ∃ i, P.info? E = some i ∧ i.zero = some z ∧ i.size = size ∧ i.bytes = bytes
  cells : z.cells.size = size
  pos : 0 < size

theorem addr_add (b o j : Nat) : (⟨b, o, none⟩ : Addr).add j = ⟨b, o + j, none⟩ := by
  unfold Addr.add
  split
  · rename_i h; subst h; rfl
  · rfl

section
variable {E : TypeId} {size base : Nat} {w w' : World} {a : Option Addr} {c n : Nat} {xs : List Value}

theorem OwnL.nil (E : TypeId) (size base : Nat) (w : World) : OwnL E size base w none 0 0 [] := World.ownsRow_nil w base E size
theorem OwnL.kept (h : OwnL E size base w a c n xs) (hb : Below w.heap.size w w') : OwnL E size base w' a c n xs := by
  refine ⟨h.1, ?_⟩
  rcases h.2 with hn | ⟨g, cap, cur, hv, hbg, hg, rest⟩
  · exact .inl hn
  · exact .inr ⟨g, cap, cur, hv, hbg, by rw [hb.block g (Array.getElem?_eq_some_iff.1 hg).1]; exact hg, rest⟩
theorem OwnL.alloc (h : OwnL E size base w a c n xs) (o : Obj) : OwnL E size base (w.alloc o) a c n xs := h.kept ((Below.refl _ w).alloc (Nat.le_refl _) o)
theorem OwnL.base_le {base' : Nat} (h : OwnL E size base w a c n xs) (hb : base' ≤ base) : OwnL E size base' w a c n xs := by
  refine ⟨h.1, ?_⟩
  rcases h.2 with hn | ⟨g, cap, cur, hv, hbg, rest⟩
  · exact .inl hn
  · exact .inr ⟨g, cap, cur, hv, Nat.le_trans hb hbg, rest⟩
theorem OwnL.len (h : OwnL E size base w a c n xs) : xs.length = n * size := h.1
theorem OwnL.isnil (h : OwnL E size base w none c n xs) : n = 0 ∧ c = 0 := by
  rcases h.2 with ⟨h1, h2⟩ | ⟨g, cap, cur, hv, _⟩
  · simp at h1; exact ⟨h2, h1.2⟩
  · simp at hv
theorem OwnL.form (h : OwnL E size base w a c n xs) : (a = none ∧ c = 0 ∧ n = 0 ∧ xs = []) ∨ ∃ g, a = some ⟨g, 0, none⟩ ∧ base ≤ g ∧ g < w.heap.size ∧ n ≤ c ∧ c ≤ maxLen ∧ (∀ j, w.frozen? ⟨g, j, none⟩ = false) ∧ (∀ j u, xs[j]? = some u → w.cell? ⟨g, j, none⟩ = some u) := by
  have hl := h.1
  rcases h.2 with ⟨h1, h2⟩ | ⟨g, cap, cur, hv, hbg, hg, hnc, hcm, hcs, htake⟩
  · simp at h1
    subst h2
    exact .inl ⟨h1.1, h1.2.2, rfl, List.eq_nil_of_length_eq_zero (by simpa using hl)⟩
  · simp only [Value.slice.injEq, true_and] at hv
    obtain ⟨rfl, rfl⟩ := hv
    refine .inr ⟨g, rfl, hbg, (Array.getElem?_eq_some_iff.1 hg).1, hnc, hcm, fun j => ?_, fun j u hu => ?_⟩
    · exact World.ownsRow.frozenAt (xs := xs) h j
    · have := World.ownsRow.cells h (g := g) rfl j u hu
      rwa [addr_add, Nat.zero_add] at this
theorem OwnL.fits (h : OwnL E size base w a c n xs) : n ≤ c ∧ c ≤ maxLen := by
  rcases h.form with ⟨_, rfl, rfl, _⟩ | ⟨g, _, _, _, h1, h2, _⟩
  · exact ⟨Nat.le_refl _, Nat.zero_le _⟩
  · exact ⟨h1, h2⟩

theorem OwnL.lit (cs : Array Value) (hb : base ≤ w.heap.size) (hm : n ≤ maxLen) (hs : cs.size = n * size) : OwnL E size base (w.alloc (.cells cs E)) (some ⟨w.heap.size, 0, none⟩) n n cs.toList :=
  World.ownsRow_lit w cs n hb hm hs
/-- A value that is such a slice. -/
def OwnV (E : TypeId) (size base n : Nat) (xs : List Value) (v : Value) (w : World) : Prop := ∃ a c, v = .slice a n c ∧ OwnL E size base w a c n xs
theorem OwnV.kept {v : Value} (h : OwnV E size base n xs v w) (hb : Below w.heap.size w w') : OwnV E size base n xs v w' :=
  let ⟨a, c, hv, ho⟩ := h
  ⟨a, c, hv, ho.kept hb⟩

theorem OwnL.ints {zs : List Int} {n : Nat} (h : OwnL E 1 base w a c n (zs.map (Value.int .i64))) : IntsAt w a zs ∧ n = zs.length := by
  have hn : n = zs.length := by have := h.len; simp at this; exact this.symm
  refine ⟨fun k hk => ?_, hn⟩
  rcases h.form with ⟨_, _, _, h4⟩ | ⟨g, rfl, _, hlt, _, _, _, hc⟩
  · simp at h4; subst h4; simp at hk
  · exact ⟨g, 0, rfl, hlt, by rw [Nat.zero_add]; exact hc k _ (by simp [hk])⟩

/-- Where the elements of a source lie. -/
def SrcAt (w : World) (ao : Option Addr) (news : List Value) : Prop := ∀ j u, news[j]? = some u → ∃ b off, ao = some ⟨b, off, none⟩ ∧ w.cell? ⟨b, off + j, none⟩ = some u
theorem SrcAt.ints {zs : List Int} (h : IntsAt w a zs) : SrcAt w a (zs.map (Value.int .i64)) := fun j u hu => by
  have hj : j < zs.length := by have := (List.getElem?_eq_some_iff.1 hu).1; simpa using this
  obtain ⟨b, off, ha, _, hc⟩ := h j hj
  refine ⟨b, off, ha, ?_⟩
  rw [hc]
  simp [hj] at hu ⊢
  exact hu
theorem SrcAt.own (h : OwnL E size base w a c n xs) : SrcAt w a xs := fun j u hu => by
  rcases h.form with ⟨_, _, _, rfl⟩ | ⟨g, rfl, _, _, _, _, _, hc⟩
  · simp at hu
  · exact ⟨g, 0, rfl, by rw [Nat.zero_add]; exact hc j u hu⟩
end

section
variable {P : Program} {t E : TypeId} {z : Value} {size bytes : Nat} {w : World} {ops : Array Oper} {rest : List Oper} {o : Oper} {a : Act} {Q : Exit → Act → World → Prop}

theorem below_of_grown {base : Nat} {w w' : World} {v : Value} {e : TypeId} {n : Nat} {xs : List Value} (h : w.ownsRow base e size v n xs) (hb : base ≤ w.heap.size) (hg : w.grownBy w' v.ownBlock) : Below base w w' :=
  (Below.refl base w).grown hg hb fun k hk => (h.lt k hk).1

theorem wpList_app (el : Elem P t E z size bytes) (hgd : o.guard = none) (s x : Operand) (ho : o.op = .call { callee := .builtin .append, args := #[s, x], argTypes := #[t, t] })
    (base : Nat) (a0 : Option Addr) (n c0 : Nat) (xs : List Value) (hs : a.eval s = .slice a0 n c0) (hown : OwnL E size base w a0 c0 n xs)
    (ao : Option Addr) (m c : Nat) (news : List Value) (hx : a.eval x = .slice ao m c) (hnone : ao = none → m = 0 ∧ c = 0) (hl : news.length = m * size) (hsrc : SrcAt w ao news) (h1 : ∀ u ∈ news, u.oneCell' = true)
    (h63 : n + m ≤ maxLen) (hbytes : (n + m) * bytes ≤ 140737488355328) (hbase : base ≤ w.heap.size)
    (h : ∀ a' c' w', OwnL E size base w' a' c' (n + m) (xs ++ news) → Below base w w' → wpList P ops Q rest (a.put o.dst (.slice a' (n + m) c')) w') : wpList P ops Q (o :: rest) a w := by
  obtain ⟨i, hi, hz0, hz1, hz2⟩ := el.info
  cases ao with
  | none =>
    obtain ⟨rfl, rfl⟩ := hnone rfl
    have hn0 : news = [] := List.eq_nil_of_length_eq_zero (by simpa using hl)
    subst hn0
    refine wpList_plain hgd fun K hK => ?_
    have hrun := run_append_owned_none (P := P) (w := w) base t o.type E i size el.slice hi _ n xs hown
    unfold Oper.wp
    simp only [execOp, ho, resolve, invoke, builtin, Sem.run_bind, Sem.run_pure, Result.andThen_ok, List.map_toArray, List.map_cons, List.map_nil, hs, hx, hrun]
    exact hK _ _ (h a0 c0 w (by simpa using hown) (Below.refl _ _))
  | some ad =>
    have hnews : ∀ j u, news[j]? = some u → w.cell? (ad.add j) = some u := fun j u hu => by
      obtain ⟨b, off, ha, hc⟩ := hsrc j u hu
      obtain rfl := Option.some.inj ha
      rw [addr_add]; exact hc
    refine wpList_append_own w hgd s x t ho base E i z size bytes el.slice hi hz0 hz1 hz2 el.cells el.pos (.slice a0 n c0) n xs hs hown ad m c news hx hl hnews h1 h63 hbytes hbase ?_
    intro v' w' h2 h3 h4
    have hv : ∃ a' c', v' = .slice a' (n + m) c' := by
      rcases h2.2 with ⟨rfl, hnm⟩ | ⟨g, cap, cur, rfl, _⟩
      · exact ⟨none, 0, by rw [hnm]⟩
      · exact ⟨_, _, rfl⟩
    obtain ⟨a', c', rfl⟩ := hv
    exact h a' c' w' h2 (below_of_grown hown hbase h3)

/-- What is appended was laid by the statement itself ('append(out, x)'). -/
theorem wpList_app_lit {W : World} {cs : Array Value} {E2 : TypeId} (el : Elem P t E z size bytes) (hgd : o.guard = none) (s x : Operand) (ho : o.op = .call { callee := .builtin .append, args := #[s, x], argTypes := #[t, t] })
    (base : Nat) (a0 : Option Addr) (n c0 : Nat) (xs : List Value) (hs : a.eval s = .slice a0 n c0) (hown : OwnL E size base W a0 c0 n xs)
    (m c : Nat) (hx : a.eval x = .slice (some ⟨W.heap.size, 0, none⟩) m c) (hl : cs.size = m * size) (h1 : ∀ u ∈ cs.toList, u.oneCell' = true)
    (h63 : n + m ≤ maxLen) (hbytes : (n + m) * bytes ≤ 140737488355328) (hbase : base ≤ W.heap.size)
    (h : ∀ a' c' w', OwnL E size base w' a' c' (n + m) (xs ++ cs.toList) → Below base W w' → wpList P ops Q rest (a.put o.dst (.slice a' (n + m) c')) w') : wpList P ops Q (o :: rest) a (W.alloc (.cells cs E2)) := by
  refine wpList_app el hgd s x ho base a0 n c0 xs hs (hown.alloc _) (some ⟨W.heap.size, 0, none⟩) m c cs.toList hx (fun h => by cases h) (by simpa using hl) ?_ h1 h63 hbytes (by simp; omega) ?_
  · intro j u hu
    refine ⟨_, _, rfl, ?_⟩
    rw [World.cell?_alloc_at _ _ _ _ rfl, Nat.zero_add]
    simpa using hu
  · intro a' c' w' h2 h3
    exact h a' c' w' h2 (((Below.refl base W).alloc hbase _).trans h3)
end
end Go.Proofs.Ytnofcpihkglmmaa
