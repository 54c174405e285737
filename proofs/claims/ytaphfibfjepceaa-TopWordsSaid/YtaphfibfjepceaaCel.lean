/- Blocks known whole; lists that a call made; regions over any frame. -/
import Derived.Test.YtaphfibfjepceaaOwn
import Derived.Test.YtaphfibfjepceaaFlo
import Derived.Laws.EntriesVeiled
import Derived.RangeFuncRecord
import Derived.OneCell
import Derived.Outline
namespace Go.Proofs.Ytaphfibfjepceaa
set_option linter.unusedVariables false
set_option linter.unusedSimpArgs false
set_option linter.unnecessarySimpa false
open Go.RowKit Go.Flow

theorem cell_lt {w : World} {a : Addr} {v : Value} (h : w.cell? a = some v) : a.block < w.heap.size := by
  by_cases e : a.block < w.heap.size
  · exact e
  · have : w.heap[a.block]? = none := Array.getElem?_eq_none (by omega)
    simp [World.cell?, this] at h
theorem below_cell {w w' : World} (hb : Below w.heap.size w w') {a : Addr} {v : Value} (hc : w.cell? a = some v) : w'.cell? a = some v := (hb.cell (cell_lt hc)).trans hc
theorem cell_alloc_old (w : World) (o : Obj) (a : Addr) (h : a.block < w.heap.size) : (w.alloc o).cell? a = w.cell? a := ((Below.refl w.heap.size w).alloc (Nat.le_refl _) o).cell h
theorem ck_alloc {w : World} {o : Obj} {a : Addr} {v : Value} (h : w.cell? a = some v) : (w.alloc o).cell? a = some v := below_cell ((Below.refl w.heap.size w).alloc (Nat.le_refl _) o) h
theorem ck_drew {w : World} {a : Addr} {v : Value} (h : w.cell? a = some v) : w.drew.cell? a = some v := h
theorem ck_set {w : World} {p a : Addr} {u v : Value} (hne : a.block ≠ p.block) (h : w.cell? a = some v) : (w.setCell p u).cell? a = some v := by
  rw [World.cell?_setCell_other _ _ _ _ (fun e => hne (by rw [e]))]; exact h
/-- A block of cells, known whole. -/
def Cells (w : World) (g : Nat) (cs : Array Value) (T : TypeId) : Prop := w.heap[g]? = some (.cells cs T (0, 0))
theorem Cells.lt {w : World} {g : Nat} {cs : Array Value} {T : TypeId} (h : Cells w g cs T) : g < w.heap.size := (Array.getElem?_eq_some_iff.1 h).1
theorem Cells.cell {w : World} {g : Nat} {cs : Array Value} {T : TypeId} (h : Cells w g cs T) (k : Nat) : w.cell? ⟨g, k, none⟩ = cs[k]? := by simp [World.cell?, show w.heap[g]? = _ from h]
theorem Cells.frozen {w : World} {g : Nat} {cs : Array Value} {T : TypeId} (h : Cells w g cs T) (k : Nat) : w.frozen? ⟨g, k, none⟩ = false := by simp [World.frozen?, show w.heap[g]? = _ from h]
theorem Cells.new (w : World) (cs : Array Value) (T : TypeId) : Cells (w.alloc (.cells cs T)) w.heap.size cs T := World.alloc_heap_new w _
theorem Cells.below {w w' : World} {g : Nat} {cs : Array Value} {T : TypeId} (h : Cells w g cs T) (hb : Below w.heap.size w w') : Cells w' g cs T := (hb.block g h.lt).trans h
theorem Cells.set {w : World} {g : Nat} {cs : Array Value} {T : TypeId} (h : Cells w g cs T) (k : Nat) (v : Value) : Cells (w.setCell ⟨g, k, none⟩ v) g (cs.setIfInBounds k v) T := by
  obtain ⟨hlt, hk⟩ := Array.getElem?_eq_some_iff.1 h
  show (w.heap.modify g _)[g]? = _
  rw [Array.getElem?_eq_getElem (by rw [Array.size_modify]; exact hlt), Array.getElem_modify_self, hk]
  rfl
theorem Cells.grown {w w' : World} {row : Option Nat} {g : Nat} {cs : Array Value} {T : TypeId} (h : Cells w g cs T) (hg : w.grownBy w' row) (hne : some g ≠ row) : Cells w' g cs T := (hg.block g h.lt hne).trans h
theorem Cells.not_row {w : World} {g : Nat} {cs : Array Value} {T : TypeId} (h : Cells w g cs T) {E : TypeId} (hte : T ≠ E) {size base n c : Nat} {a : Option Addr} {xs : List Value} (hr : OwnL E size base w a c n xs) : some g ≠ (Value.slice a n c).ownBlock := by
  rcases hr.2 with ⟨h1, _⟩ | ⟨g', cap, cur, h1, _, hgb, _⟩
  · rw [h1]; simp [Value.ownBlock]
  · rw [h1]
    intro e'
    obtain rfl : g = g' := by simpa [Value.ownBlock] using e'
    have := (show w.heap[g]? = _ from h).symm.trans hgb
    simp at this
    exact hte this.2

theorem Cells.src {w : World} {g : Nat} {cs : Array Value} {T : TypeId} (h : Cells w g cs T) : SrcAt w (some ⟨g, 0, none⟩) cs.toList := fun j u hu => ⟨g, 0, rfl, by rw [Nat.zero_add, h.cell]; simpa using hu⟩
/-- a pointer to a new block -/
def PtrV (B : Nat) (cs : Array Value) (T : TypeId) (v : Value) (w : World) : Prop := ∃ g, v = .pointer (some ⟨g, 0, none⟩) ∧ B ≤ g ∧ Cells w g cs T
theorem PtrV.kept {B : Nat} {cs : Array Value} {T : TypeId} {v : Value} {w w' : World} (h : PtrV B cs T v w) (hb : Below w.heap.size w w') : PtrV B cs T v w' := let ⟨g, h1, h2, h3⟩ := h; ⟨g, h1, h2, h3.below hb⟩
/-- a literal slice in a new block -/
def LitV (B n : Nat) (cs : Array Value) (T : TypeId) (v : Value) (w : World) : Prop := ∃ g, v = .slice (some ⟨g, 0, none⟩) n n ∧ B ≤ g ∧ Cells w g cs T
theorem LitV.kept {B n : Nat} {cs : Array Value} {T : TypeId} {v : Value} {w w' : World} (h : LitV B n cs T v w) (hb : Below w.heap.size w w') : LitV B n cs T v w' := let ⟨g, h1, h2, h3⟩ := h; ⟨g, h1, h2, h3.below hb⟩

theorem OwnL.moved {E : TypeId} {size base : Nat} {w w' : World} {a : Option Addr} {c n : Nat} {xs : List Value} {g : Nat} (h : OwnL E size base w a c n xs) (hz : w.heap.size ≤ w'.heap.size) (hb : ∀ b, b ≠ g → w'.heap[b]? = w.heap[b]?) (hne : some g ≠ (Value.slice a n c).ownBlock) : OwnL E size base w' a c n xs := by
  refine ⟨h.1, ?_⟩
  rcases h.2 with hn | ⟨g', cap, cur, hv, hbg, hg, rest⟩
  · exact .inl hn
  · refine .inr ⟨g', cap, cur, hv, hbg, ?_, rest⟩
    rw [hb g' (fun e => hne (by rw [hv, e]; rfl))]
    exact hg
section
variable {P : Program} {t E : TypeId} {z : Value} {size bytes : Nat} {w : World} {ops : Array Oper} {rest : List Oper} {o : Oper} {a : Act} {Q : Exit → Act → World → Prop}
/-- 'append': nothing turns but the list's own row. -/
theorem wpList_app_g (el : Elem P t E z size bytes) (hgd : o.guard = none) (s x : Operand) (ho : o.op = .call { callee := .builtin .append, args := #[s, x], argTypes := #[t, t] })
    (base : Nat) (a0 : Option Addr) (n c0 : Nat) (xs : List Value) (hs : a.eval s = .slice a0 n c0) (hown : OwnL E size base w a0 c0 n xs)
    (ao : Option Addr) (m c : Nat) (news : List Value) (hx : a.eval x = .slice ao m c) (hnone : ao = none → m = 0 ∧ c = 0) (hl : news.length = m * size) (hsrc : SrcAt w ao news) (h1 : ∀ u ∈ news, u.oneCell' = true)
    (h63 : n + m ≤ maxLen) (hbytes : (n + m) * bytes ≤ 140737488355328) (hbase : base ≤ w.heap.size)
    (h : ∀ a' c' w', OwnL E size base w' a' c' (n + m) (xs ++ news) → Below base w w' → w.grownBy w' (Value.slice a0 n c0).ownBlock → wpList P ops Q rest (a.put o.dst (.slice a' (n + m) c')) w') : wpList P ops Q (o :: rest) a w := by
  obtain ⟨i, hi, hz0, hz1, hz2⟩ := el.info
  cases ao with
  | none =>
    obtain ⟨rfl, rfl⟩ := hnone rfl
    have hn0 : news = [] := List.eq_nil_of_length_eq_zero (by simpa using hl)
    subst hn0
    refine wpList_plain hgd fun K hK => ?_
    have hrun := run_append_owned_none (P := P) (w := w) base t o.type E i size el.slice hi _ n xs hown
    unfold Oper.wp
    simp only [execOp, ho, resolve, invoke, builtin, Sem.run_bind, Sem.run_pure, Result.andThen_ok, List.map_toArray, List.map_cons, List.map_nil, hs, hx, hrun]
    exact hK _ _ (h a0 c0 w (by simpa using hown) (Below.refl _ _) (World.grownBy.refl _ _))
  | some ad =>
    have hnews : ∀ j u, news[j]? = some u → w.cell? (ad.add j) = some u := fun j u hu => by
      obtain ⟨b, off, ha, hc⟩ := hsrc j u hu
      obtain rfl := Option.some.inj ha
      rw [addr_add]; exact hc
    refine wpList_append_own w hgd s x t ho base E i z size bytes el.slice hi hz0 hz1 hz2 el.cells el.pos (.slice a0 n c0) n xs hs hown ad m c news hx hl hnews h1 h63 hbytes hbase ?_
    intro v' w' h2 h3 h4
    have hv : ∃ a' c', v' = .slice a' (n + m) c' := by
      rcases h2.2 with ⟨rfl, hnm⟩ | ⟨g, cap, cur, rfl, _⟩
      · exact ⟨none, 0, by rw [hnm]⟩
      · exact ⟨_, _, rfl⟩
    obtain ⟨a', c', rfl⟩ := hv
    exact h a' c' w' h2 (below_of_grown hown hbase h3) h3
end
theorem OwnL.grown {E : TypeId} {size base : Nat} {w w' : World} {a : Option Addr} {c n : Nat} {xs : List Value} {row : Option Nat} (h : OwnL E size base w a c n xs) (hg : w.grownBy w' row) (hne : ∀ g, row = some g → (Value.slice a n c).ownBlock ≠ some g) : OwnL E size base w' a c n xs := by
  refine ⟨h.1, ?_⟩
  rcases h.2 with hn | ⟨g', cap, cur, hv, hbg, hg', rest⟩
  · exact .inl hn
  · refine .inr ⟨g', cap, cur, hv, hbg, ?_, rest⟩
    rw [hg.block g' (Array.getElem?_eq_some_iff.1 hg').1 (fun e => hne g' e.symm (by rw [hv]; rfl))]
    exact hg'
/-- Rows of two element types lie apart. -/
theorem OwnL.apart {E E' : TypeId} (hE : E ≠ E') {size size' base base' : Nat} {w : World} {a a' : Option Addr} {c n c' n' : Nat} {xs xs' : List Value} (h : OwnL E size base w a c n xs) (k : OwnL E' size' base' w a' c' n' xs') : ∀ g, (Value.slice a' n' c').ownBlock = some g → (Value.slice a n c).ownBlock ≠ some g := by
  intro g hg hg2
  rcases h.2 with ⟨h1, _⟩ | ⟨g1, cap, cur, h1, _, hgb, _⟩
  · rw [h1] at hg2; simp [Value.ownBlock] at hg2
  · rcases k.2 with ⟨k1, _⟩ | ⟨g2, cap2, cur2, k1, _, kgb, _⟩
    · rw [k1] at hg; simp [Value.ownBlock] at hg
    · rw [h1] at hg2; rw [k1] at hg
      simp [Value.ownBlock] at hg hg2
      subst hg; subst hg2
      rw [hgb] at kgb
      simp at kgb
      exact hE kgb.2
theorem results_cell1 {fn : Func} {c : Tmp} {T : TypeId} {tmps : Array Value} {P : Program} {w : World} {a : Addr} {v : Value} (h : fn.results = #[.cell c T]) (ha : tmps.getD c undef = .pointer (some a))
    (hv : (loadVar T a).run P w = .ok v w) : (results fn tmps).run P w = .ok v w := by
  rw [Array.getD_eq_getD_getElem?] at ha
  simp [results, h, ha, asAddr, hv]
theorem Cells.other {w : World} {g g' : Nat} {cs : Array Value} {T : TypeId} (h : Cells w g cs T) (hne : g ≠ g') (k : Nat) (v : Value) : Cells (w.setCell ⟨g', k, none⟩ v) g cs T :=
  (Below.heap_setCell w ⟨g', k, none⟩ v g hne).trans h
theorem own_other {E : TypeId} {base size : Nat} {w : World} {g c n : Nat} {xs : List Value} (h : OwnL E size base w (some ⟨g, 0, none⟩) c n xs) {p : Addr} (hp : p.block ≠ g) (u : Value) : OwnL E size base (w.setCell p u) (some ⟨g, 0, none⟩) c n xs :=
  ownsRow_setCell_other h (fun e => hp (by simp [Value.ownBlock] at e; exact e.symm)) u
theorem Cells.ints {w : World} {g : Nat} {cs : Array Value} {T : TypeId} (h : Cells w g cs T) (l : List Int) (hl : cs.toList = l.map (Value.int .i64)) : IntsAt w (some ⟨g, 0, none⟩) l := fun k hk => by
  refine ⟨g, 0, rfl, h.lt, ?_⟩
  rw [Nat.zero_add, h.cell, ← Array.getElem?_toList, hl]
  simp [hk]
theorem Cells.alloc {w : World} {g : Nat} {cs : Array Value} {T : TypeId} (h : Cells w g cs T) (o : Obj) : Cells (w.alloc o) g cs T := h.below ((Below.refl _ _).alloc (Nat.le_refl _) _)
theorem Cells.new' (w : World) (cs : Array Value) (T : TypeId) (B : Nat) (hB : B = w.heap.size) : Cells (w.alloc (.cells cs T)) B cs T := by subst hB; exact Cells.new w cs T
/-- Blocks known whole. -/
def Fv (w : World) (l : List (Nat × Array Value × TypeId)) : Prop := (∀ x ∈ l, Cells w x.1 x.2.1 x.2.2) ∧ (l.map (·.1)).Nodup
theorem Fv.get {w : World} {l : List (Nat × Array Value × TypeId)} (F : Fv w l) (i : Nat) {x : Nat × Array Value × TypeId} (h : l[i]? = some x) : Cells w x.1 x.2.1 x.2.2 := F.1 x (List.mem_of_getElem? h)
theorem Fv.below {w w' : World} {l : List (Nat × Array Value × TypeId)} (F : Fv w l) (hb : Below w.heap.size w w') : Fv w' l := ⟨fun x hx => (F.1 x hx).below hb, F.2⟩
theorem Fv.set {w : World} {l l' : List (Nat × Array Value × TypeId)} (F : Fv w l) (i k : Nat) (v : Value) {g : Nat} {cs : Array Value} {T : TypeId} (h : l[i]? = some (g, cs, T)) (h' : l.set i (g, cs.setIfInBounds k v, T) = l') : Fv (w.setCell ⟨g, k, none⟩ v) l' := by
  subst h'
  obtain ⟨hi, he⟩ := List.getElem?_eq_some_iff.1 h
  refine ⟨fun x hx => ?_, ?_⟩
  · obtain ⟨j, hj⟩ := List.getElem?_of_mem hx
    rw [List.getElem?_set] at hj
    by_cases hij : i = j
    · subst hij
      simp [hi] at hj
      subst hj
      exact (F.get i h).set k v
    · rw [if_neg hij] at hj
      have hx' := F.get j hj
      refine hx'.other ?_ k v
      intro hg
      have hn := F.2
      obtain ⟨hj', hje⟩ := List.getElem?_eq_some_iff.1 hj
      have hp := List.pairwise_iff_getElem.1 hn
      have hi2 : i < (l.map (·.1)).length := by simpa using hi
      have hj2 : j < (l.map (·.1)).length := by simpa using hj'
      rcases Nat.lt_or_gt_of_ne hij with hl | hl
      · exact hp i j hi2 hj2 hl (by simp [he, hje, hg])
      · exact hp j i hj2 hi2 hl (by simp [he, hje, hg])
  · have : (l.set i (g, cs.setIfInBounds k v, T)).map (·.1) = l.map (·.1) := by
      rw [List.map_set]
      have h2 : (l.map (·.1))[i]? = some g := by simp [h]
      obtain ⟨hi2, he2⟩ := List.getElem?_eq_some_iff.1 h2
      have h3 := List.set_getElem_self hi2
      rw [he2] at h3
      exact h3
    rw [this]; exact F.2
theorem Fv.alloc {w : World} {l l' : List (Nat × Array Value × TypeId)} (F : Fv w l) (cs : Array Value) (T : TypeId) {M : Nat} (hM : M = w.heap.size) (h : l ++ [(M, cs, T)] = l') : Fv (w.alloc (.cells cs T)) l' := by
  subst hM h
  refine ⟨fun x hx => ?_, ?_⟩
  · rcases List.mem_append.1 hx with hx | hx
    · exact (F.1 x hx).below ((Below.refl _ _).alloc (Nat.le_refl _) _)
    · simp at hx; subst hx; exact Cells.new w cs T
  · rw [List.map_append, List.nodup_append]
    refine ⟨F.2, by simp, fun a ha b hb => ?_⟩
    obtain ⟨x, hx, rfl⟩ := List.mem_map.1 ha
    simp at hb
    subst hb
    exact Nat.ne_of_lt (F.1 x hx).lt
section
variable {P : Program} {ops : Array Oper} {w : World} {m : List Bool} {o : Oper} {l : List Oper} {R : Value → World → Prop} {Rs : List (Value → World → Prop)} {acc : List (Option Tmp × (Value → World → Prop))} {a : Act} {d : Option Tmp} {K : Act → World → Prop} {Q : Act → Prop}
theorem relObl2_t : relObl2 P ops w (true :: m) (o :: l) Rs acc a ↔ relObl2 P ops w m l Rs acc a := ⟨fun h => h, fun h => h⟩
/-- 'gives' behind a wall: nothing looks through it. -/
structure Gv (P : Program) (o : Oper) (a : Act) (w : World) (S : Value → World → Prop) : Prop where
  out : o.gives P a w S
theorem under_mono {K K' : Act → World → Prop} (hk : ∀ a w, K a w → K' a w) : ∀ (acc : List (Option Tmp × (Value → World → Prop))) (a : Act), under ops o acc K a w → under ops o acc K' a w
  | [], a, h => hk a w h
  | (_, _) :: acc, _, h => fun v hv => under_mono hk acc _ (h v hv)
theorem relObl2_f : relObl2 P ops w (false :: m) (o :: l) (R :: Rs) acc a ↔ (∀ e : Ext w, under ops o acc (fun a' w' => Gv P o a' w' fun v w'' => Below w'.heap.size w' w'' ∧ R v w'') a e.to) ∧ relObl2 P ops w m l Rs (acc ++ [(o.dst, R)]) a :=
  ⟨fun h => ⟨fun e => under_mono (fun _ _ h => ⟨h⟩) acc a (h.1 e), h.2⟩, fun h => ⟨fun e => under_mono (fun _ _ h => h.out) acc a (h.1 e), h.2⟩⟩
theorem relObl2_n : relObl2 P ops w [] l Rs acc a ↔ True := ⟨fun _ => trivial, fun _ => by unfold relObl2; trivial⟩
theorem under_c : under ops o ((d, R) :: acc) K a w ↔ ∀ v, (looksB ops o d = true → R v w) → under ops o acc K (a.put d v) w := ⟨fun h => h, fun h => h⟩
theorem under_n : under ops o [] K a w ↔ K a w := ⟨fun h => h, fun h => h⟩
theorem relEnd_t : relEnd Q w (true :: m) (o :: l) Rs a ↔ relEnd Q w m l Rs a := ⟨fun h => h, fun h => h⟩
theorem relEnd_f : relEnd Q w (false :: m) (o :: l) (R :: Rs) a ↔ ∀ v, R v w → relEnd Q w m l Rs (a.put o.dst v) := ⟨fun h => h, fun h => h⟩
structure Wl (p : Prop) : Prop where
  out : p
theorem relEnd_n : relEnd Q w [] l Rs a ↔ Wl (Q a) := ⟨fun h => ⟨by unfold relEnd at h; exact h⟩, fun h => by unfold relEnd; exact h.out⟩
end
/-- The region with a number, out of a body. -/
def regOf (id : Nat) : Code → Option Code
  | .region i ops d => if i = id then some (.region i ops d) else none
  | .loop c => regOf id c
  | .seq a b => match regOf id a with
    | some c => some c
    | none => regOf id b
  | .block _ c => regOf id c
  | .scope c => regOf id c
  | .cond _ a b => match regOf id a with
    | some c => some c
    | none => regOf id b
  | _ => none


end Go.Proofs.Ytaphfibfjepceaa
