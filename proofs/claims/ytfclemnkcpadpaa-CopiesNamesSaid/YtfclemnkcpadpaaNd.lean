/- CopiesNames: posts that are the law's own, block by block; literals; a drawn region -/
import Derived.Test.YtfclemnkcpadpaaPm
import Derived.Test.YtfclemnkcpadpaaFlo
import Derived.Test.YtfclemnkcpadpaaRj
namespace Go.Proofs.Ytfclemnkcpadpaa
set_option linter.unusedVariables false
set_option linter.unusedSimpArgs false
set_option linter.unnecessarySimpa false
open Go.RowKit Go.Flow

/-- The chapter's post, made between two sizes of the heap. -/
structure TwoIn (w : World) (lo hi s r l m g : Nat) : Prop where
  at_ : TwoAt w s r l m g
  lo5 : lo ≤ s ∧ lo ≤ r ∧ lo ≤ l ∧ lo ≤ m ∧ lo ≤ g
  hi5 : s < hi ∧ r < hi ∧ l < hi ∧ m < hi ∧ g < hi
  nd : [s, r, l, m, g].Nodup
section
variable {w w' : World} {lo hi s r l m g : Nat}
theorem TwoIn.below (h : TwoIn w lo hi s r l m g) (hb : Below w.heap.size w w') : TwoIn w' lo hi s r l m g := ⟨h.at_.below hb, h.lo5, h.hi5, h.nd⟩
theorem TwoIn.other (h : TwoIn w lo hi s r l m g) {x : Nat} (hx : x < lo ∨ hi ≤ x) (k : Nat) (v : Value) : TwoIn (w.setCell ⟨x, k, none⟩ v) lo hi s r l m g := by
  obtain ⟨a1, a2, a3, a4, a5⟩ := h.lo5
  obtain ⟨b1, b2, b3, b4, b5⟩ := h.hi5
  exact ⟨⟨h.at_.cs.other (by omega) k v, h.at_.cr.other (by omega) k v, h.at_.c1.other (by omega) k v, h.at_.c2.other (by omega) k v, h.at_.cg.other (by omega) k v⟩, h.lo5, h.hi5, h.nd⟩
theorem TwoIn.grown (h : TwoIn w lo hi s r l m g) {x : Nat} (hx : x < lo ∨ hi ≤ x) (hg : w.grownBy w' (some x)) : TwoIn w' lo hi s r l m g := by
  obtain ⟨a1, a2, a3, a4, a5⟩ := h.lo5
  obtain ⟨b1, b2, b3, b4, b5⟩ := h.hi5
  exact ⟨⟨h.at_.cs.grown hg (by simp; omega), h.at_.cr.grown hg (by simp; omega), h.at_.c1.grown hg (by simp; omega), h.at_.c2.grown hg (by simp; omega), h.at_.cg.grown hg (by simp; omega)⟩, h.lo5, h.hi5, h.nd⟩
end
theorem twoI_any (w : World) : Calls Try.prog 55 #[] w fun e w' => (∃ s r l m g, e = .returned (.agg #[.slice (some ⟨s, 0, none⟩) 2 2, .slice (some ⟨r, 0, none⟩) 2 2, .int .i64 5]) ∧ TwoIn w' w.heap.size w'.heap.size s r l m g) ∧ Below w.heap.size w w' :=
  (twoC_any w).mono fun _ _ ⟨⟨s, r, l1, l2, g, he, ht, h1, h2, h3, h4, h5, hn⟩, hb⟩ => ⟨⟨s, r, l1, l2, g, he, ht, ⟨h1, h2, h3, h4, h5⟩, ⟨ht.cs.lt, ht.cr.lt, ht.c1.lt, ht.c2.lt, ht.cg.lt⟩, hn⟩, hb⟩

section
variable {w : World}
theorem legs_nil (w : World) (a : Option Addr) : LegsAt w a [] := fun k hk => absurd hk (Nat.not_lt_zero k)
theorem legs_routes {r m : Nat} {T : TypeId} (cr : Cells w r #[.slice none 0 0, .bool true, .slice (some ⟨m, 0, none⟩) 2 2, .bool false] T) (h2 : LegsAt w (some ⟨m, 0, none⟩) [⟨1, 1, [(1, 4)]⟩, ⟨1, 2, []⟩]) : RoutesAt w (some ⟨r, 0, none⟩) legsP.routes := fun k hk => by
  have hk2 : k = 0 ∨ k = 1 := by have : k < 2 := hk; omega
  rcases hk2 with rfl | rfl
  · exact ⟨r, 0, none, 0, rfl, cr.lt, cell_of cr rfl, cell_of (k := 1) cr rfl, legs_nil _ _⟩
  · exact ⟨r, 0, some ⟨m, 0, none⟩, 2, rfl, cr.lt, cell_of (k := 2) cr rfl, cell_of (k := 3) cr rfl, h2⟩
theorem lost_routes {s r l m g : Nat} (h : TwoAt w s r l m g) : RoutesAt w (some ⟨r, 0, none⟩) lostP.routes := fun k hk => by
  obtain rfl : k = 0 := by have : k < 1 := hk; omega
  exact ⟨r, 0, some ⟨l, 0, none⟩, 1, rfl, h.cr.lt, cell_of h.cr rfl, cell_of (k := 1) h.cr rfl, h.legs1⟩
theorem early_routes {r l m g : Nat} {T1 T2 T3 T4 : TypeId} (cr : Cells w r #[.slice (some ⟨l, 0, none⟩) 1 1, .bool true, .slice (some ⟨m, 0, none⟩) 2 2, .bool false] T1) (c1 : Cells w l #[.int .i64 1, .int .i64 3, .slice none 0 0] T2) (c2 : Cells w m #[.int .i64 1, .int .i64 1, .slice (some ⟨g, 0, none⟩) 1 1, .int .i64 1, .int .i64 2, .slice none 0 0] T3) (cg : Cells w g #[.int .i64 1, .int .i64 31] T4) : RoutesAt w (some ⟨r, 0, none⟩) earlyP.routes := fun k hk => by
  have hk2 : k = 0 ∨ k = 1 := by have : k < 2 := hk; omega
  rcases hk2 with rfl | rfl
  · refine ⟨r, 0, some ⟨l, 0, none⟩, 1, rfl, cr.lt, cell_of cr rfl, cell_of (k := 1) cr rfl, fun j hj => ?_⟩
    obtain rfl : j = 0 := by have : j < 1 := hj; omega
    exact ⟨l, 0, none, 0, rfl, c1.lt, cell_of c1 rfl, cell_of (k := 1) c1 rfl, cell_of (k := 2) c1 rfl, Recs2At.nil _ _⟩
  · refine ⟨r, 0, some ⟨m, 0, none⟩, 2, rfl, cr.lt, cell_of (k := 2) cr rfl, cell_of (k := 3) cr rfl, fun j hj => ?_⟩
    have hj2 : j = 0 ∨ j = 1 := by have : j < 2 := hj; omega
    rcases hj2 with rfl | rfl
    · refine ⟨m, 0, some ⟨g, 0, none⟩, 1, rfl, c2.lt, cell_of c2 rfl, cell_of (k := 1) c2 rfl, cell_of (k := 2) c2 rfl, fun i hi => ?_⟩
      obtain rfl : i = 0 := by have : i < 1 := hi; omega
      exact ⟨g, 0, rfl, cg.lt, cell_of cg rfl, cell_of (k := 1) cg rfl⟩
    · exact ⟨m, 0, none, 0, rfl, c2.lt, cell_of (k := 3) c2 rfl, cell_of (k := 4) c2 rfl, cell_of (k := 5) c2 rfl, Recs2At.nil _ _⟩
theorem slow_routes {r l m g : Nat} {T1 T2 T3 T4 : TypeId} (cr : Cells w r #[.slice (some ⟨l, 0, none⟩) 1 1, .bool true, .slice (some ⟨m, 0, none⟩) 3 3, .bool false] T1) (c1 : Cells w l #[.int .i64 6, .int .i64 6, .slice none 0 0] T2) (c2 : Cells w m #[.int .i64 0, .int .i64 6, .slice none 0 0, .int .i64 0, .int .i64 6, .slice none 0 0, .int .i64 0, .int .i64 6, .slice (some ⟨g, 0, none⟩) 1 1] T3) (cg : Cells w g #[.int .i64 0, .int .i64 30] T4) : RoutesAt w (some ⟨r, 0, none⟩) slowP.routes := fun k hk => by
  have hk2 : k = 0 ∨ k = 1 := by have : k < 2 := hk; omega
  rcases hk2 with rfl | rfl
  · refine ⟨r, 0, some ⟨l, 0, none⟩, 1, rfl, cr.lt, cell_of cr rfl, cell_of (k := 1) cr rfl, fun j hj => ?_⟩
    obtain rfl : j = 0 := by have : j < 1 := hj; omega
    exact ⟨l, 0, none, 0, rfl, c1.lt, cell_of c1 rfl, cell_of (k := 1) c1 rfl, cell_of (k := 2) c1 rfl, Recs2At.nil _ _⟩
  · refine ⟨r, 0, some ⟨m, 0, none⟩, 3, rfl, cr.lt, cell_of (k := 2) cr rfl, cell_of (k := 3) cr rfl, fun j hj => ?_⟩
    have hj2 : j = 0 ∨ j = 1 ∨ j = 2 := by have : j < 3 := hj; omega
    rcases hj2 with rfl | rfl | rfl
    · exact ⟨m, 0, none, 0, rfl, c2.lt, cell_of c2 rfl, cell_of (k := 1) c2 rfl, cell_of (k := 2) c2 rfl, Recs2At.nil _ _⟩
    · exact ⟨m, 0, none, 0, rfl, c2.lt, cell_of (k := 3) c2 rfl, cell_of (k := 4) c2 rfl, cell_of (k := 5) c2 rfl, Recs2At.nil _ _⟩
    · refine ⟨m, 0, some ⟨g, 0, none⟩, 1, rfl, c2.lt, cell_of (k := 6) c2 rfl, cell_of (k := 7) c2 rfl, cell_of (k := 8) c2 rfl, fun i hi => ?_⟩
      obtain rfl : i = 0 := by have : i < 1 := hi; omega
      exact ⟨g, 0, rfl, cg.lt, cell_of cg rfl, cell_of (k := 1) cg rfl⟩
theorem lists2 {q : Nat} {T : TypeId} {x y : Option Addr} {l1 l2 : List Int} {cx cy : Nat} (c : Cells w q #[.slice x l1.length cx, .slice y l2.length cy] T) (h1 : IntsAt w x l1) (n1 : x = none → cx = 0) (h2 : IntsAt w y l2) (n2 : y = none → cy = 0) : ListsAt w (some ⟨q, 0, none⟩) [l1, l2] := fun k hk => by
  have hk2 : k = 0 ∨ k = 1 := by have : k < 2 := hk; omega
  rcases hk2 with rfl | rfl
  · exact ⟨q, 0, x, cx, rfl, c.lt, cell_of c rfl, h1, n1⟩
  · exact ⟨q, 0, y, cy, rfl, c.lt, cell_of (k := 1) c rfl, h2, n2⟩
theorem truth2 {q : Nat} {T : TypeId} {x y : Option Addr} {t1 t2 : List (List Int)} {cx cy : Nat} (c : Cells w q #[.slice x t1.length cx, .slice y t2.length cy] T) (h1 : ListsAt w x t1) (n1 : x = none → cx = 0) (h2 : ListsAt w y t2) (n2 : y = none → cy = 0) : TruthAt w (some ⟨q, 0, none⟩) [t1, t2] := fun k hk => by
  have hk2 : k = 0 ∨ k = 1 := by have : k < 2 := hk; omega
  rcases hk2 with rfl | rfl
  · exact ⟨q, 0, x, cx, rfl, c.lt, cell_of c rfl, h1, n1⟩
  · exact ⟨q, 0, y, cy, rfl, c.lt, cell_of (k := 1) c rfl, h2, n2⟩
end
theorem t1_lit (w : World) (T0 T1 T4 : TypeId) : TruthAt ((((((w.alloc (.cells #[.int .i64 1] T0)).alloc (.cells #[.int .i64 1, .int .i64 2] T0)).alloc (.cells #[.slice (some ⟨w.heap.size, 0, none⟩) 1 1, .slice (some ⟨w.heap.size + 1, 0, none⟩) 2 2] T1)).alloc (.cells #[.int .i64 1] T0)).alloc (.cells #[.slice (some ⟨w.heap.size + 1 + 1 + 1, 0, none⟩) 1 1, .slice none 0 0] T1)).alloc (.cells #[.slice (some ⟨w.heap.size + 1 + 1, 0, none⟩) 2 2, .slice (some ⟨w.heap.size + 1 + 1 + 1 + 1, 0, none⟩) 2 2] T4)) (some ⟨w.heap.size + 1 + 1 + 1 + 1 + 1, 0, none⟩) tEx1 := by
  have c0 := ((((((Cells.new w #[.int .i64 1] T0).alloc (.cells #[.int .i64 1, .int .i64 2] T0)).alloc (.cells #[.slice (some ⟨w.heap.size, 0, none⟩) 1 1, .slice (some ⟨w.heap.size + 1, 0, none⟩) 2 2] T1)).alloc (.cells #[.int .i64 1] T0)).alloc (.cells #[.slice (some ⟨w.heap.size + 1 + 1 + 1, 0, none⟩) 1 1, .slice none 0 0] T1)).alloc (.cells #[.slice (some ⟨w.heap.size + 1 + 1, 0, none⟩) 2 2, .slice (some ⟨w.heap.size + 1 + 1 + 1 + 1, 0, none⟩) 2 2] T4))
  refine truth2 (t1 := [[1], [1, 2]]) (t2 := [[1], []]) (Cells.new' _ _ _ _ (by simp)) (lists2 (l1 := [1]) (l2 := [1, 2]) ((((Cells.new' _ _ _ _ (by simp)).alloc _).alloc _).alloc _) (c0.ints _ rfl) (fun h => by cases h) (Cells.ints (((((Cells.new' _ _ _ _ (by simp)).alloc _).alloc _).alloc _).alloc _) _ rfl) (fun h => by cases h)) (fun h => by cases h) (lists2 (l1 := [1]) (l2 := []) ((Cells.new' _ _ _ _ (by simp)).alloc _) (Cells.ints (((Cells.new' _ _ _ _ (by simp)).alloc _).alloc _) _ rfl) (fun h => by cases h) (IntsAt.nil _ _) (fun _ => rfl)) (fun h => by cases h)
theorem t2_lit (w : World) (T0 T1 T4 : TypeId) : TruthAt ((((((w.alloc (.cells #[.int .i64 4] T0)).alloc (.cells #[.int .i64 1, .int .i64 2] T0)).alloc (.cells #[.slice (some ⟨w.heap.size, 0, none⟩) 1 1, .slice (some ⟨w.heap.size + 1, 0, none⟩) 2 2] T1)).alloc (.cells #[.int .i64 1, .int .i64 1] T0)).alloc (.cells #[.slice none 0 0, .slice (some ⟨w.heap.size + 1 + 1 + 1, 0, none⟩) 2 2] T1)).alloc (.cells #[.slice (some ⟨w.heap.size + 1 + 1, 0, none⟩) 2 2, .slice (some ⟨w.heap.size + 1 + 1 + 1 + 1, 0, none⟩) 2 2] T4)) (some ⟨w.heap.size + 1 + 1 + 1 + 1 + 1, 0, none⟩) tEx2 := by
  have c0 := ((((((Cells.new w #[.int .i64 4] T0).alloc (.cells #[.int .i64 1, .int .i64 2] T0)).alloc (.cells #[.slice (some ⟨w.heap.size, 0, none⟩) 1 1, .slice (some ⟨w.heap.size + 1, 0, none⟩) 2 2] T1)).alloc (.cells #[.int .i64 1, .int .i64 1] T0)).alloc (.cells #[.slice none 0 0, .slice (some ⟨w.heap.size + 1 + 1 + 1, 0, none⟩) 2 2] T1)).alloc (.cells #[.slice (some ⟨w.heap.size + 1 + 1, 0, none⟩) 2 2, .slice (some ⟨w.heap.size + 1 + 1 + 1 + 1, 0, none⟩) 2 2] T4))
  refine truth2 (t1 := [[4], [1, 2]]) (t2 := [[], [1, 1]]) (Cells.new' _ _ _ _ (by simp)) (lists2 (l1 := [4]) (l2 := [1, 2]) ((((Cells.new' _ _ _ _ (by simp)).alloc _).alloc _).alloc _) (c0.ints _ rfl) (fun h => by cases h) (Cells.ints (((((Cells.new' _ _ _ _ (by simp)).alloc _).alloc _).alloc _).alloc _) _ rfl) (fun h => by cases h)) (fun h => by cases h) (lists2 (l1 := []) (l2 := [1, 1]) ((Cells.new' _ _ _ _ (by simp)).alloc _) (IntsAt.nil _ _) (fun _ => rfl) (Cells.ints (((Cells.new' _ _ _ _ (by simp)).alloc _).alloc _) _ rfl) (fun h => by cases h)) (fun h => by cases h)
def TupE (E : Int) (v : Value) (_ : World) : Prop := ∃ a n c, v = .tuple #[.slice a n c, .int .i64 E]
theorem TupE.kept {E : Int} {v : Value} {w w' : World} (h : TupE E v w) (_ : Below w.heap.size w w') : TupE E v w' := h
def SlE (v : Value) (_ : World) : Prop := ∃ a n c, v = .slice a n c
theorem SlE.kept {v : Value} {w w' : World} (h : SlE v w) (_ : Below w.heap.size w w') : SlE v w' := h
def ErrE (E : Int) (v : Value) (_ : World) : Prop := v = .int .i64 E
theorem ErrE.kept {E : Int} {v : Value} {w w' : World} (h : ErrE E v w) (_ : Below w.heap.size w w') : ErrE E v w' := h
def TwoX (v : Value) (w : World) : Prop := ∃ a c ar cr, v = .agg #[.slice a 2 c, .slice ar 2 cr, .int .i64 5] ∧ IntsAt w a twoP.sends ∧ RoutesAt w ar twoP.routes
theorem TwoX.kept {v : Value} {w w' : World} (h : TwoX v w) (hb : Below w.heap.size w w') : TwoX v w' := let ⟨a, c, ar, cr, e, x, y⟩ := h; ⟨a, c, ar, cr, e, x.below hb, y.below hb⟩
def NineX (v : Value) (w : World) : Prop := ∃ a c, v = .slice a 9 c ∧ EntsAt w a nineEx
theorem NineX.kept {v : Value} {w w' : World} (h : NineX v w) (hb : Below w.heap.size w w') : NineX v w' := let ⟨a, c, e, x⟩ := h; ⟨a, c, e, x.below hb⟩
theorem make_ents9 (W : World) : Sem.run Try.prog (Instr.makeSlice 36 (.int .i64 9) (.int .i64 9)) W = .ok (.slice (some ⟨W.heap.size, 0, none⟩) 9 9) (W.alloc (.cells (madeCells (Value.agg #[.int .i64 0, .int .i64 0, .bool false]).cells (9 * 3)) 82)) := by
  obtain ⟨i, hi, h0, h1, h2⟩ := el_centries.info
  have := run_make (P := Try.prog) W 36 82 i (.agg #[.int .i64 0, .int .i64 0, .bool false]) el_centries.slice hi h0 .i64 .i64 9 9 (by omega) (Int.le_refl _) (by rw [h2]; omega) (by omega)
  rw [h1] at this
  exact this

section
variable {P : Program} {t E : TypeId} {z : Value} {size bytes : Nat} {w : World} {ops : Array Oper} {rest : List Oper} {o : Oper} {a : Act} {Q : Exit → Act → World → Prop}
/-- append where there is room: in place. -/
theorem wpList_room (el : Elem P t E z size bytes) (hgd : o.guard = none) (s x : Operand) (ho : o.op = .call { callee := .builtin .append, args := #[s, x], argTypes := #[t, t] })
    (b off sLen sCap : Nat) (hs : a.eval s = .slice (some ⟨b, off, none⟩) sLen sCap) (ad : Addr) (m c : Nat) (news : List Value) (hx : a.eval x = .slice (some ad) m c) (hl : news.length = m * size) (hnews : ∀ j u, news[j]? = some u → w.cell? (ad.add j) = some u) (h1 : ∀ u ∈ news, u.oneCell' = true)
    (hroom : sLen + m ≤ sCap) (hc : ∀ j, j < news.length → (w.cell? ⟨b, off + sLen * size + j, none⟩).isSome = true) (hf : ∀ j, j < news.length → w.frozen? ⟨b, off + sLen * size + j, none⟩ = false)
    (h : wpList P ops Q rest (a.put o.dst (.slice (some ⟨b, off, none⟩) (sLen + m) sCap)) (w.setCells b (off + sLen * size) news)) : wpList P ops Q (o :: rest) a w := by
  obtain ⟨i, hi, hz0, hz1, hz2⟩ := el.info
  subst hz1
  have hr := run_append_room_cells (P := P) (w := w) t o.type E i el.slice hi b off sLen sCap ad m c news hl hnews h1 hroom hc hf
  refine wpList_plain hgd fun K hK => ?_
  unfold Oper.wp
  simp only [execOp, ho, resolve, invoke, builtin, Sem.run_bind, Sem.run_pure, Result.andThen_ok, List.map_toArray, List.map_cons, List.map_nil, hs, hx, hr]
  exact hK _ _ h
end
def LegX (B : Nat) (v : Value) (w : World) : Prop := ∃ g, v = .agg #[.int .i64 0, .int .i64 6, .slice (some ⟨g, 0, none⟩) 1 1] ∧ B ≤ g ∧ Cells w g #[.int .i64 0, .int .i64 30] 68
theorem LegX.kept {B : Nat} {v : Value} {w w' : World} (h : LegX B v w) (hb : Below w.heap.size w w') : LegX B v w' := let ⟨g, e, x, y⟩ := h; ⟨g, e, x, y.below hb⟩
def LegsC (w : World) (B m g : Nat) : Prop := B ≤ m ∧ B ≤ g ∧ Cells w m #[.int .i64 0, .int .i64 6, .slice none 0 0, .int .i64 0, .int .i64 6, .slice none 0 0, .int .i64 0, .int .i64 6, .slice (some ⟨g, 0, none⟩) 1 1] 105 ∧ Cells w g #[.int .i64 0, .int .i64 30] 68
theorem LegsC.below {w w' : World} {B m g : Nat} (h : LegsC w B m g) (hb : Below w.heap.size w w') : LegsC w' B m g := ⟨h.1, h.2.1, h.2.2.1.below hb, h.2.2.2.below hb⟩
def LegsX (B : Nat) (v : Value) (w : World) : Prop := ∃ m g, v = .slice (some ⟨m, 0, none⟩) 3 3 ∧ LegsC w B m g
theorem LegsX.kept {B : Nat} {v : Value} {w w' : World} (h : LegsX B v w) (hb : Below w.heap.size w w') : LegsX B v w' := let ⟨m, g, e, x⟩ := h; ⟨m, g, e, x.below hb⟩
def RouX (B : Nat) (v : Value) (w : World) : Prop := ∃ m g, v = .agg #[.slice (some ⟨m, 0, none⟩) 3 3, .bool false] ∧ LegsC w B m g
theorem RouX.kept {B : Nat} {v : Value} {w w' : World} (h : RouX B v w) (hb : Below w.heap.size w w') : RouX B v w' := let ⟨m, g, e, x⟩ := h; ⟨m, g, e, x.below hb⟩
def RousX (B : Nat) (v : Value) (w : World) : Prop := ∃ q m g, v = .slice (some ⟨q, 0, none⟩) 1 1 ∧ B ≤ q ∧ Cells w q #[.slice (some ⟨m, 0, none⟩) 3 3, .bool false] 108 ∧ LegsC w B m g
theorem RousX.kept {B : Nat} {v : Value} {w w' : World} (h : RousX B v w) (hb : Below w.heap.size w w') : RousX B v w' := let ⟨q, m, g, e, x, y, z⟩ := h; ⟨q, m, g, e, x, y.below hb, z.below hb⟩

set_option maxRecDepth 100000 in
set_option maxHeartbeats 4000000 in
theorem reg24 (Q : Exit → Act → World → Prop) (tm : Array Value) (df : List Deferred) (w : World) (hs : tm.size = 289)
    (h : ∀ v1 v2 v3 v4 v5 v6 a n c w', Below w.heap.size w w' → Q .normal ⟨((((((((((((((((tm.setIfInBounds 217 undef).setIfInBounds 218 undef).setIfInBounds 219 undef).setIfInBounds 216 undef).setIfInBounds 220 undef).setIfInBounds 221 undef).setIfInBounds 28 undef).setIfInBounds 29 undef).setIfInBounds 217 v1).setIfInBounds 218 v2).setIfInBounds 219 v3).setIfInBounds 216 v4).setIfInBounds 220 v5).setIfInBounds 221 v6).setIfInBounds 28 (.slice a n c)).setIfInBounds 29 (.int .i64 3)), df⟩ w') :
    Code.wp Try.prog ((Try.f15.body.bind (regOf 24)).getD .skip) Q ⟨tm, df⟩ w := by
  conv => arg 2; whnf
  (refine wp_region_seq 8 [] [] 289 [false, false, false, false, false, false, false, false] [TwoX, NineX, TupE 3, TupE 3, SlE, ErrE 3, SlE, ErrE 3] (by kernel_rfl) (by kernel_rfl) (by simpa using hs) (mono_cons (fun v w w' h hb => h.kept hb) (mono_cons (fun v w w' h hb => h.kept hb) (mono_cons (fun v w w' h hb => h.kept hb) (mono_cons (fun v w w' h hb => h.kept hb) (mono_cons (fun v w w' h hb => h.kept hb) (mono_cons (fun v w w' h hb => h.kept hb) (mono_cons (fun v w w' h hb => h.kept hb) (mono_cons (fun v w w' h hb => h.kept hb) mono_nil)))))))) ?_; simp only [pickOps, List.filterMap_cons, List.filterMap_nil, List.getElem?_toArray, List.getElem?_cons_succ, List.getElem?_cons_zero]; (repeat (refine wpFl_step _ rfl (fun w => (by go_simp; rfl)) ?_)); refine wpFl_nil ?_; simp only [maskOps, dummy, Act.put, List.setIfInBounds_toArray, List.set_cons_zero, List.set_cons_succ, List.take_succ_cons, List.take_zero, List.drop_succ_cons, List.drop_zero]; (repeat (refine wpQB_step (fun K hK => ?_); go_simp; first | (refine hK _ ?_; clear hK K) | (apply Exists.intro; refine ⟨fun ex => ?_, hK _ ?_⟩; (fail); clear hK K))); refine wpQB_nil ?_; simp only [relObl2_t, relObl2_f, relObl2_n, under_c, under_n, relEnd_t, relEnd_f, relEnd_n, and_true, List.nil_append, List.cons_append])
  refine ⟨⟨?_, ?_, ?_, ?_, ?_, ?_, ?_, ?_⟩, ?_⟩
  · intro e
    refine ⟨?_⟩
    go_simp
    refine (two_any e.to).mono ?_
    rintro _ _ ⟨⟨a, c, ar, cr, rfl, x, y⟩, b⟩
    exact ⟨b, a, c, ar, cr, rfl, x, y⟩
  · intro e v1 h1
    have mk := make_ents9 e.to
    refine ⟨?_⟩
    go_simp
    exact ⟨(Below.refl _ _).alloc (Nat.le_refl _) _, _, _, rfl, ents_lit _ _ _ nineEx (by kernel_rfl)⟩
  · intro e v1 h1 v2 h2
    obtain ⟨a, c, ar, cr, rfl, x, y⟩ := h1 (by kernel_rfl)
    obtain ⟨al, cl, rfl, i⟩ := h2 (by kernel_rfl)
    refine ⟨?_⟩
    go_simp
    refine (exOddN a c ar cr al cl e.to x y i).mono ?_
    rintro _ _ ⟨⟨_, _, rfl⟩, b⟩
    exact ⟨b, _, _, _, rfl⟩
  · intro e v1 _ v2 _ v3 h3
    obtain ⟨a, n, c, rfl⟩ := h3 (by kernel_rfl)
    refine ⟨?_⟩
    go_simp
    exact ⟨Below.refl _ _, a, n, c, rfl⟩
  · intro e v1 _ v2 _ v3 _ v4 h4
    obtain ⟨a, n, c, rfl⟩ := h4 (by kernel_rfl)
    refine ⟨?_⟩
    go_simp
    exact ⟨Below.refl _ _, a, n, c, rfl⟩
  · intro e v1 _ v2 _ v3 _ v4 h4 v5 h5
    obtain ⟨a, n, c, rfl⟩ := h4 (by kernel_rfl)
    refine ⟨?_⟩
    go_simp
    exact ⟨Below.refl _ _, rfl⟩
  · intro e v1 _ v2 _ v3 _ v4 h4 v5 h5 v6 h6
    obtain ⟨a, n, c, rfl⟩ := h5 (by kernel_rfl)
    refine ⟨?_⟩
    go_simp
    exact ⟨Below.refl _ _, a, n, c, rfl⟩
  · intro e v1 _ v2 _ v3 _ v4 h4 v5 h5 v6 h6 v7 h7
    obtain rfl := h6 (by kernel_rfl)
    refine ⟨?_⟩
    go_simp
    exact ⟨Below.refl _ _, rfl⟩
  rintro e v1 _ v2 _ v3 _ v4 _ v5 _ v6 _ v7 ⟨a7, n7, c7, rfl⟩ v8 h8
  obtain rfl : v8 = .int .i64 3 := h8
  refine ⟨?_⟩
  simp only [wpList, Exit.then, Act.put]
  exact h v1 v2 v3 v4 v5 v6 a7 n7 c7 e.to e.below
end Go.Proofs.Ytfclemnkcpadpaa
