/- copies: Odd's closure -/
import Derived.Test.YtfclemnkcpadpaaKx
namespace Go.Proofs.Ytfclemnkcpadpaa
set_option linter.unusedVariables false
set_option linter.unusedSimpArgs false
set_option linter.unnecessarySimpa false
open Go.RowKit Go.Flow Go.Shelf

/-- X is W but for new memory and for block bf, whose first cell may be written. -/
structure Gr (bf : Nat) (W X : World) : Prop where
  g : W.grownBy X (some bf)
  f : X.frozen? ⟨bf, 0, none⟩ = false
  v : ∃ v, X.cell? ⟨bf, 0, none⟩ = some v
section
variable {bf : Nat} {W X Y : World}
theorem Gr.low (h : Gr bf W X) (hb : Below W.heap.size X Y) (lf : bf < W.heap.size) : Gr bf W Y := by
  obtain ⟨v, hv⟩ := h.v
  refine ⟨⟨hb.os.trans h.g.os, hb.tape.trans h.g.tape, hb.output.trans h.g.output, Nat.le_trans h.g.size hb.size, fun k hk hne => (hb.block k hk).trans (h.g.block k hk hne)⟩, ?_, v, ?_⟩
  · rw [hb.frozen (p := ⟨bf, 0, none⟩) lf]; exact h.f
  · exact (hb.cell (p := ⟨bf, 0, none⟩) lf).trans hv
theorem Gr.below (h : Gr bf W X) (hb : Below X.heap.size X Y) (lf : bf < W.heap.size) : Gr bf W Y := h.low (hb.mono h.g.size) lf
theorem Gr.drew (h : Gr bf W X) (lf : bf < W.heap.size) : Gr bf W X.drew := h.below (Below.refl _ _).drew lf
theorem Gr.alloc (h : Gr bf W X) (lf : bf < W.heap.size) (o : Obj) : Gr bf W (X.alloc o) := h.below ((Below.refl _ _).alloc (Nat.le_refl _) o) lf
theorem Gr.trans (h : Gr bf W X) (k : Gr bf X Y) : Gr bf W Y := ⟨h.g.trans k.g, k.f, k.v⟩
theorem Gr.cell (h : Gr bf W X) {b o : Nat} {v : Value} (hne : b ≠ bf) (hc : W.cell? ⟨b, o, none⟩ = some v) : X.cell? ⟨b, o, none⟩ = some v := h.g.cell hc (fun e => hne (Option.some.inj e))
theorem Gr.toBelow (h : Gr bf W X) {B0 : Nat} (hb : B0 ≤ bf) (hs : B0 ≤ W.heap.size) : Below B0 W X :=
  ⟨h.g.os, h.g.tape, h.g.output, h.g.size, fun k hk => h.g.block k (by omega) (fun e => by have := Option.some.inj e; omega)⟩
theorem Gr.lt (h : Gr bf W W) : bf < W.heap.size := by obtain ⟨v, hv⟩ := h.v; exact cell_ltK hv
theorem Gr.ints (h : Gr bf W X) {a : Option Addr} {xs : List Int} (hx : IntsAt W a xs) (hn : ∀ off, a ≠ some ⟨bf, off, none⟩) : IntsAt X a xs := fun k hk =>
  let ⟨b, off, ha, hlt, hc⟩ := hx k hk
  ⟨b, off, ha, Nat.lt_of_lt_of_le hlt h.g.size, h.cell (fun e => hn off (by rw [ha, e])) hc⟩
theorem Gr.ents (h : Gr bf W X) {a : Option Addr} {xs : List Ent} (hx : EntsAt W a xs) (hn : ∀ off, a ≠ some ⟨bf, off, none⟩) : EntsAt X a xs := fun k hk =>
  let ⟨b, off, ha, hlt, h0, h1, h2⟩ := hx k hk
  have hne : b ≠ bf := fun e => hn off (by rw [ha, e])
  ⟨b, off, ha, Nat.lt_of_lt_of_le hlt h.g.size, h.cell hne h0, h.cell hne h1, h.cell hne h2⟩
/-- A store into the cell. -/
theorem Gr.store (h : Gr bf W X) (u : Value) : Gr bf W (X.setCell ⟨bf, 0, none⟩ u) := by
  obtain ⟨v, hv⟩ := h.v
  refine ⟨⟨h.g.os, h.g.tape, h.g.output, by simpa using h.g.size, fun k hk hne => (Below.heap_setCell X ⟨bf, 0, none⟩ u k (fun e => hne (by rw [e]))).trans (h.g.block k hk hne)⟩, ?_, u, ?_⟩
  · rw [World.frozen?_setCell]; exact h.f
  · exact World.cell?_setCell_same _ _ _ hv
end

section
variable {P : Program} {ops : Array Oper} {Q : Exit → Act → World → Prop} {md : Region.Mode} {S : World → Prop} {i : Nat} {oi : Oper} {v : Value} {fuel : Nat} {listed : Array Bool} {a : Act} {w : World}
theorem takeL (hi : ops.toList[i]? = some oi) (hs : Region.noSelect ops = true) (hf : Region.free md ops listed i = true) (hr : (Region.ready md ops listed).contains i = true)
    (hQ : ∀ c a w, Q (.panic c) (a.put oi.dst v) w → Q (.panic c) a w) (hw : Region.wanted oi (yielded ops a.tmps) = true) (hy : ∀ w, S w → (execOp a.eval oi).run P w = .ok (.value v) w) (hS : S w)
    (h : wpAnyH P md ops Q S fuel (listed.setIfInBounds i true) (a.put oi.dst v) w) : wpAnyH P md ops Q S (fuel + 1) listed a w :=
  wpAnyH_take (by simpa using hi) hs hf hr hQ (Or.inl ⟨hw, hy⟩) hS h
theorem skipL (hi : ops.toList[i]? = some oi) (hs : Region.noSelect ops = true) (hf : Region.free md ops listed i = true) (hr : (Region.ready md ops listed).contains i = true)
    (hQ : ∀ c a w, Q (.panic c) (a.put oi.dst undef) w → Q (.panic c) a w) (hw : Region.wanted oi (yielded ops a.tmps) = false) (hS : S w)
    (h : wpAnyH P md ops Q S fuel (listed.setIfInBounds i true) (a.put oi.dst undef) w) : wpAnyH P md ops Q S (fuel + 1) listed a w :=
  wpAnyH_take (by simpa using hi) hs hf hr hQ (Or.inr ⟨hw, rfl⟩) hS h
theorem consL {rs : List Nat} (hi : ops.toList[i]? = some oi)
    (h : ∀ K' : Act → World → Prop, Shut (∀ a w, S w → (S w → wpAnyH P md ops Q S fuel (listed.setIfInBounds i true) a w) → K' a w) → if Region.wanted oi (yielded ops a.tmps) = true then Oper.wp P oi a w K' Q else K' (a.put oi.dst undef) w)
    (hs : AllReadyH P md ops Q S fuel listed a w rs) : AllReadyH P md ops Q S fuel listed a w (i :: rs) := AllReadyH.cons (by simpa using hi) h hs
end

def leaveR (p : Post) (l : List Ent) : Nat → Nat → List Int → List Ent → Nat → Option (List Int)
  | 0, _, out, kept, m => if 0 < m then none else if (searchF p kept).isSome then some out else none
  | r + 1, i, out, kept, m => if r + 1 < m then none else
    match (if 0 < m then leaveR p l r (i + 1) (out ++ [(i : Int)]) kept (m - 1) else none) with
    | some z => some z
    | none => leaveR p l r (i + 1) out (kept ++ [l.getD i ⟨0, 0, false⟩]) m
def LeavePost (bf : Nat) (W : World) : Option (List Int) → Ending → World → Prop
  | none, e, w' => e = .returned (.bool false) ∧ Gr bf W w'
  | some z, e, w' => e = .returned (.bool true) ∧ Gr bf W w' ∧ ∃ a c, w'.cell? ⟨bf, 0, none⟩ = some (.slice a z.length c) ∧ IntsAt w' a z
theorem leaveR_gt {p : Post} {l : List Ent} {r i m : Nat} {out : List Int} {kept : List Ent} (h : r < m) : leaveR p l r i out kept m = none := by
  cases r with
  | zero => simp [leaveR, h]
  | succ r => simp [leaveR, h]
def leaveFn (bl bf bw bn : Nat) : Value := .func (.func 79) #[] #[.pointer (some ⟨bl, 0, none⟩), .pointer (some ⟨bf, 0, none⟩), .pointer (some ⟨bw, 0, none⟩), .pointer (some ⟨bn, 0, none⟩)]

set_option maxRecDepth 100000 in
set_option maxHeartbeats 8000000 in
theorem leave_any (p : Post) (l : List Ent) (a : Option Addr) (c : Nat) (ar : Option Addr) (cr Bw : Nat) (al : Option Addr) (cl bw bf bl bn : Nat) (W0 : World) (S0 : Sta p l a c ar cr Bw al cl bw bl W0) (h0 : postErr p = 0) (ll : l.length ≤ 1000)
    (hbf : W0.heap.size ≤ bf) (hnf : bn ≠ bf) :
    ∀ (r i m : Nat) (out : List Int) (ao : Option Addr) (co : Nat) (kept : List Ent) (ak : Option Addr) (ck : Nat) (W : World), i + r = l.length → m ≤ 1000 → out.length ≤ i → kept.length ≤ i → IntsAt W ao out → (ao = none → out = [] ∧ co = 0) → (∀ off, ao ≠ some ⟨bf, off, none⟩) →
      EntsAt W ak kept → (ak = none → kept.length = 0 ∧ ck = 0) → (∀ off, ak ≠ some ⟨bf, off, none⟩) → Below W0.heap.size W0 W → W.cell? ⟨bn, 0, none⟩ = some (.func (.func 79) #[] #[.pointer (some ⟨bl, 0, none⟩), .pointer (some ⟨bf, 0, none⟩), .pointer (some ⟨bw, 0, none⟩), .pointer (some ⟨bn, 0, none⟩)]) → Gr bf W W →
    Calls Try.prog 79 #[.slice ao out.length co, .slice ak kept.length ck, .int .i64 i, .int .i64 m, .pointer (some ⟨bl, 0, none⟩), .pointer (some ⟨bf, 0, none⟩), .pointer (some ⟨bw, 0, none⟩), .pointer (some ⟨bn, 0, none⟩)] W
      (LeavePost bf W (leaveR p l r i out kept m)) := by
  intro r
  induction r with
  | zero =>
    intro i m out ao co kept ak ck W hir hm hol hkl ha han haf he hen hef hb kn g0
    have kl := (hb.cell (p := ⟨bl, 0, none⟩) (cell_lt S0.kl)).trans S0.kl
    have kw := (hb.cell (p := ⟨bw, 0, none⟩) (cell_lt S0.kw)).trans S0.kw
    have l1 := cell_ltK kl
    have l2 := cell_ltK kw
    have lf := g0.lt
    by_cases h0m : 0 < m
    · have hI : ((l.length : Int) - (i : Int)) < (m : Int) := by omega
      have hw : IntKind.i64.wrap ((l.length : Int) - (i : Int)) = (l.length : Int) - (i : Int) := IntWalk.i64_in _ (by omega)
      rw [leaveR_gt h0m]
      clear hir
      go_enter Try.func79, Try.ntmps79
      go_wp2
      go_ret
      exact ⟨rfl, g0⟩
    · obtain rfl : m = 0 := by omega
      have hI : ¬ ((l.length : Int) - (i : Int)) < (0 : Int) := by omega
      have hI2 : ((i : Int) == (l.length : Int)) = true := by simp; omega
      have hw : IntKind.i64.wrap ((l.length : Int) - (i : Int)) = (l.length : Int) - (i : Int) := IntWalk.i64_in _ (by omega)
      obtain ⟨v, hv⟩ := g0.v
      have ff := g0.f
      have G1 := g0.store (.slice ao out.length co)
      have hsr : ∀ X, X = W.setCell ⟨bf, 0, none⟩ (.slice ao out.length co) → _ := fun X e => search_any p kept a c ar cr Bw ak ck X (by rw [e]; exact S0.hw.below (hb.trans (G1.toBelow hbf hb.size))) (by rw [e]; exact S0.hs.below (hb.trans (G1.toBelow hbf hb.size))) (by rw [e]; exact S0.hr.below (hb.trans (G1.toBelow hbf hb.size))) (by rw [e]; exact G1.ents he hef) h0 (by omega)
      have nw : bw ≠ bf := by have : bw < W0.heap.size := cell_lt S0.kw; omega
      have kw1 := G1.cell nw kw
      have hfo := World.cell?_setCell_same W ⟨bf, 0, none⟩ (.slice ao out.length co) hv
      have ha1 := G1.ints ha haf
      have hR : Hid (leaveR p l 0 i out kept 0 = if (searchF p kept).isSome then some out else none) := Lib.hid (by simp [leaveR])
      obtain ⟨o, ho⟩ : ∃ o, leaveR p l 0 i out kept 0 = o := ⟨_, rfl⟩
      rw [ho] at hR ⊢
      obtain ⟨s, hs⟩ : ∃ s, searchF p kept = s := ⟨_, rfl⟩
      rw [hs] at hsr hR
      clear ho hs hir
      have kq : (W.setCell ⟨bf, 0, none⟩ (.slice ao out.length co)).heap.size = W.heap.size := by simp
      go_enter Try.func79, Try.ntmps79
      cases s with
      | none =>
        obtain rfl : o = none := hR.out
        go_wp2_with (go_at_call 80; (with_reducible refine (hsr _ rfl).mono ?_); rintro e w1 ⟨rfl, hb1⟩)
        go_ret
        exact ⟨rfl, G1.below hb1 lf⟩
      | some z =>
        obtain rfl : o = some out := hR.out
        go_wp2_with (go_at_call 80; (with_reducible refine (hsr _ rfl).mono ?_); rintro e w1 ⟨⟨a5, c5, rfl, _⟩, hb1⟩)
        go_ret
        exact ⟨rfl, G1.below hb1 lf, ao, co, below_cell hb1 hfo, ha1.below hb1⟩
  | succ r ih =>
    intro i m out ao co kept ak ck W hir hm hol hkl ha han haf he hen hef hb kn g0
    have kl := (hb.cell (p := ⟨bl, 0, none⟩) (cell_lt S0.kl)).trans S0.kl
    have kw := (hb.cell (p := ⟨bw, 0, none⟩) (cell_lt S0.kw)).trans S0.kw
    have l1 := cell_ltK kl
    have l2 := cell_ltK kw
    have lf := g0.lt
    by_cases h0m : r + 1 < m
    · have hI : ((l.length : Int) - (i : Int)) < (m : Int) := by omega
      have hw : IntKind.i64.wrap ((l.length : Int) - (i : Int)) = (l.length : Int) - (i : Int) := IntWalk.i64_in _ (by omega)
      rw [leaveR_gt h0m]
      clear hir
      go_enter Try.func79, Try.ntmps79
      go_wp2
      go_ret
      exact ⟨rfl, g0⟩
    · have hil : i < l.length := by omega
      obtain ⟨be, offe, rfl, hbe, e0, e1, e2⟩ := S0.he i hil
      have hR : Hid (leaveR p l (r + 1) i out kept m = match (if 0 < m then leaveR p l r (i + 1) (out ++ [(i : Int)]) kept (m - 1) else none) with | some z => some z | none => leaveR p l r (i + 1) out (kept ++ [l[i]]) m) := Lib.hid (by rw [leaveR, if_neg h0m, show l.getD i ⟨0, 0, false⟩ = l[i] by simp [hil]])
      obtain ⟨en, hen2⟩ : ∃ e, l[i] = e := ⟨_, rfl⟩
      rw [hen2] at e0 e1 e2 hR
      clear hen2
      have e0 := (hb.cell (p := ⟨be, _, none⟩) hbe).trans e0
      have e1 := (hb.cell (p := ⟨be, _, none⟩) hbe).trans e1
      have e2 := (hb.cell (p := ⟨be, _, none⟩) hbe).trans e2
      have nl : bl ≠ bf := by have : bl < W0.heap.size := cell_lt S0.kl; omega
      have nE : be ≠ bf := by omega
      have lbe := cell_ltK e0
      have ln := cell_ltK kn
      have hkeep : ∀ X, Gr bf W X → X.cell? ⟨bn, 0, none⟩ = some (.func (.func 79) #[] #[.pointer (some ⟨bl, 0, none⟩), .pointer (some ⟨bf, 0, none⟩), .pointer (some ⟨bw, 0, none⟩), .pointer (some ⟨bn, 0, none⟩)]) ∧ X.cell? ⟨bl, 0, none⟩ = some (.slice (some ⟨be, offe, none⟩) l.length cl) ∧ X.cell? ⟨be, offe + i * 3, none⟩ = some (.int .i64 en.num) ∧ X.cell? ⟨be, offe + i * 3 + 1, none⟩ = some (.int .i64 en.at_) ∧ X.cell? ⟨be, offe + i * 3 + 2, none⟩ = some (.bool en.skip) :=
        fun X g => ⟨g.cell hnf kn, g.cell nl kl, g.cell nE e0, g.cell nE e1, g.cell nE e2⟩
      have hcl := fun X (g : Gr bf W X) => clone_any ao out co X (g.ints ha haf) han (by omega)
      have hcE := fun X (g : Gr bf W X) => cloneE_any ak kept ck X (g.ents he hef) hen (by omega)
      obtain ⟨i1, hi1⟩ : ∃ z : Int, ((i + 1 : Nat) : Int) = z := ⟨_, rfl⟩
      have hL1 : ∀ (q : Nat) (mq : Int), q ≤ 1000 → (q : Int) = mq → ∀ X, Gr bf W X → ∀ g' c', OwnL 3 1 W.heap.size X (some ⟨g', 0, none⟩) c' (out.length + 1) (out.map (Value.int .i64) ++ [.int .i64 (i : Int)]) →
          Calls Try.prog 79 #[.slice (some ⟨g', 0, none⟩) (out.length + 1) c', .slice ak kept.length ck, .int .i64 i1, .int .i64 mq, .pointer (some ⟨bl, 0, none⟩), .pointer (some ⟨bf, 0, none⟩), .pointer (some ⟨bw, 0, none⟩), .pointer (some ⟨bn, 0, none⟩)] X (LeavePost bf X (leaveR p l r (i + 1) (out ++ [(i : Int)]) kept q)) := by
        intro q mq hq hmq X g g' c' hown
        have hown2 : OwnL 3 1 W.heap.size X (some ⟨g', 0, none⟩) c' (out.length + 1) ((out ++ [(i : Int)]).map (Value.int .i64)) := by rw [List.map_append]; exact hown
        have hg' : W.heap.size ≤ g' := by
          rcases hown.form with ⟨h, _⟩ | ⟨g2, h, h2, _⟩
          · cases h
          · simp at h; omega
        have := ih (i + 1) q (out ++ [(i : Int)]) (some ⟨g', 0, none⟩) c' kept ak ck X (by omega) hq (by simp; omega) (by omega) hown2.ints.1 (fun h => by cases h) (fun off h => by simp at h <;> omega) (g.ents he hef) hen hef (hb.trans (g.toBelow hbf hb.size)) (g.cell hnf kn) ⟨World.grownBy.refl _ _, g.f, g.v⟩
        rw [hi1, hmq, show (out ++ [(i : Int)]).length = out.length + 1 by simp] at this
        exact this
      have hL2 : ∀ X, Gr bf W X → ∀ g' c', OwnL 82 3 W.heap.size X (some ⟨g', 0, none⟩) c' (kept.length + 1) (flatE kept ++ [.int .i64 en.num, .int .i64 en.at_, .bool en.skip]) →
          Calls Try.prog 79 #[.slice ao out.length co, .slice (some ⟨g', 0, none⟩) (kept.length + 1) c', .int .i64 i1, .int .i64 m, .pointer (some ⟨bl, 0, none⟩), .pointer (some ⟨bf, 0, none⟩), .pointer (some ⟨bw, 0, none⟩), .pointer (some ⟨bn, 0, none⟩)] X (LeavePost bf X (leaveR p l r (i + 1) out (kept ++ [en]) m)) := by
        intro X g g' c' hown
        have hown2 : OwnL 82 3 W.heap.size X (some ⟨g', 0, none⟩) c' (kept.length + 1) (flatE (kept ++ [en])) := by rw [flatE_snoc]; exact hown
        have hg' : W.heap.size ≤ g' := by
          rcases hown.form with ⟨h, _⟩ | ⟨g2, h, h2, _⟩
          · cases h
          · simp at h; omega
        have := ih (i + 1) m out ao co (kept ++ [en]) (some ⟨g', 0, none⟩) c' X (by omega) hm (by omega) (by simp; omega) (g.ints ha haf) han haf hown2.ents (fun h => by cases h) (fun off h => by simp at h <;> omega) (hb.trans (g.toBelow hbf hb.size)) (g.cell hnf kn) ⟨World.grownBy.refl _ _, g.f, g.v⟩
        rw [hi1, show (kept ++ [en]).length = kept.length + 1 by simp] at this
        exact this
      obtain ⟨mm, hmm⟩ : ∃ z : Int, (m : Int) = z := ⟨_, rfl⟩
      rw [hmm] at hL2 ⊢
      have hI : ¬ ((l.length : Int) - (i : Int)) < mm := by omega
      have hw : IntKind.i64.wrap ((l.length : Int) - (i : Int)) = (l.length : Int) - (i : Int) := IntWalk.i64_in _ (by omega)
      have hI2 : ((i : Int) == (l.length : Int)) = false := by simp; omega
      have hwi : IntKind.i64.wrap ((i : Int) + 1) = i1 := by rw [IntWalk.i64_in _ (by omega), ← hi1]; rfl
      have hilI : (i : Int) < (l.length : Int) := by omega
      have elI := elInt
      have elE := el_centries
      obtain ⟨oo, hoo⟩ : ∃ o, leaveR p l (r + 1) i out kept m = o := ⟨_, rfl⟩
      rw [hoo] at hR ⊢
      obtain ⟨o2, ho2⟩ : ∃ o, leaveR p l r (i + 1) out (kept ++ [en]) m = o := ⟨_, rfl⟩
      rw [ho2] at hR hL2
      have hol2 : out.length ≤ 1000 := by omega
      have hkl2 : kept.length ≤ 1000 := by omega
      clear hoo ho2 hi1 ih hir ha haf he hef han hen kw l2 hol hkl
      by_cases hm0 : m = 0
      · obtain rfl : mm = 0 := by omega
        clear hmm
        rw [if_neg (by omega)] at hR
        obtain rfl : oo = o2 := hR.out
        clear hR hL1 h0m
        go_enter Try.func79, Try.ntmps79
        cases oo with
        | none =>
          go_wp2
          refine wp_region_noPanic ?_
          refine wp_region_held_drew (S := (fun w' => w'.cell? ⟨bn, 0, none⟩ = some (.func (.func 79) #[] #[.pointer (some ⟨bl, 0, none⟩), .pointer (some ⟨bf, 0, none⟩), .pointer (some ⟨bw, 0, none⟩), .pointer (some ⟨bn, 0, none⟩)]) ∧ w'.cell? ⟨bl, 0, none⟩ = some (.slice (some ⟨be, offe, none⟩) l.length cl) ∧ w'.cell? ⟨be, offe + i * 3, none⟩ = some (.int .i64 en.num) ∧ w'.cell? ⟨be, offe + i * 3 + 1, none⟩ = some (.int .i64 en.at_) ∧ w'.cell? ⟨be, offe + i * 3 + 2, none⟩ = some (.bool en.skip))) (by kernel_rfl) ?_ (fun hHeld => ?_)
          · exact hkeep _ (by first | assumption | exact Gr.drew (by assumption) lf | exact Gr.alloc (by assumption) lf _ | exact Gr.drew (Gr.alloc (by assumption) lf _) lf | exact Gr.alloc (Gr.drew (by assumption) lf) lf _)
          refine takeL (i := 0) (oi := _) (v := ?_) rfl (by kernel_rfl) (by kernel_rfl) (by kernel_rfl) (fun _ _ _ h => h) (by rfl) ?_ hHeld ?_
          rotate_left
          · intro w hSw; (try dsimp only at hSw); go_simp; try with_reducible rfl
          try simp only [Act.put, List.setIfInBounds_toArray, List.set_cons_zero, List.set_cons_succ]
          refine takeL (i := 1) (oi := _) (v := ?_) rfl (by kernel_rfl) (by kernel_rfl) (by kernel_rfl) (fun _ _ _ h => h) (by rfl) ?_ hHeld ?_
          rotate_left
          · intro w hSw; (try dsimp only at hSw); go_simp; try with_reducible rfl
          try simp only [Act.put, List.setIfInBounds_toArray, List.set_cons_zero, List.set_cons_succ]
          refine takeL (i := 2) (oi := _) (v := ?_) rfl (by kernel_rfl) (by kernel_rfl) (by kernel_rfl) (fun _ _ _ h => h) (by rfl) ?_ hHeld ?_
          rotate_left
          · intro w hSw; (try dsimp only at hSw); go_simp; try with_reducible rfl
          try simp only [Act.put, List.setIfInBounds_toArray, List.set_cons_zero, List.set_cons_succ]
          refine skipL (i := 3) (oi := _) rfl (by kernel_rfl) (by kernel_rfl) (by kernel_rfl) (fun _ _ _ h => h) (by rfl) hHeld ?_
          try simp only [Act.put, List.setIfInBounds_toArray, List.set_cons_zero, List.set_cons_succ]
          refine skipL (i := 4) (oi := _) rfl (by kernel_rfl) (by kernel_rfl) (by kernel_rfl) (fun _ _ _ h => h) (by rfl) hHeld ?_
          try simp only [Act.put, List.setIfInBounds_toArray, List.set_cons_zero, List.set_cons_succ]
          refine skipL (i := 5) (oi := _) rfl (by kernel_rfl) (by kernel_rfl) (by kernel_rfl) (fun _ _ _ h => h) (by rfl) hHeld ?_
          try simp only [Act.put, List.setIfInBounds_toArray, List.set_cons_zero, List.set_cons_succ]
          refine skipL (i := 6) (oi := _) rfl (by kernel_rfl) (by kernel_rfl) (by kernel_rfl) (fun _ _ _ h => h) (by rfl) hHeld ?_
          try simp only [Act.put, List.setIfInBounds_toArray, List.set_cons_zero, List.set_cons_succ]
          refine skipL (i := 7) (oi := _) rfl (by kernel_rfl) (by kernel_rfl) (by kernel_rfl) (fun _ _ _ h => h) (by rfl) hHeld ?_
          try simp only [Act.put, List.setIfInBounds_toArray, List.set_cons_zero, List.set_cons_succ]
          refine skipL (i := 8) (oi := _) rfl (by kernel_rfl) (by kernel_rfl) (by kernel_rfl) (fun _ _ _ h => h) (by rfl) hHeld ?_
          try simp only [Act.put, List.setIfInBounds_toArray, List.set_cons_zero, List.set_cons_succ]
          refine skipL (i := 9) (oi := _) rfl (by kernel_rfl) (by kernel_rfl) (by kernel_rfl) (fun _ _ _ h => h) (by rfl) hHeld ?_
          try simp only [Act.put, List.setIfInBounds_toArray, List.set_cons_zero, List.set_cons_succ]
          refine skipL (i := 10) (oi := _) rfl (by kernel_rfl) (by kernel_rfl) (by kernel_rfl) (fun _ _ _ h => h) (by rfl) hHeld ?_
          try simp only [Act.put, List.setIfInBounds_toArray, List.set_cons_zero, List.set_cons_succ]
          refine skipL (i := 11) (oi := _) rfl (by kernel_rfl) (by kernel_rfl) (by kernel_rfl) (fun _ _ _ h => h) (by rfl) hHeld ?_
          try simp only [Act.put, List.setIfInBounds_toArray, List.set_cons_zero, List.set_cons_succ]
          refine skipL (i := 12) (oi := _) rfl (by kernel_rfl) (by kernel_rfl) (by kernel_rfl) (fun _ _ _ h => h) (by rfl) hHeld ?_
          try simp only [Act.put, List.setIfInBounds_toArray, List.set_cons_zero, List.set_cons_succ]
          refine skipL (i := 13) (oi := _) rfl (by kernel_rfl) (by kernel_rfl) (by kernel_rfl) (fun _ _ _ h => h) (by rfl) hHeld ?_
          try simp only [Act.put, List.setIfInBounds_toArray, List.set_cons_zero, List.set_cons_succ]
          refine skipL (i := 14) (oi := _) rfl (by kernel_rfl) (by kernel_rfl) (by kernel_rfl) (fun _ _ _ h => h) (by rfl) hHeld ?_
          try simp only [Act.put, List.setIfInBounds_toArray, List.set_cons_zero, List.set_cons_succ]
          refine takeL (i := 15) (oi := _) (v := ?_) rfl (by kernel_rfl) (by kernel_rfl) (by kernel_rfl) (fun _ _ _ h => h) (by rfl) ?_ hHeld ?_
          rotate_left
          · intro w hSw; (try dsimp only at hSw); go_simp; try with_reducible rfl
          try simp only [Act.put, List.setIfInBounds_toArray, List.set_cons_zero, List.set_cons_succ]
          refine takeL (i := 16) (oi := _) (v := ?_) rfl (by kernel_rfl) (by kernel_rfl) (by kernel_rfl) (fun _ _ _ h => h) (by rfl) ?_ hHeld ?_
          rotate_left
          · intro w hSw; (try dsimp only at hSw); go_simp; try with_reducible rfl
          try simp only [Act.put, List.setIfInBounds_toArray, List.set_cons_zero, List.set_cons_succ]
          refine takeL (i := 17) (oi := _) (v := ?_) rfl (by kernel_rfl) (by kernel_rfl) (by kernel_rfl) (fun _ _ _ h => h) (by rfl) ?_ hHeld ?_
          rotate_left
          · intro w hSw; (try dsimp only at hSw); go_simp; try with_reducible rfl
          try simp only [Act.put, List.setIfInBounds_toArray, List.set_cons_zero, List.set_cons_succ]
          refine takeL (i := 18) (oi := _) (v := ?_) rfl (by kernel_rfl) (by kernel_rfl) (by kernel_rfl) (fun _ _ _ h => h) (by rfl) ?_ hHeld ?_
          rotate_left
          · intro w hSw; (try dsimp only at hSw); go_simp; try with_reducible rfl
          try simp only [Act.put, List.setIfInBounds_toArray, List.set_cons_zero, List.set_cons_succ]
          refine takeL (i := 19) (oi := _) (v := ?_) rfl (by kernel_rfl) (by kernel_rfl) (by kernel_rfl) (fun _ _ _ h => h) (by rfl) ?_ hHeld ?_
          rotate_left
          · intro w hSw; (try dsimp only at hSw); go_simp; try with_reducible rfl
          try simp only [Act.put, List.setIfInBounds_toArray, List.set_cons_zero, List.set_cons_succ]
          refine takeL (i := 21) (oi := _) (v := ?_) rfl (by kernel_rfl) (by kernel_rfl) (by kernel_rfl) (fun _ _ _ h => h) (by rfl) ?_ hHeld ?_
          rotate_left
          · intro w hSw; (try dsimp only at hSw); go_simp; try with_reducible rfl
          try simp only [Act.put, List.setIfInBounds_toArray, List.set_cons_zero, List.set_cons_succ]
          refine takeL (i := 22) (oi := _) (v := ?_) rfl (by kernel_rfl) (by kernel_rfl) (by kernel_rfl) (fun _ _ _ h => h) (by rfl) ?_ hHeld ?_
          rotate_left
          · intro w hSw; (try dsimp only at hSw); go_simp; try with_reducible rfl
          try simp only [Act.put, List.setIfInBounds_toArray, List.set_cons_zero, List.set_cons_succ]
          refine takeL (i := 23) (oi := _) (v := ?_) rfl (by kernel_rfl) (by kernel_rfl) (by kernel_rfl) (fun _ _ _ h => h) (by rfl) ?_ hHeld ?_
          rotate_left
          · intro w hSw; (try dsimp only at hSw); go_simp; try with_reducible rfl
          try simp only [Act.put, List.setIfInBounds_toArray, List.set_cons_zero, List.set_cons_succ]
          refine takeL (i := 24) (oi := _) (v := ?_) rfl (by kernel_rfl) (by kernel_rfl) (by kernel_rfl) (fun _ _ _ h => h) (by rfl) ?_ hHeld ?_
          rotate_left
          · intro w hSw; (try dsimp only at hSw); go_simp; try with_reducible rfl
          try simp only [Act.put, List.setIfInBounds_toArray, List.set_cons_zero, List.set_cons_succ]
          refine takeL (i := 27) (oi := _) (v := ?_) rfl (by kernel_rfl) (by kernel_rfl) (by kernel_rfl) (fun _ _ _ h => h) (by rfl) ?_ hHeld ?_
          rotate_left
          · intro w hSw; (try dsimp only at hSw); go_simp; try with_reducible rfl
          try simp only [Act.put, List.setIfInBounds_toArray, List.set_cons_zero, List.set_cons_succ]
          refine takeL (i := 28) (oi := _) (v := ?_) rfl (by kernel_rfl) (by kernel_rfl) (by kernel_rfl) (fun _ _ _ h => h) (by rfl) ?_ hHeld ?_
          rotate_left
          · intro w hSw; (try dsimp only at hSw); go_simp; try with_reducible rfl
          try simp only [Act.put, List.setIfInBounds_toArray, List.set_cons_zero, List.set_cons_succ]
          refine takeL (i := 29) (oi := _) (v := ?_) rfl (by kernel_rfl) (by kernel_rfl) (by kernel_rfl) (fun _ _ _ h => h) (by rfl) ?_ hHeld ?_
          rotate_left
          · intro w hSw; (try dsimp only at hSw); go_simp; try with_reducible rfl
          try simp only [Act.put, List.setIfInBounds_toArray, List.set_cons_zero, List.set_cons_succ]
          refine wpAnyH_ready (rs := [20, 25]) (by kernel_rfl) (by simp) ?_
          refine consL (oi := _) rfl (fun K hK => ?_) ?_
          · go_simp
            (go_at_call 82; (with_reducible refine (hcE _ (by first | assumption | exact Gr.drew (by assumption) lf | exact Gr.alloc (by assumption) lf _ | exact Gr.drew (Gr.alloc (by assumption) lf _) lf | exact Gr.alloc (Gr.drew (by assumption) lf) lf _)).mono ?_); rintro e w6 ⟨a6, c6, rfl, hown6, hb6⟩; have gr6 : Gr bf W w6 := Gr.below (by first | assumption | exact Gr.drew (by assumption) lf | exact Gr.alloc (by assumption) lf _ | exact Gr.drew (Gr.alloc (by assumption) lf _) lf | exact Gr.alloc (Gr.drew (by assumption) lf) lf _) hb6 lf; have hz6 := gr6.g.size; have hy6 := hb6.size; (try simp at hy6))
            (try go_wp2_with fail)
            refine hK.out _ _ ?_ (fun hNew => ?_)
            · exact hkeep _ (by first | assumption | exact Gr.drew (by assumption) lf | exact Gr.alloc (by assumption) lf _ | exact Gr.drew (Gr.alloc (by assumption) lf _) lf | exact Gr.alloc (Gr.drew (by assumption) lf) lf _)
            clear hK K hHeld
            have hHeld := hNew
            clear hNew
            try simp only [Act.put, List.setIfInBounds_toArray, List.set_cons_zero, List.set_cons_succ]
            refine wpAnyH_ready (rs := [25]) (by kernel_rfl) (by simp) ?_
            refine consL (oi := _) rfl (fun K hK => ?_) ?_
            · go_simp
              refine hK.out _ _ ?_ (fun hNew => ?_)
              · exact hkeep _ (by first | assumption | exact Gr.drew (by assumption) lf | exact Gr.alloc (by assumption) lf _ | exact Gr.drew (Gr.alloc (by assumption) lf _) lf | exact Gr.alloc (Gr.drew (by assumption) lf) lf _)
              clear hK K hHeld
              have hHeld := hNew
              clear hNew
              try simp only [Act.put, List.setIfInBounds_toArray, List.set_cons_zero, List.set_cons_succ]
              refine wpAnyH_ready (rs := [26]) (by kernel_rfl) (by simp) ?_
              refine consL (oi := _) rfl (fun K hK => ?_) ?_
              · (first | (refine step_app elE (by rfl) _ _ rfl W.heap.size a6 kept.length c6 _ rfl ((OwnL.base_le hown6 (by first | omega | (simp; done) | (simp; omega))).alloc _) _ 1 1 _ rfl rfl (Cells.src (Cells.new _ _ _)) (by simp [Value.oneCell']) (by omega) (by unfold maxLen; omega) (by omega) (by first | omega | (simp; done) | (simp; omega)) ?_; intro g7 cg7 w7 howng7 hb7; have gr7 : Gr bf W w7 := Gr.low (by first | assumption | exact Gr.drew (by assumption) lf | exact Gr.alloc (by assumption) lf _ | exact Gr.drew (Gr.alloc (by assumption) lf _) lf | exact Gr.alloc (Gr.drew (by assumption) lf) lf _) hb7 lf; have hz7 := gr7.g.size) | (refine step_app elE (by rfl) _ _ rfl W.heap.size a6 kept.length c6 _ rfl ((OwnL.base_le hown6 (by first | omega | (simp; done) | (simp; omega))).alloc _) _ 1 1 _ rfl rfl (Cells.src (Cells.new _ _ _)) (by simp [Value.oneCell']) (by omega) (by unfold maxLen; omega) (by omega) (by first | omega | (simp; done) | (simp; omega)) ?_; intro g7 cg7 w7 howng7 hb7; have gr7 : Gr bf W w7 := Gr.low (by first | assumption | exact Gr.drew (by assumption) lf | exact Gr.alloc (by assumption) lf _ | exact Gr.drew (Gr.alloc (by assumption) lf _) lf | exact Gr.alloc (Gr.drew (by assumption) lf) lf _) hb7 lf; have hz7 := gr7.g.size))
                refine hK.out _ _ ?_ (fun hNew => ?_)
                · exact hkeep _ (by first | assumption | exact Gr.drew (by assumption) lf | exact Gr.alloc (by assumption) lf _ | exact Gr.drew (Gr.alloc (by assumption) lf _) lf | exact Gr.alloc (Gr.drew (by assumption) lf) lf _)
                clear hK K hHeld
                have hHeld := hNew
                clear hNew
                try simp only [Act.put, List.setIfInBounds_toArray, List.set_cons_zero, List.set_cons_succ]
                refine wpAnyH_ready (rs := [30]) (by kernel_rfl) (by simp) ?_
                refine consL (oi := _) rfl (fun K hK => ?_) ?_
                · go_simp
                  (go_at_call 79; (with_reducible refine (hL2 _ gr7 _ _ howng7).mono ?_); rintro e w8 ⟨rfl, hg8⟩; have gr8 : Gr bf W w8 := gr7.trans hg8)
                  (try go_wp2_with fail)
                  refine hK.out _ _ ?_ (fun hNew => ?_)
                  · exact hkeep _ (by first | assumption | exact Gr.drew (by assumption) lf | exact Gr.alloc (by assumption) lf _ | exact Gr.drew (Gr.alloc (by assumption) lf _) lf | exact Gr.alloc (Gr.drew (by assumption) lf) lf _)
                  clear hK K hHeld
                  have hHeld := hNew
                  clear hNew
                  try simp only [Act.put, List.setIfInBounds_toArray, List.set_cons_zero, List.set_cons_succ]
                  refine takeL (i := 31) (oi := _) (v := ?_) rfl (by kernel_rfl) (by kernel_rfl) (by kernel_rfl) (fun _ _ _ h => h) (by rfl) ?_ hHeld ?_
                  rotate_left
                  · intro w hSw; (try dsimp only at hSw); go_simp; try with_reducible rfl
                  try simp only [Act.put, List.setIfInBounds_toArray, List.set_cons_zero, List.set_cons_succ]
                  refine takeL (i := 32) (oi := _) (v := ?_) rfl (by kernel_rfl) (by kernel_rfl) (by kernel_rfl) (fun _ _ _ h => h) (by rfl) ?_ hHeld ?_
                  rotate_left
                  · intro w hSw; (try dsimp only at hSw); go_simp; try with_reducible rfl
                  try simp only [Act.put, List.setIfInBounds_toArray, List.set_cons_zero, List.set_cons_succ]
                  refine wpAnyH_done (by kernel_rfl) ?_ _
                  refine NoPanic.normal ?_
                  go_wp2
                  go_ret
                  exact ⟨rfl, gr8⟩
                exact AllReadyH.nil
              exact AllReadyH.nil
            exact AllReadyH.nil
          refine consL (oi := _) rfl (fun K hK => ?_) ?_
          · go_simp
            refine hK.out _ _ ?_ (fun hNew => ?_)
            · exact hkeep _ (by first | assumption | exact Gr.drew (by assumption) lf | exact Gr.alloc (by assumption) lf _ | exact Gr.drew (Gr.alloc (by assumption) lf _) lf | exact Gr.alloc (Gr.drew (by assumption) lf) lf _)
            clear hK K hHeld
            have hHeld := hNew
            clear hNew
            try simp only [Act.put, List.setIfInBounds_toArray, List.set_cons_zero, List.set_cons_succ]
            refine wpAnyH_ready (rs := [20]) (by kernel_rfl) (by simp) ?_
            refine consL (oi := _) rfl (fun K hK => ?_) ?_
            · go_simp
              (go_at_call 82; (with_reducible refine (hcE _ (by first | assumption | exact Gr.drew (by assumption) lf | exact Gr.alloc (by assumption) lf _ | exact Gr.drew (Gr.alloc (by assumption) lf _) lf | exact Gr.alloc (Gr.drew (by assumption) lf) lf _)).mono ?_); rintro e w6 ⟨a6, c6, rfl, hown6, hb6⟩; have gr6 : Gr bf W w6 := Gr.below (by first | assumption | exact Gr.drew (by assumption) lf | exact Gr.alloc (by assumption) lf _ | exact Gr.drew (Gr.alloc (by assumption) lf _) lf | exact Gr.alloc (Gr.drew (by assumption) lf) lf _) hb6 lf; have hz6 := gr6.g.size; have hy6 := hb6.size; (try simp at hy6))
              (try go_wp2_with fail)
              refine hK.out _ _ ?_ (fun hNew => ?_)
              · exact hkeep _ (by first | assumption | exact Gr.drew (by assumption) lf | exact Gr.alloc (by assumption) lf _ | exact Gr.drew (Gr.alloc (by assumption) lf _) lf | exact Gr.alloc (Gr.drew (by assumption) lf) lf _)
              clear hK K hHeld
              have hHeld := hNew
              clear hNew
              try simp only [Act.put, List.setIfInBounds_toArray, List.set_cons_zero, List.set_cons_succ]
              refine wpAnyH_ready (rs := [26]) (by kernel_rfl) (by simp) ?_
              refine consL (oi := _) rfl (fun K hK => ?_) ?_
              · (first | (refine step_app elE (by rfl) _ _ rfl W.heap.size a6 kept.length c6 _ rfl (OwnL.base_le hown6 (by first | omega | (simp; done) | (simp; omega))) _ 1 1 _ rfl rfl (Cells.src (Cells.below (Cells.new _ _ _) hb6)) (by simp [Value.oneCell']) (by omega) (by unfold maxLen; omega) (by omega) (by first | omega | (simp; done) | (simp; omega)) ?_; intro g7 cg7 w7 howng7 hb7; have gr7 : Gr bf W w7 := Gr.low (by first | assumption | exact Gr.drew (by assumption) lf | exact Gr.alloc (by assumption) lf _ | exact Gr.drew (Gr.alloc (by assumption) lf _) lf | exact Gr.alloc (Gr.drew (by assumption) lf) lf _) hb7 lf; have hz7 := gr7.g.size) | (refine step_app elE (by rfl) _ _ rfl W.heap.size a6 kept.length c6 _ rfl (OwnL.base_le hown6 (by first | omega | (simp; done) | (simp; omega))) _ 1 1 _ rfl rfl (Cells.src (Cells.below (Cells.below (Cells.new _ _ _) ((Below.refl _ _).drew)) hb6)) (by simp [Value.oneCell']) (by omega) (by unfold maxLen; omega) (by omega) (by first | omega | (simp; done) | (simp; omega)) ?_; intro g7 cg7 w7 howng7 hb7; have gr7 : Gr bf W w7 := Gr.low (by first | assumption | exact Gr.drew (by assumption) lf | exact Gr.alloc (by assumption) lf _ | exact Gr.drew (Gr.alloc (by assumption) lf _) lf | exact Gr.alloc (Gr.drew (by assumption) lf) lf _) hb7 lf; have hz7 := gr7.g.size))
                refine hK.out _ _ ?_ (fun hNew => ?_)
                · exact hkeep _ (by first | assumption | exact Gr.drew (by assumption) lf | exact Gr.alloc (by assumption) lf _ | exact Gr.drew (Gr.alloc (by assumption) lf _) lf | exact Gr.alloc (Gr.drew (by assumption) lf) lf _)
                clear hK K hHeld
                have hHeld := hNew
                clear hNew
                try simp only [Act.put, List.setIfInBounds_toArray, List.set_cons_zero, List.set_cons_succ]
                refine wpAnyH_ready (rs := [30]) (by kernel_rfl) (by simp) ?_
                refine consL (oi := _) rfl (fun K hK => ?_) ?_
                · go_simp
                  (go_at_call 79; (with_reducible refine (hL2 _ gr7 _ _ howng7).mono ?_); rintro e w8 ⟨rfl, hg8⟩; have gr8 : Gr bf W w8 := gr7.trans hg8)
                  (try go_wp2_with fail)
                  refine hK.out _ _ ?_ (fun hNew => ?_)
                  · exact hkeep _ (by first | assumption | exact Gr.drew (by assumption) lf | exact Gr.alloc (by assumption) lf _ | exact Gr.drew (Gr.alloc (by assumption) lf _) lf | exact Gr.alloc (Gr.drew (by assumption) lf) lf _)
                  clear hK K hHeld
                  have hHeld := hNew
                  clear hNew
                  try simp only [Act.put, List.setIfInBounds_toArray, List.set_cons_zero, List.set_cons_succ]
                  refine takeL (i := 31) (oi := _) (v := ?_) rfl (by kernel_rfl) (by kernel_rfl) (by kernel_rfl) (fun _ _ _ h => h) (by rfl) ?_ hHeld ?_
                  rotate_left
                  · intro w hSw; (try dsimp only at hSw); go_simp; try with_reducible rfl
                  try simp only [Act.put, List.setIfInBounds_toArray, List.set_cons_zero, List.set_cons_succ]
                  refine takeL (i := 32) (oi := _) (v := ?_) rfl (by kernel_rfl) (by kernel_rfl) (by kernel_rfl) (fun _ _ _ h => h) (by rfl) ?_ hHeld ?_
                  rotate_left
                  · intro w hSw; (try dsimp only at hSw); go_simp; try with_reducible rfl
                  try simp only [Act.put, List.setIfInBounds_toArray, List.set_cons_zero, List.set_cons_succ]
                  refine wpAnyH_done (by kernel_rfl) ?_ _
                  refine NoPanic.normal ?_
                  go_wp2
                  go_ret
                  exact ⟨rfl, gr8⟩
                exact AllReadyH.nil
              exact AllReadyH.nil
            exact AllReadyH.nil
          exact AllReadyH.nil
        | some z =>
          go_wp2
          refine wp_region_noPanic ?_
          refine wp_region_held_drew (S := (fun w' => w'.cell? ⟨bn, 0, none⟩ = some (.func (.func 79) #[] #[.pointer (some ⟨bl, 0, none⟩), .pointer (some ⟨bf, 0, none⟩), .pointer (some ⟨bw, 0, none⟩), .pointer (some ⟨bn, 0, none⟩)]) ∧ w'.cell? ⟨bl, 0, none⟩ = some (.slice (some ⟨be, offe, none⟩) l.length cl) ∧ w'.cell? ⟨be, offe + i * 3, none⟩ = some (.int .i64 en.num) ∧ w'.cell? ⟨be, offe + i * 3 + 1, none⟩ = some (.int .i64 en.at_) ∧ w'.cell? ⟨be, offe + i * 3 + 2, none⟩ = some (.bool en.skip))) (by kernel_rfl) ?_ (fun hHeld => ?_)
          · exact hkeep _ (by first | assumption | exact Gr.drew (by assumption) lf | exact Gr.alloc (by assumption) lf _ | exact Gr.drew (Gr.alloc (by assumption) lf _) lf | exact Gr.alloc (Gr.drew (by assumption) lf) lf _)
          refine takeL (i := 0) (oi := _) (v := ?_) rfl (by kernel_rfl) (by kernel_rfl) (by kernel_rfl) (fun _ _ _ h => h) (by rfl) ?_ hHeld ?_
          rotate_left
          · intro w hSw; (try dsimp only at hSw); go_simp; try with_reducible rfl
          try simp only [Act.put, List.setIfInBounds_toArray, List.set_cons_zero, List.set_cons_succ]
          refine takeL (i := 1) (oi := _) (v := ?_) rfl (by kernel_rfl) (by kernel_rfl) (by kernel_rfl) (fun _ _ _ h => h) (by rfl) ?_ hHeld ?_
          rotate_left
          · intro w hSw; (try dsimp only at hSw); go_simp; try with_reducible rfl
          try simp only [Act.put, List.setIfInBounds_toArray, List.set_cons_zero, List.set_cons_succ]
          refine takeL (i := 2) (oi := _) (v := ?_) rfl (by kernel_rfl) (by kernel_rfl) (by kernel_rfl) (fun _ _ _ h => h) (by rfl) ?_ hHeld ?_
          rotate_left
          · intro w hSw; (try dsimp only at hSw); go_simp; try with_reducible rfl
          try simp only [Act.put, List.setIfInBounds_toArray, List.set_cons_zero, List.set_cons_succ]
          refine skipL (i := 3) (oi := _) rfl (by kernel_rfl) (by kernel_rfl) (by kernel_rfl) (fun _ _ _ h => h) (by rfl) hHeld ?_
          try simp only [Act.put, List.setIfInBounds_toArray, List.set_cons_zero, List.set_cons_succ]
          refine skipL (i := 4) (oi := _) rfl (by kernel_rfl) (by kernel_rfl) (by kernel_rfl) (fun _ _ _ h => h) (by rfl) hHeld ?_
          try simp only [Act.put, List.setIfInBounds_toArray, List.set_cons_zero, List.set_cons_succ]
          refine skipL (i := 5) (oi := _) rfl (by kernel_rfl) (by kernel_rfl) (by kernel_rfl) (fun _ _ _ h => h) (by rfl) hHeld ?_
          try simp only [Act.put, List.setIfInBounds_toArray, List.set_cons_zero, List.set_cons_succ]
          refine skipL (i := 6) (oi := _) rfl (by kernel_rfl) (by kernel_rfl) (by kernel_rfl) (fun _ _ _ h => h) (by rfl) hHeld ?_
          try simp only [Act.put, List.setIfInBounds_toArray, List.set_cons_zero, List.set_cons_succ]
          refine skipL (i := 7) (oi := _) rfl (by kernel_rfl) (by kernel_rfl) (by kernel_rfl) (fun _ _ _ h => h) (by rfl) hHeld ?_
          try simp only [Act.put, List.setIfInBounds_toArray, List.set_cons_zero, List.set_cons_succ]
          refine skipL (i := 8) (oi := _) rfl (by kernel_rfl) (by kernel_rfl) (by kernel_rfl) (fun _ _ _ h => h) (by rfl) hHeld ?_
          try simp only [Act.put, List.setIfInBounds_toArray, List.set_cons_zero, List.set_cons_succ]
          refine skipL (i := 9) (oi := _) rfl (by kernel_rfl) (by kernel_rfl) (by kernel_rfl) (fun _ _ _ h => h) (by rfl) hHeld ?_
          try simp only [Act.put, List.setIfInBounds_toArray, List.set_cons_zero, List.set_cons_succ]
          refine skipL (i := 10) (oi := _) rfl (by kernel_rfl) (by kernel_rfl) (by kernel_rfl) (fun _ _ _ h => h) (by rfl) hHeld ?_
          try simp only [Act.put, List.setIfInBounds_toArray, List.set_cons_zero, List.set_cons_succ]
          refine skipL (i := 11) (oi := _) rfl (by kernel_rfl) (by kernel_rfl) (by kernel_rfl) (fun _ _ _ h => h) (by rfl) hHeld ?_
          try simp only [Act.put, List.setIfInBounds_toArray, List.set_cons_zero, List.set_cons_succ]
          refine skipL (i := 12) (oi := _) rfl (by kernel_rfl) (by kernel_rfl) (by kernel_rfl) (fun _ _ _ h => h) (by rfl) hHeld ?_
          try simp only [Act.put, List.setIfInBounds_toArray, List.set_cons_zero, List.set_cons_succ]
          refine skipL (i := 13) (oi := _) rfl (by kernel_rfl) (by kernel_rfl) (by kernel_rfl) (fun _ _ _ h => h) (by rfl) hHeld ?_
          try simp only [Act.put, List.setIfInBounds_toArray, List.set_cons_zero, List.set_cons_succ]
          refine skipL (i := 14) (oi := _) rfl (by kernel_rfl) (by kernel_rfl) (by kernel_rfl) (fun _ _ _ h => h) (by rfl) hHeld ?_
          try simp only [Act.put, List.setIfInBounds_toArray, List.set_cons_zero, List.set_cons_succ]
          refine takeL (i := 15) (oi := _) (v := ?_) rfl (by kernel_rfl) (by kernel_rfl) (by kernel_rfl) (fun _ _ _ h => h) (by rfl) ?_ hHeld ?_
          rotate_left
          · intro w hSw; (try dsimp only at hSw); go_simp; try with_reducible rfl
          try simp only [Act.put, List.setIfInBounds_toArray, List.set_cons_zero, List.set_cons_succ]
          refine takeL (i := 16) (oi := _) (v := ?_) rfl (by kernel_rfl) (by kernel_rfl) (by kernel_rfl) (fun _ _ _ h => h) (by rfl) ?_ hHeld ?_
          rotate_left
          · intro w hSw; (try dsimp only at hSw); go_simp; try with_reducible rfl
          try simp only [Act.put, List.setIfInBounds_toArray, List.set_cons_zero, List.set_cons_succ]
          refine takeL (i := 17) (oi := _) (v := ?_) rfl (by kernel_rfl) (by kernel_rfl) (by kernel_rfl) (fun _ _ _ h => h) (by rfl) ?_ hHeld ?_
          rotate_left
          · intro w hSw; (try dsimp only at hSw); go_simp; try with_reducible rfl
          try simp only [Act.put, List.setIfInBounds_toArray, List.set_cons_zero, List.set_cons_succ]
          refine takeL (i := 18) (oi := _) (v := ?_) rfl (by kernel_rfl) (by kernel_rfl) (by kernel_rfl) (fun _ _ _ h => h) (by rfl) ?_ hHeld ?_
          rotate_left
          · intro w hSw; (try dsimp only at hSw); go_simp; try with_reducible rfl
          try simp only [Act.put, List.setIfInBounds_toArray, List.set_cons_zero, List.set_cons_succ]
          refine takeL (i := 19) (oi := _) (v := ?_) rfl (by kernel_rfl) (by kernel_rfl) (by kernel_rfl) (fun _ _ _ h => h) (by rfl) ?_ hHeld ?_
          rotate_left
          · intro w hSw; (try dsimp only at hSw); go_simp; try with_reducible rfl
          try simp only [Act.put, List.setIfInBounds_toArray, List.set_cons_zero, List.set_cons_succ]
          refine takeL (i := 21) (oi := _) (v := ?_) rfl (by kernel_rfl) (by kernel_rfl) (by kernel_rfl) (fun _ _ _ h => h) (by rfl) ?_ hHeld ?_
          rotate_left
          · intro w hSw; (try dsimp only at hSw); go_simp; try with_reducible rfl
          try simp only [Act.put, List.setIfInBounds_toArray, List.set_cons_zero, List.set_cons_succ]
          refine takeL (i := 22) (oi := _) (v := ?_) rfl (by kernel_rfl) (by kernel_rfl) (by kernel_rfl) (fun _ _ _ h => h) (by rfl) ?_ hHeld ?_
          rotate_left
          · intro w hSw; (try dsimp only at hSw); go_simp; try with_reducible rfl
          try simp only [Act.put, List.setIfInBounds_toArray, List.set_cons_zero, List.set_cons_succ]
          refine takeL (i := 23) (oi := _) (v := ?_) rfl (by kernel_rfl) (by kernel_rfl) (by kernel_rfl) (fun _ _ _ h => h) (by rfl) ?_ hHeld ?_
          rotate_left
          · intro w hSw; (try dsimp only at hSw); go_simp; try with_reducible rfl
          try simp only [Act.put, List.setIfInBounds_toArray, List.set_cons_zero, List.set_cons_succ]
          refine takeL (i := 24) (oi := _) (v := ?_) rfl (by kernel_rfl) (by kernel_rfl) (by kernel_rfl) (fun _ _ _ h => h) (by rfl) ?_ hHeld ?_
          rotate_left
          · intro w hSw; (try dsimp only at hSw); go_simp; try with_reducible rfl
          try simp only [Act.put, List.setIfInBounds_toArray, List.set_cons_zero, List.set_cons_succ]
          refine takeL (i := 27) (oi := _) (v := ?_) rfl (by kernel_rfl) (by kernel_rfl) (by kernel_rfl) (fun _ _ _ h => h) (by rfl) ?_ hHeld ?_
          rotate_left
          · intro w hSw; (try dsimp only at hSw); go_simp; try with_reducible rfl
          try simp only [Act.put, List.setIfInBounds_toArray, List.set_cons_zero, List.set_cons_succ]
          refine takeL (i := 28) (oi := _) (v := ?_) rfl (by kernel_rfl) (by kernel_rfl) (by kernel_rfl) (fun _ _ _ h => h) (by rfl) ?_ hHeld ?_
          rotate_left
          · intro w hSw; (try dsimp only at hSw); go_simp; try with_reducible rfl
          try simp only [Act.put, List.setIfInBounds_toArray, List.set_cons_zero, List.set_cons_succ]
          refine takeL (i := 29) (oi := _) (v := ?_) rfl (by kernel_rfl) (by kernel_rfl) (by kernel_rfl) (fun _ _ _ h => h) (by rfl) ?_ hHeld ?_
          rotate_left
          · intro w hSw; (try dsimp only at hSw); go_simp; try with_reducible rfl
          try simp only [Act.put, List.setIfInBounds_toArray, List.set_cons_zero, List.set_cons_succ]
          refine wpAnyH_ready (rs := [20, 25]) (by kernel_rfl) (by simp) ?_
          refine consL (oi := _) rfl (fun K hK => ?_) ?_
          · go_simp
            (go_at_call 82; (with_reducible refine (hcE _ (by first | assumption | exact Gr.drew (by assumption) lf | exact Gr.alloc (by assumption) lf _ | exact Gr.drew (Gr.alloc (by assumption) lf _) lf | exact Gr.alloc (Gr.drew (by assumption) lf) lf _)).mono ?_); rintro e w6 ⟨a6, c6, rfl, hown6, hb6⟩; have gr6 : Gr bf W w6 := Gr.below (by first | assumption | exact Gr.drew (by assumption) lf | exact Gr.alloc (by assumption) lf _ | exact Gr.drew (Gr.alloc (by assumption) lf _) lf | exact Gr.alloc (Gr.drew (by assumption) lf) lf _) hb6 lf; have hz6 := gr6.g.size; have hy6 := hb6.size; (try simp at hy6))
            (try go_wp2_with fail)
            refine hK.out _ _ ?_ (fun hNew => ?_)
            · exact hkeep _ (by first | assumption | exact Gr.drew (by assumption) lf | exact Gr.alloc (by assumption) lf _ | exact Gr.drew (Gr.alloc (by assumption) lf _) lf | exact Gr.alloc (Gr.drew (by assumption) lf) lf _)
            clear hK K hHeld
            have hHeld := hNew
            clear hNew
            try simp only [Act.put, List.setIfInBounds_toArray, List.set_cons_zero, List.set_cons_succ]
            refine wpAnyH_ready (rs := [25]) (by kernel_rfl) (by simp) ?_
            refine consL (oi := _) rfl (fun K hK => ?_) ?_
            · go_simp
              refine hK.out _ _ ?_ (fun hNew => ?_)
              · exact hkeep _ (by first | assumption | exact Gr.drew (by assumption) lf | exact Gr.alloc (by assumption) lf _ | exact Gr.drew (Gr.alloc (by assumption) lf _) lf | exact Gr.alloc (Gr.drew (by assumption) lf) lf _)
              clear hK K hHeld
              have hHeld := hNew
              clear hNew
              try simp only [Act.put, List.setIfInBounds_toArray, List.set_cons_zero, List.set_cons_succ]
              refine wpAnyH_ready (rs := [26]) (by kernel_rfl) (by simp) ?_
              refine consL (oi := _) rfl (fun K hK => ?_) ?_
              · (first | (refine step_app elE (by rfl) _ _ rfl W.heap.size a6 kept.length c6 _ rfl ((OwnL.base_le hown6 (by first | omega | (simp; done) | (simp; omega))).alloc _) _ 1 1 _ rfl rfl (Cells.src (Cells.new _ _ _)) (by simp [Value.oneCell']) (by omega) (by unfold maxLen; omega) (by omega) (by first | omega | (simp; done) | (simp; omega)) ?_; intro g7 cg7 w7 howng7 hb7; have gr7 : Gr bf W w7 := Gr.low (by first | assumption | exact Gr.drew (by assumption) lf | exact Gr.alloc (by assumption) lf _ | exact Gr.drew (Gr.alloc (by assumption) lf _) lf | exact Gr.alloc (Gr.drew (by assumption) lf) lf _) hb7 lf; have hz7 := gr7.g.size) | (refine step_app elE (by rfl) _ _ rfl W.heap.size a6 kept.length c6 _ rfl ((OwnL.base_le hown6 (by first | omega | (simp; done) | (simp; omega))).alloc _) _ 1 1 _ rfl rfl (Cells.src (Cells.new _ _ _)) (by simp [Value.oneCell']) (by omega) (by unfold maxLen; omega) (by omega) (by first | omega | (simp; done) | (simp; omega)) ?_; intro g7 cg7 w7 howng7 hb7; have gr7 : Gr bf W w7 := Gr.low (by first | assumption | exact Gr.drew (by assumption) lf | exact Gr.alloc (by assumption) lf _ | exact Gr.drew (Gr.alloc (by assumption) lf _) lf | exact Gr.alloc (Gr.drew (by assumption) lf) lf _) hb7 lf; have hz7 := gr7.g.size))
                refine hK.out _ _ ?_ (fun hNew => ?_)
                · exact hkeep _ (by first | assumption | exact Gr.drew (by assumption) lf | exact Gr.alloc (by assumption) lf _ | exact Gr.drew (Gr.alloc (by assumption) lf _) lf | exact Gr.alloc (Gr.drew (by assumption) lf) lf _)
                clear hK K hHeld
                have hHeld := hNew
                clear hNew
                try simp only [Act.put, List.setIfInBounds_toArray, List.set_cons_zero, List.set_cons_succ]
                refine wpAnyH_ready (rs := [30]) (by kernel_rfl) (by simp) ?_
                refine consL (oi := _) rfl (fun K hK => ?_) ?_
                · go_simp
                  (go_at_call 79; (with_reducible refine (hL2 _ gr7 _ _ howng7).mono ?_); rintro e w8 ⟨rfl, hg8, a9, c9, hf9, hi9⟩; have gr8 : Gr bf W w8 := gr7.trans hg8)
                  (try go_wp2_with fail)
                  refine hK.out _ _ ?_ (fun hNew => ?_)
                  · exact hkeep _ (by first | assumption | exact Gr.drew (by assumption) lf | exact Gr.alloc (by assumption) lf _ | exact Gr.drew (Gr.alloc (by assumption) lf _) lf | exact Gr.alloc (Gr.drew (by assumption) lf) lf _)
                  clear hK K hHeld
                  have hHeld := hNew
                  clear hNew
                  try simp only [Act.put, List.setIfInBounds_toArray, List.set_cons_zero, List.set_cons_succ]
                  refine takeL (i := 31) (oi := _) (v := ?_) rfl (by kernel_rfl) (by kernel_rfl) (by kernel_rfl) (fun _ _ _ h => h) (by rfl) ?_ hHeld ?_
                  rotate_left
                  · intro w hSw; (try dsimp only at hSw); go_simp; try with_reducible rfl
                  try simp only [Act.put, List.setIfInBounds_toArray, List.set_cons_zero, List.set_cons_succ]
                  refine takeL (i := 32) (oi := _) (v := ?_) rfl (by kernel_rfl) (by kernel_rfl) (by kernel_rfl) (fun _ _ _ h => h) (by rfl) ?_ hHeld ?_
                  rotate_left
                  · intro w hSw; (try dsimp only at hSw); go_simp; try with_reducible rfl
                  try simp only [Act.put, List.setIfInBounds_toArray, List.set_cons_zero, List.set_cons_succ]
                  refine wpAnyH_done (by kernel_rfl) ?_ _
                  refine NoPanic.normal ?_
                  go_wp2
                  go_ret
                  exact ⟨rfl, gr8, a9, c9, hf9, hi9⟩
                exact AllReadyH.nil
              exact AllReadyH.nil
            exact AllReadyH.nil
          refine consL (oi := _) rfl (fun K hK => ?_) ?_
          · go_simp
            refine hK.out _ _ ?_ (fun hNew => ?_)
            · exact hkeep _ (by first | assumption | exact Gr.drew (by assumption) lf | exact Gr.alloc (by assumption) lf _ | exact Gr.drew (Gr.alloc (by assumption) lf _) lf | exact Gr.alloc (Gr.drew (by assumption) lf) lf _)
            clear hK K hHeld
            have hHeld := hNew
            clear hNew
            try simp only [Act.put, List.setIfInBounds_toArray, List.set_cons_zero, List.set_cons_succ]
            refine wpAnyH_ready (rs := [20]) (by kernel_rfl) (by simp) ?_
            refine consL (oi := _) rfl (fun K hK => ?_) ?_
            · go_simp
              (go_at_call 82; (with_reducible refine (hcE _ (by first | assumption | exact Gr.drew (by assumption) lf | exact Gr.alloc (by assumption) lf _ | exact Gr.drew (Gr.alloc (by assumption) lf _) lf | exact Gr.alloc (Gr.drew (by assumption) lf) lf _)).mono ?_); rintro e w6 ⟨a6, c6, rfl, hown6, hb6⟩; have gr6 : Gr bf W w6 := Gr.below (by first | assumption | exact Gr.drew (by assumption) lf | exact Gr.alloc (by assumption) lf _ | exact Gr.drew (Gr.alloc (by assumption) lf _) lf | exact Gr.alloc (Gr.drew (by assumption) lf) lf _) hb6 lf; have hz6 := gr6.g.size; have hy6 := hb6.size; (try simp at hy6))
              (try go_wp2_with fail)
              refine hK.out _ _ ?_ (fun hNew => ?_)
              · exact hkeep _ (by first | assumption | exact Gr.drew (by assumption) lf | exact Gr.alloc (by assumption) lf _ | exact Gr.drew (Gr.alloc (by assumption) lf _) lf | exact Gr.alloc (Gr.drew (by assumption) lf) lf _)
              clear hK K hHeld
              have hHeld := hNew
              clear hNew
              try simp only [Act.put, List.setIfInBounds_toArray, List.set_cons_zero, List.set_cons_succ]
              refine wpAnyH_ready (rs := [26]) (by kernel_rfl) (by simp) ?_
              refine consL (oi := _) rfl (fun K hK => ?_) ?_
              · (first | (refine step_app elE (by rfl) _ _ rfl W.heap.size a6 kept.length c6 _ rfl (OwnL.base_le hown6 (by first | omega | (simp; done) | (simp; omega))) _ 1 1 _ rfl rfl (Cells.src (Cells.below (Cells.new _ _ _) hb6)) (by simp [Value.oneCell']) (by omega) (by unfold maxLen; omega) (by omega) (by first | omega | (simp; done) | (simp; omega)) ?_; intro g7 cg7 w7 howng7 hb7; have gr7 : Gr bf W w7 := Gr.low (by first | assumption | exact Gr.drew (by assumption) lf | exact Gr.alloc (by assumption) lf _ | exact Gr.drew (Gr.alloc (by assumption) lf _) lf | exact Gr.alloc (Gr.drew (by assumption) lf) lf _) hb7 lf; have hz7 := gr7.g.size) | (refine step_app elE (by rfl) _ _ rfl W.heap.size a6 kept.length c6 _ rfl (OwnL.base_le hown6 (by first | omega | (simp; done) | (simp; omega))) _ 1 1 _ rfl rfl (Cells.src (Cells.below (Cells.below (Cells.new _ _ _) ((Below.refl _ _).drew)) hb6)) (by simp [Value.oneCell']) (by omega) (by unfold maxLen; omega) (by omega) (by first | omega | (simp; done) | (simp; omega)) ?_; intro g7 cg7 w7 howng7 hb7; have gr7 : Gr bf W w7 := Gr.low (by first | assumption | exact Gr.drew (by assumption) lf | exact Gr.alloc (by assumption) lf _ | exact Gr.drew (Gr.alloc (by assumption) lf _) lf | exact Gr.alloc (Gr.drew (by assumption) lf) lf _) hb7 lf; have hz7 := gr7.g.size))
                refine hK.out _ _ ?_ (fun hNew => ?_)
                · exact hkeep _ (by first | assumption | exact Gr.drew (by assumption) lf | exact Gr.alloc (by assumption) lf _ | exact Gr.drew (Gr.alloc (by assumption) lf _) lf | exact Gr.alloc (Gr.drew (by assumption) lf) lf _)
                clear hK K hHeld
                have hHeld := hNew
                clear hNew
                try simp only [Act.put, List.setIfInBounds_toArray, List.set_cons_zero, List.set_cons_succ]
                refine wpAnyH_ready (rs := [30]) (by kernel_rfl) (by simp) ?_
                refine consL (oi := _) rfl (fun K hK => ?_) ?_
                · go_simp
                  (go_at_call 79; (with_reducible refine (hL2 _ gr7 _ _ howng7).mono ?_); rintro e w8 ⟨rfl, hg8, a9, c9, hf9, hi9⟩; have gr8 : Gr bf W w8 := gr7.trans hg8)
                  (try go_wp2_with fail)
                  refine hK.out _ _ ?_ (fun hNew => ?_)
                  · exact hkeep _ (by first | assumption | exact Gr.drew (by assumption) lf | exact Gr.alloc (by assumption) lf _ | exact Gr.drew (Gr.alloc (by assumption) lf _) lf | exact Gr.alloc (Gr.drew (by assumption) lf) lf _)
                  clear hK K hHeld
                  have hHeld := hNew
                  clear hNew
                  try simp only [Act.put, List.setIfInBounds_toArray, List.set_cons_zero, List.set_cons_succ]
                  refine takeL (i := 31) (oi := _) (v := ?_) rfl (by kernel_rfl) (by kernel_rfl) (by kernel_rfl) (fun _ _ _ h => h) (by rfl) ?_ hHeld ?_
                  rotate_left
                  · intro w hSw; (try dsimp only at hSw); go_simp; try with_reducible rfl
                  try simp only [Act.put, List.setIfInBounds_toArray, List.set_cons_zero, List.set_cons_succ]
                  refine takeL (i := 32) (oi := _) (v := ?_) rfl (by kernel_rfl) (by kernel_rfl) (by kernel_rfl) (fun _ _ _ h => h) (by rfl) ?_ hHeld ?_
                  rotate_left
                  · intro w hSw; (try dsimp only at hSw); go_simp; try with_reducible rfl
                  try simp only [Act.put, List.setIfInBounds_toArray, List.set_cons_zero, List.set_cons_succ]
                  refine wpAnyH_done (by kernel_rfl) ?_ _
                  refine NoPanic.normal ?_
                  go_wp2
                  go_ret
                  exact ⟨rfl, gr8, a9, c9, hf9, hi9⟩
                exact AllReadyH.nil
              exact AllReadyH.nil
            exact AllReadyH.nil
          exact AllReadyH.nil
      · have hmI : (0 : Int) < mm := by omega
        rw [if_pos (by omega)] at hR
        obtain ⟨m1, hm1⟩ : ∃ z : Int, ((m - 1 : Nat) : Int) = z := ⟨_, rfl⟩
        have hwm : IntKind.i64.wrap (mm - 1) = m1 := by rw [IntWalk.i64_in _ (by omega), ← hm1]; omega
        replace hL1 := hL1 (m - 1) m1 (by omega) hm1
        obtain ⟨o1, ho1⟩ : ∃ o, leaveR p l r (i + 1) (out ++ [(i : Int)]) kept (m - 1) = o := ⟨_, rfl⟩
        rw [ho1] at hR hL1
        clear ho1 hm1 hmm
        go_enter Try.func79, Try.ntmps79
        cases o1 with
        | some z =>
          obtain rfl : oo = some z := hR.out
          clear hR hL2
          go_wp2
          refine wp_region_noPanic ?_
          refine wp_region_held_drew (S := (fun w' => w'.cell? ⟨bn, 0, none⟩ = some (.func (.func 79) #[] #[.pointer (some ⟨bl, 0, none⟩), .pointer (some ⟨bf, 0, none⟩), .pointer (some ⟨bw, 0, none⟩), .pointer (some ⟨bn, 0, none⟩)]) ∧ w'.cell? ⟨bl, 0, none⟩ = some (.slice (some ⟨be, offe, none⟩) l.length cl) ∧ w'.cell? ⟨be, offe + i * 3, none⟩ = some (.int .i64 en.num) ∧ w'.cell? ⟨be, offe + i * 3 + 1, none⟩ = some (.int .i64 en.at_) ∧ w'.cell? ⟨be, offe + i * 3 + 2, none⟩ = some (.bool en.skip))) (by kernel_rfl) ?_ (fun hHeld => ?_)
          · exact hkeep _ (by first | assumption | exact Gr.drew (by assumption) lf | exact Gr.alloc (by assumption) lf _ | exact Gr.drew (Gr.alloc (by assumption) lf _) lf | exact Gr.alloc (Gr.drew (by assumption) lf) lf _)
          refine takeL (i := 0) (oi := _) (v := ?_) rfl (by kernel_rfl) (by kernel_rfl) (by kernel_rfl) (fun _ _ _ h => h) (by rfl) ?_ hHeld ?_
          rotate_left
          · intro w hSw; (try dsimp only at hSw); go_simp; try with_reducible rfl
          try simp only [Act.put, List.setIfInBounds_toArray, List.set_cons_zero, List.set_cons_succ]
          refine takeL (i := 1) (oi := _) (v := ?_) rfl (by kernel_rfl) (by kernel_rfl) (by kernel_rfl) (fun _ _ _ h => h) (by rfl) ?_ hHeld ?_
          rotate_left
          · intro w hSw; (try dsimp only at hSw); go_simp; try with_reducible rfl
          try simp only [Act.put, List.setIfInBounds_toArray, List.set_cons_zero, List.set_cons_succ]
          refine takeL (i := 2) (oi := _) (v := ?_) rfl (by kernel_rfl) (by kernel_rfl) (by kernel_rfl) (fun _ _ _ h => h) (by rfl) ?_ hHeld ?_
          rotate_left
          · intro w hSw; (try dsimp only at hSw); go_simp; try with_reducible rfl
          try simp only [Act.put, List.setIfInBounds_toArray, List.set_cons_zero, List.set_cons_succ]
          refine takeL (i := 3) (oi := _) (v := ?_) rfl (by kernel_rfl) (by kernel_rfl) (by kernel_rfl) (fun _ _ _ h => h) (by rfl) ?_ hHeld ?_
          rotate_left
          · intro w hSw; (try dsimp only at hSw); go_simp; try with_reducible rfl
          try simp only [Act.put, List.setIfInBounds_toArray, List.set_cons_zero, List.set_cons_succ]
          refine takeL (i := 4) (oi := _) (v := ?_) rfl (by kernel_rfl) (by kernel_rfl) (by kernel_rfl) (fun _ _ _ h => h) (by rfl) ?_ hHeld ?_
          rotate_left
          · intro w hSw; (try dsimp only at hSw); go_simp; try with_reducible rfl
          try simp only [Act.put, List.setIfInBounds_toArray, List.set_cons_zero, List.set_cons_succ]
          refine takeL (i := 6) (oi := _) (v := ?_) rfl (by kernel_rfl) (by kernel_rfl) (by kernel_rfl) (fun _ _ _ h => h) (by rfl) ?_ hHeld ?_
          rotate_left
          · intro w hSw; (try dsimp only at hSw); go_simp; try with_reducible rfl
          try simp only [Act.put, List.setIfInBounds_toArray, List.set_cons_zero, List.set_cons_succ]
          refine takeL (i := 9) (oi := _) (v := ?_) rfl (by kernel_rfl) (by kernel_rfl) (by kernel_rfl) (fun _ _ _ h => h) (by rfl) ?_ hHeld ?_
          rotate_left
          · intro w hSw; (try dsimp only at hSw); go_simp; try with_reducible rfl
          try simp only [Act.put, List.setIfInBounds_toArray, List.set_cons_zero, List.set_cons_succ]
          refine takeL (i := 10) (oi := _) (v := ?_) rfl (by kernel_rfl) (by kernel_rfl) (by kernel_rfl) (fun _ _ _ h => h) (by rfl) ?_ hHeld ?_
          rotate_left
          · intro w hSw; (try dsimp only at hSw); go_simp; try with_reducible rfl
          try simp only [Act.put, List.setIfInBounds_toArray, List.set_cons_zero, List.set_cons_succ]
          refine takeL (i := 11) (oi := _) (v := ?_) rfl (by kernel_rfl) (by kernel_rfl) (by kernel_rfl) (fun _ _ _ h => h) (by rfl) ?_ hHeld ?_
          rotate_left
          · intro w hSw; (try dsimp only at hSw); go_simp; try with_reducible rfl
          try simp only [Act.put, List.setIfInBounds_toArray, List.set_cons_zero, List.set_cons_succ]
          refine takeL (i := 12) (oi := _) (v := ?_) rfl (by kernel_rfl) (by kernel_rfl) (by kernel_rfl) (fun _ _ _ h => h) (by rfl) ?_ hHeld ?_
          rotate_left
          · intro w hSw; (try dsimp only at hSw); go_simp; try with_reducible rfl
          try simp only [Act.put, List.setIfInBounds_toArray, List.set_cons_zero, List.set_cons_succ]
          refine takeL (i := 13) (oi := _) (v := ?_) rfl (by kernel_rfl) (by kernel_rfl) (by kernel_rfl) (fun _ _ _ h => h) (by rfl) ?_ hHeld ?_
          rotate_left
          · intro w hSw; (try dsimp only at hSw); go_simp; try with_reducible rfl
          try simp only [Act.put, List.setIfInBounds_toArray, List.set_cons_zero, List.set_cons_succ]
          refine wpAnyH_ready (rs := [5, 7]) (by kernel_rfl) (by simp) ?_
          refine consL (oi := _) rfl (fun K hK => ?_) ?_
          · go_simp
            (go_at_call 81; (with_reducible refine (hcl _ (by first | assumption | exact Gr.drew (by assumption) lf | exact Gr.alloc (by assumption) lf _ | exact Gr.drew (Gr.alloc (by assumption) lf _) lf | exact Gr.alloc (Gr.drew (by assumption) lf) lf _)).mono ?_); rintro e w3 ⟨a3, c3, rfl, hown3, hb3⟩; have gr3 : Gr bf W w3 := Gr.below (by first | assumption | exact Gr.drew (by assumption) lf | exact Gr.alloc (by assumption) lf _ | exact Gr.drew (Gr.alloc (by assumption) lf _) lf | exact Gr.alloc (Gr.drew (by assumption) lf) lf _) hb3 lf; have hz3 := gr3.g.size; have hy3 := hb3.size; (try simp at hy3))
            (try go_wp2_with fail)
            refine hK.out _ _ ?_ (fun hNew => ?_)
            · exact hkeep _ (by first | assumption | exact Gr.drew (by assumption) lf | exact Gr.alloc (by assumption) lf _ | exact Gr.drew (Gr.alloc (by assumption) lf _) lf | exact Gr.alloc (Gr.drew (by assumption) lf) lf _)
            clear hK K hHeld
            have hHeld := hNew
            clear hNew
            try simp only [Act.put, List.setIfInBounds_toArray, List.set_cons_zero, List.set_cons_succ]
            refine wpAnyH_ready (rs := [7]) (by kernel_rfl) (by simp) ?_
            refine consL (oi := _) rfl (fun K hK => ?_) ?_
            · go_simp
              refine hK.out _ _ ?_ (fun hNew => ?_)
              · exact hkeep _ (by first | assumption | exact Gr.drew (by assumption) lf | exact Gr.alloc (by assumption) lf _ | exact Gr.drew (Gr.alloc (by assumption) lf _) lf | exact Gr.alloc (Gr.drew (by assumption) lf) lf _)
              clear hK K hHeld
              have hHeld := hNew
              clear hNew
              try simp only [Act.put, List.setIfInBounds_toArray, List.set_cons_zero, List.set_cons_succ]
              refine wpAnyH_ready (rs := [8]) (by kernel_rfl) (by simp) ?_
              refine consL (oi := _) rfl (fun K hK => ?_) ?_
              · (first | (refine step_app elI (by rfl) _ _ rfl W.heap.size a3 out.length c3 _ rfl ((OwnL.base_le hown3 (by first | omega | (simp; done) | (simp; omega))).alloc _) _ 1 1 _ rfl rfl (Cells.src (Cells.new _ _ _)) (by simp [Value.oneCell']) (by omega) (by unfold maxLen; omega) (by omega) (by first | omega | (simp; done) | (simp; omega)) ?_; intro g4 cg4 w4 howng4 hb4; have gr4 : Gr bf W w4 := Gr.low (by first | assumption | exact Gr.drew (by assumption) lf | exact Gr.alloc (by assumption) lf _ | exact Gr.drew (Gr.alloc (by assumption) lf _) lf | exact Gr.alloc (Gr.drew (by assumption) lf) lf _) hb4 lf; have hz4 := gr4.g.size) | (refine step_app elI (by rfl) _ _ rfl W.heap.size a3 out.length c3 _ rfl ((OwnL.base_le hown3 (by first | omega | (simp; done) | (simp; omega))).alloc _) _ 1 1 _ rfl rfl (Cells.src (Cells.new _ _ _)) (by simp [Value.oneCell']) (by omega) (by unfold maxLen; omega) (by omega) (by first | omega | (simp; done) | (simp; omega)) ?_; intro g4 cg4 w4 howng4 hb4; have gr4 : Gr bf W w4 := Gr.low (by first | assumption | exact Gr.drew (by assumption) lf | exact Gr.alloc (by assumption) lf _ | exact Gr.drew (Gr.alloc (by assumption) lf _) lf | exact Gr.alloc (Gr.drew (by assumption) lf) lf _) hb4 lf; have hz4 := gr4.g.size))
                refine hK.out _ _ ?_ (fun hNew => ?_)
                · exact hkeep _ (by first | assumption | exact Gr.drew (by assumption) lf | exact Gr.alloc (by assumption) lf _ | exact Gr.drew (Gr.alloc (by assumption) lf _) lf | exact Gr.alloc (Gr.drew (by assumption) lf) lf _)
                clear hK K hHeld
                have hHeld := hNew
                clear hNew
                try simp only [Act.put, List.setIfInBounds_toArray, List.set_cons_zero, List.set_cons_succ]
                refine wpAnyH_ready (rs := [14]) (by kernel_rfl) (by simp) ?_
                refine consL (oi := _) rfl (fun K hK => ?_) ?_
                · go_simp
                  (go_at_call 79; (with_reducible refine (hL1 _ gr4 _ _ howng4).mono ?_); rintro e w5 ⟨rfl, hg5, a9, c9, hf9, hi9⟩; have gr5 : Gr bf W w5 := gr4.trans hg5; have hz5 := gr5.g.size)
                  (try go_wp2_with fail)
                  refine hK.out _ _ ?_ (fun hNew => ?_)
                  · exact hkeep _ (by first | assumption | exact Gr.drew (by assumption) lf | exact Gr.alloc (by assumption) lf _ | exact Gr.drew (Gr.alloc (by assumption) lf _) lf | exact Gr.alloc (Gr.drew (by assumption) lf) lf _)
                  clear hK K hHeld
                  have hHeld := hNew
                  clear hNew
                  try simp only [Act.put, List.setIfInBounds_toArray, List.set_cons_zero, List.set_cons_succ]
                  refine takeL (i := 15) (oi := _) (v := ?_) rfl (by kernel_rfl) (by kernel_rfl) (by kernel_rfl) (fun _ _ _ h => h) (by rfl) ?_ hHeld ?_
                  rotate_left
                  · intro w hSw; (try dsimp only at hSw); go_simp; try with_reducible rfl
                  try simp only [Act.put, List.setIfInBounds_toArray, List.set_cons_zero, List.set_cons_succ]
                  refine takeL (i := 16) (oi := _) (v := ?_) rfl (by kernel_rfl) (by kernel_rfl) (by kernel_rfl) (fun _ _ _ h => h) (by rfl) ?_ hHeld ?_
                  rotate_left
                  · intro w hSw; (try dsimp only at hSw); go_simp; try with_reducible rfl
                  try simp only [Act.put, List.setIfInBounds_toArray, List.set_cons_zero, List.set_cons_succ]
                  refine skipL (i := 17) (oi := _) rfl (by kernel_rfl) (by kernel_rfl) (by kernel_rfl) (fun _ _ _ h => h) (by rfl) hHeld ?_
                  try simp only [Act.put, List.setIfInBounds_toArray, List.set_cons_zero, List.set_cons_succ]
                  refine skipL (i := 18) (oi := _) rfl (by kernel_rfl) (by kernel_rfl) (by kernel_rfl) (fun _ _ _ h => h) (by rfl) hHeld ?_
                  try simp only [Act.put, List.setIfInBounds_toArray, List.set_cons_zero, List.set_cons_succ]
                  refine skipL (i := 19) (oi := _) rfl (by kernel_rfl) (by kernel_rfl) (by kernel_rfl) (fun _ _ _ h => h) (by rfl) hHeld ?_
                  try simp only [Act.put, List.setIfInBounds_toArray, List.set_cons_zero, List.set_cons_succ]
                  refine skipL (i := 20) (oi := _) rfl (by kernel_rfl) (by kernel_rfl) (by kernel_rfl) (fun _ _ _ h => h) (by rfl) hHeld ?_
                  try simp only [Act.put, List.setIfInBounds_toArray, List.set_cons_zero, List.set_cons_succ]
                  refine skipL (i := 21) (oi := _) rfl (by kernel_rfl) (by kernel_rfl) (by kernel_rfl) (fun _ _ _ h => h) (by rfl) hHeld ?_
                  try simp only [Act.put, List.setIfInBounds_toArray, List.set_cons_zero, List.set_cons_succ]
                  refine skipL (i := 22) (oi := _) rfl (by kernel_rfl) (by kernel_rfl) (by kernel_rfl) (fun _ _ _ h => h) (by rfl) hHeld ?_
                  try simp only [Act.put, List.setIfInBounds_toArray, List.set_cons_zero, List.set_cons_succ]
                  refine skipL (i := 23) (oi := _) rfl (by kernel_rfl) (by kernel_rfl) (by kernel_rfl) (fun _ _ _ h => h) (by rfl) hHeld ?_
                  try simp only [Act.put, List.setIfInBounds_toArray, List.set_cons_zero, List.set_cons_succ]
                  refine skipL (i := 24) (oi := _) rfl (by kernel_rfl) (by kernel_rfl) (by kernel_rfl) (fun _ _ _ h => h) (by rfl) hHeld ?_
                  try simp only [Act.put, List.setIfInBounds_toArray, List.set_cons_zero, List.set_cons_succ]
                  refine skipL (i := 25) (oi := _) rfl (by kernel_rfl) (by kernel_rfl) (by kernel_rfl) (fun _ _ _ h => h) (by rfl) hHeld ?_
                  try simp only [Act.put, List.setIfInBounds_toArray, List.set_cons_zero, List.set_cons_succ]
                  refine skipL (i := 26) (oi := _) rfl (by kernel_rfl) (by kernel_rfl) (by kernel_rfl) (fun _ _ _ h => h) (by rfl) hHeld ?_
                  try simp only [Act.put, List.setIfInBounds_toArray, List.set_cons_zero, List.set_cons_succ]
                  refine skipL (i := 27) (oi := _) rfl (by kernel_rfl) (by kernel_rfl) (by kernel_rfl) (fun _ _ _ h => h) (by rfl) hHeld ?_
                  try simp only [Act.put, List.setIfInBounds_toArray, List.set_cons_zero, List.set_cons_succ]
                  refine skipL (i := 28) (oi := _) rfl (by kernel_rfl) (by kernel_rfl) (by kernel_rfl) (fun _ _ _ h => h) (by rfl) hHeld ?_
                  try simp only [Act.put, List.setIfInBounds_toArray, List.set_cons_zero, List.set_cons_succ]
                  refine skipL (i := 29) (oi := _) rfl (by kernel_rfl) (by kernel_rfl) (by kernel_rfl) (fun _ _ _ h => h) (by rfl) hHeld ?_
                  try simp only [Act.put, List.setIfInBounds_toArray, List.set_cons_zero, List.set_cons_succ]
                  refine skipL (i := 30) (oi := _) rfl (by kernel_rfl) (by kernel_rfl) (by kernel_rfl) (fun _ _ _ h => h) (by rfl) hHeld ?_
                  try simp only [Act.put, List.setIfInBounds_toArray, List.set_cons_zero, List.set_cons_succ]
                  refine takeL (i := 31) (oi := _) (v := ?_) rfl (by kernel_rfl) (by kernel_rfl) (by kernel_rfl) (fun _ _ _ h => h) (by rfl) ?_ hHeld ?_
                  rotate_left
                  · intro w hSw; (try dsimp only at hSw); go_simp; try with_reducible rfl
                  try simp only [Act.put, List.setIfInBounds_toArray, List.set_cons_zero, List.set_cons_succ]
                  refine takeL (i := 32) (oi := _) (v := ?_) rfl (by kernel_rfl) (by kernel_rfl) (by kernel_rfl) (fun _ _ _ h => h) (by rfl) ?_ hHeld ?_
                  rotate_left
                  · intro w hSw; (try dsimp only at hSw); go_simp; try with_reducible rfl
                  try simp only [Act.put, List.setIfInBounds_toArray, List.set_cons_zero, List.set_cons_succ]
                  refine wpAnyH_done (by kernel_rfl) ?_ _
                  refine NoPanic.normal ?_
                  go_wp2
                  go_ret
                  exact ⟨rfl, gr5, a9, c9, hf9, hi9⟩
                exact AllReadyH.nil
              exact AllReadyH.nil
            exact AllReadyH.nil
          refine consL (oi := _) rfl (fun K hK => ?_) ?_
          · go_simp
            refine hK.out _ _ ?_ (fun hNew => ?_)
            · exact hkeep _ (by first | assumption | exact Gr.drew (by assumption) lf | exact Gr.alloc (by assumption) lf _ | exact Gr.drew (Gr.alloc (by assumption) lf _) lf | exact Gr.alloc (Gr.drew (by assumption) lf) lf _)
            clear hK K hHeld
            have hHeld := hNew
            clear hNew
            try simp only [Act.put, List.setIfInBounds_toArray, List.set_cons_zero, List.set_cons_succ]
            refine wpAnyH_ready (rs := [5]) (by kernel_rfl) (by simp) ?_
            refine consL (oi := _) rfl (fun K hK => ?_) ?_
            · go_simp
              (go_at_call 81; (with_reducible refine (hcl _ (by first | assumption | exact Gr.drew (by assumption) lf | exact Gr.alloc (by assumption) lf _ | exact Gr.drew (Gr.alloc (by assumption) lf _) lf | exact Gr.alloc (Gr.drew (by assumption) lf) lf _)).mono ?_); rintro e w3 ⟨a3, c3, rfl, hown3, hb3⟩; have gr3 : Gr bf W w3 := Gr.below (by first | assumption | exact Gr.drew (by assumption) lf | exact Gr.alloc (by assumption) lf _ | exact Gr.drew (Gr.alloc (by assumption) lf _) lf | exact Gr.alloc (Gr.drew (by assumption) lf) lf _) hb3 lf; have hz3 := gr3.g.size; have hy3 := hb3.size; (try simp at hy3))
              (try go_wp2_with fail)
              refine hK.out _ _ ?_ (fun hNew => ?_)
              · exact hkeep _ (by first | assumption | exact Gr.drew (by assumption) lf | exact Gr.alloc (by assumption) lf _ | exact Gr.drew (Gr.alloc (by assumption) lf _) lf | exact Gr.alloc (Gr.drew (by assumption) lf) lf _)
              clear hK K hHeld
              have hHeld := hNew
              clear hNew
              try simp only [Act.put, List.setIfInBounds_toArray, List.set_cons_zero, List.set_cons_succ]
              refine wpAnyH_ready (rs := [8]) (by kernel_rfl) (by simp) ?_
              refine consL (oi := _) rfl (fun K hK => ?_) ?_
              · (first | (refine step_app elI (by rfl) _ _ rfl W.heap.size a3 out.length c3 _ rfl (OwnL.base_le hown3 (by first | omega | (simp; done) | (simp; omega))) _ 1 1 _ rfl rfl (Cells.src (Cells.below (Cells.new _ _ _) hb3)) (by simp [Value.oneCell']) (by omega) (by unfold maxLen; omega) (by omega) (by first | omega | (simp; done) | (simp; omega)) ?_; intro g4 cg4 w4 howng4 hb4; have gr4 : Gr bf W w4 := Gr.low (by first | assumption | exact Gr.drew (by assumption) lf | exact Gr.alloc (by assumption) lf _ | exact Gr.drew (Gr.alloc (by assumption) lf _) lf | exact Gr.alloc (Gr.drew (by assumption) lf) lf _) hb4 lf; have hz4 := gr4.g.size) | (refine step_app elI (by rfl) _ _ rfl W.heap.size a3 out.length c3 _ rfl (OwnL.base_le hown3 (by first | omega | (simp; done) | (simp; omega))) _ 1 1 _ rfl rfl (Cells.src (Cells.below (Cells.below (Cells.new _ _ _) ((Below.refl _ _).drew)) hb3)) (by simp [Value.oneCell']) (by omega) (by unfold maxLen; omega) (by omega) (by first | omega | (simp; done) | (simp; omega)) ?_; intro g4 cg4 w4 howng4 hb4; have gr4 : Gr bf W w4 := Gr.low (by first | assumption | exact Gr.drew (by assumption) lf | exact Gr.alloc (by assumption) lf _ | exact Gr.drew (Gr.alloc (by assumption) lf _) lf | exact Gr.alloc (Gr.drew (by assumption) lf) lf _) hb4 lf; have hz4 := gr4.g.size))
                refine hK.out _ _ ?_ (fun hNew => ?_)
                · exact hkeep _ (by first | assumption | exact Gr.drew (by assumption) lf | exact Gr.alloc (by assumption) lf _ | exact Gr.drew (Gr.alloc (by assumption) lf _) lf | exact Gr.alloc (Gr.drew (by assumption) lf) lf _)
                clear hK K hHeld
                have hHeld := hNew
                clear hNew
                try simp only [Act.put, List.setIfInBounds_toArray, List.set_cons_zero, List.set_cons_succ]
                refine wpAnyH_ready (rs := [14]) (by kernel_rfl) (by simp) ?_
                refine consL (oi := _) rfl (fun K hK => ?_) ?_
                · go_simp
                  (go_at_call 79; (with_reducible refine (hL1 _ gr4 _ _ howng4).mono ?_); rintro e w5 ⟨rfl, hg5, a9, c9, hf9, hi9⟩; have gr5 : Gr bf W w5 := gr4.trans hg5; have hz5 := gr5.g.size)
                  (try go_wp2_with fail)
                  refine hK.out _ _ ?_ (fun hNew => ?_)
                  · exact hkeep _ (by first | assumption | exact Gr.drew (by assumption) lf | exact Gr.alloc (by assumption) lf _ | exact Gr.drew (Gr.alloc (by assumption) lf _) lf | exact Gr.alloc (Gr.drew (by assumption) lf) lf _)
                  clear hK K hHeld
                  have hHeld := hNew
                  clear hNew
                  try simp only [Act.put, List.setIfInBounds_toArray, List.set_cons_zero, List.set_cons_succ]
                  refine takeL (i := 15) (oi := _) (v := ?_) rfl (by kernel_rfl) (by kernel_rfl) (by kernel_rfl) (fun _ _ _ h => h) (by rfl) ?_ hHeld ?_
                  rotate_left
                  · intro w hSw; (try dsimp only at hSw); go_simp; try with_reducible rfl
                  try simp only [Act.put, List.setIfInBounds_toArray, List.set_cons_zero, List.set_cons_succ]
                  refine takeL (i := 16) (oi := _) (v := ?_) rfl (by kernel_rfl) (by kernel_rfl) (by kernel_rfl) (fun _ _ _ h => h) (by rfl) ?_ hHeld ?_
                  rotate_left
                  · intro w hSw; (try dsimp only at hSw); go_simp; try with_reducible rfl
                  try simp only [Act.put, List.setIfInBounds_toArray, List.set_cons_zero, List.set_cons_succ]
                  refine skipL (i := 17) (oi := _) rfl (by kernel_rfl) (by kernel_rfl) (by kernel_rfl) (fun _ _ _ h => h) (by rfl) hHeld ?_
                  try simp only [Act.put, List.setIfInBounds_toArray, List.set_cons_zero, List.set_cons_succ]
                  refine skipL (i := 18) (oi := _) rfl (by kernel_rfl) (by kernel_rfl) (by kernel_rfl) (fun _ _ _ h => h) (by rfl) hHeld ?_
                  try simp only [Act.put, List.setIfInBounds_toArray, List.set_cons_zero, List.set_cons_succ]
                  refine skipL (i := 19) (oi := _) rfl (by kernel_rfl) (by kernel_rfl) (by kernel_rfl) (fun _ _ _ h => h) (by rfl) hHeld ?_
                  try simp only [Act.put, List.setIfInBounds_toArray, List.set_cons_zero, List.set_cons_succ]
                  refine skipL (i := 20) (oi := _) rfl (by kernel_rfl) (by kernel_rfl) (by kernel_rfl) (fun _ _ _ h => h) (by rfl) hHeld ?_
                  try simp only [Act.put, List.setIfInBounds_toArray, List.set_cons_zero, List.set_cons_succ]
                  refine skipL (i := 21) (oi := _) rfl (by kernel_rfl) (by kernel_rfl) (by kernel_rfl) (fun _ _ _ h => h) (by rfl) hHeld ?_
                  try simp only [Act.put, List.setIfInBounds_toArray, List.set_cons_zero, List.set_cons_succ]
                  refine skipL (i := 22) (oi := _) rfl (by kernel_rfl) (by kernel_rfl) (by kernel_rfl) (fun _ _ _ h => h) (by rfl) hHeld ?_
                  try simp only [Act.put, List.setIfInBounds_toArray, List.set_cons_zero, List.set_cons_succ]
                  refine skipL (i := 23) (oi := _) rfl (by kernel_rfl) (by kernel_rfl) (by kernel_rfl) (fun _ _ _ h => h) (by rfl) hHeld ?_
                  try simp only [Act.put, List.setIfInBounds_toArray, List.set_cons_zero, List.set_cons_succ]
                  refine skipL (i := 24) (oi := _) rfl (by kernel_rfl) (by kernel_rfl) (by kernel_rfl) (fun _ _ _ h => h) (by rfl) hHeld ?_
                  try simp only [Act.put, List.setIfInBounds_toArray, List.set_cons_zero, List.set_cons_succ]
                  refine skipL (i := 25) (oi := _) rfl (by kernel_rfl) (by kernel_rfl) (by kernel_rfl) (fun _ _ _ h => h) (by rfl) hHeld ?_
                  try simp only [Act.put, List.setIfInBounds_toArray, List.set_cons_zero, List.set_cons_succ]
                  refine skipL (i := 26) (oi := _) rfl (by kernel_rfl) (by kernel_rfl) (by kernel_rfl) (fun _ _ _ h => h) (by rfl) hHeld ?_
                  try simp only [Act.put, List.setIfInBounds_toArray, List.set_cons_zero, List.set_cons_succ]
                  refine skipL (i := 27) (oi := _) rfl (by kernel_rfl) (by kernel_rfl) (by kernel_rfl) (fun _ _ _ h => h) (by rfl) hHeld ?_
                  try simp only [Act.put, List.setIfInBounds_toArray, List.set_cons_zero, List.set_cons_succ]
                  refine skipL (i := 28) (oi := _) rfl (by kernel_rfl) (by kernel_rfl) (by kernel_rfl) (fun _ _ _ h => h) (by rfl) hHeld ?_
                  try simp only [Act.put, List.setIfInBounds_toArray, List.set_cons_zero, List.set_cons_succ]
                  refine skipL (i := 29) (oi := _) rfl (by kernel_rfl) (by kernel_rfl) (by kernel_rfl) (fun _ _ _ h => h) (by rfl) hHeld ?_
                  try simp only [Act.put, List.setIfInBounds_toArray, List.set_cons_zero, List.set_cons_succ]
                  refine skipL (i := 30) (oi := _) rfl (by kernel_rfl) (by kernel_rfl) (by kernel_rfl) (fun _ _ _ h => h) (by rfl) hHeld ?_
                  try simp only [Act.put, List.setIfInBounds_toArray, List.set_cons_zero, List.set_cons_succ]
                  refine takeL (i := 31) (oi := _) (v := ?_) rfl (by kernel_rfl) (by kernel_rfl) (by kernel_rfl) (fun _ _ _ h => h) (by rfl) ?_ hHeld ?_
                  rotate_left
                  · intro w hSw; (try dsimp only at hSw); go_simp; try with_reducible rfl
                  try simp only [Act.put, List.setIfInBounds_toArray, List.set_cons_zero, List.set_cons_succ]
                  refine takeL (i := 32) (oi := _) (v := ?_) rfl (by kernel_rfl) (by kernel_rfl) (by kernel_rfl) (fun _ _ _ h => h) (by rfl) ?_ hHeld ?_
                  rotate_left
                  · intro w hSw; (try dsimp only at hSw); go_simp; try with_reducible rfl
                  try simp only [Act.put, List.setIfInBounds_toArray, List.set_cons_zero, List.set_cons_succ]
                  refine wpAnyH_done (by kernel_rfl) ?_ _
                  refine NoPanic.normal ?_
                  go_wp2
                  go_ret
                  exact ⟨rfl, gr5, a9, c9, hf9, hi9⟩
                exact AllReadyH.nil
              exact AllReadyH.nil
            exact AllReadyH.nil
          exact AllReadyH.nil
        | none =>
          obtain rfl : oo = o2 := hR.out
          clear hR
          cases oo with
          | none =>
            go_wp2
            refine wp_region_noPanic ?_
            refine wp_region_held_drew (S := (fun w' => w'.cell? ⟨bn, 0, none⟩ = some (.func (.func 79) #[] #[.pointer (some ⟨bl, 0, none⟩), .pointer (some ⟨bf, 0, none⟩), .pointer (some ⟨bw, 0, none⟩), .pointer (some ⟨bn, 0, none⟩)]) ∧ w'.cell? ⟨bl, 0, none⟩ = some (.slice (some ⟨be, offe, none⟩) l.length cl) ∧ w'.cell? ⟨be, offe + i * 3, none⟩ = some (.int .i64 en.num) ∧ w'.cell? ⟨be, offe + i * 3 + 1, none⟩ = some (.int .i64 en.at_) ∧ w'.cell? ⟨be, offe + i * 3 + 2, none⟩ = some (.bool en.skip))) (by kernel_rfl) ?_ (fun hHeld => ?_)
            · exact hkeep _ (by first | assumption | exact Gr.drew (by assumption) lf | exact Gr.alloc (by assumption) lf _ | exact Gr.drew (Gr.alloc (by assumption) lf _) lf | exact Gr.alloc (Gr.drew (by assumption) lf) lf _)
            refine takeL (i := 0) (oi := _) (v := ?_) rfl (by kernel_rfl) (by kernel_rfl) (by kernel_rfl) (fun _ _ _ h => h) (by rfl) ?_ hHeld ?_
            rotate_left
            · intro w hSw; (try dsimp only at hSw); go_simp; try with_reducible rfl
            try simp only [Act.put, List.setIfInBounds_toArray, List.set_cons_zero, List.set_cons_succ]
            refine takeL (i := 1) (oi := _) (v := ?_) rfl (by kernel_rfl) (by kernel_rfl) (by kernel_rfl) (fun _ _ _ h => h) (by rfl) ?_ hHeld ?_
            rotate_left
            · intro w hSw; (try dsimp only at hSw); go_simp; try with_reducible rfl
            try simp only [Act.put, List.setIfInBounds_toArray, List.set_cons_zero, List.set_cons_succ]
            refine takeL (i := 2) (oi := _) (v := ?_) rfl (by kernel_rfl) (by kernel_rfl) (by kernel_rfl) (fun _ _ _ h => h) (by rfl) ?_ hHeld ?_
            rotate_left
            · intro w hSw; (try dsimp only at hSw); go_simp; try with_reducible rfl
            try simp only [Act.put, List.setIfInBounds_toArray, List.set_cons_zero, List.set_cons_succ]
            refine takeL (i := 3) (oi := _) (v := ?_) rfl (by kernel_rfl) (by kernel_rfl) (by kernel_rfl) (fun _ _ _ h => h) (by rfl) ?_ hHeld ?_
            rotate_left
            · intro w hSw; (try dsimp only at hSw); go_simp; try with_reducible rfl
            try simp only [Act.put, List.setIfInBounds_toArray, List.set_cons_zero, List.set_cons_succ]
            refine takeL (i := 4) (oi := _) (v := ?_) rfl (by kernel_rfl) (by kernel_rfl) (by kernel_rfl) (fun _ _ _ h => h) (by rfl) ?_ hHeld ?_
            rotate_left
            · intro w hSw; (try dsimp only at hSw); go_simp; try with_reducible rfl
            try simp only [Act.put, List.setIfInBounds_toArray, List.set_cons_zero, List.set_cons_succ]
            refine takeL (i := 6) (oi := _) (v := ?_) rfl (by kernel_rfl) (by kernel_rfl) (by kernel_rfl) (fun _ _ _ h => h) (by rfl) ?_ hHeld ?_
            rotate_left
            · intro w hSw; (try dsimp only at hSw); go_simp; try with_reducible rfl
            try simp only [Act.put, List.setIfInBounds_toArray, List.set_cons_zero, List.set_cons_succ]
            refine takeL (i := 9) (oi := _) (v := ?_) rfl (by kernel_rfl) (by kernel_rfl) (by kernel_rfl) (fun _ _ _ h => h) (by rfl) ?_ hHeld ?_
            rotate_left
            · intro w hSw; (try dsimp only at hSw); go_simp; try with_reducible rfl
            try simp only [Act.put, List.setIfInBounds_toArray, List.set_cons_zero, List.set_cons_succ]
            refine takeL (i := 10) (oi := _) (v := ?_) rfl (by kernel_rfl) (by kernel_rfl) (by kernel_rfl) (fun _ _ _ h => h) (by rfl) ?_ hHeld ?_
            rotate_left
            · intro w hSw; (try dsimp only at hSw); go_simp; try with_reducible rfl
            try simp only [Act.put, List.setIfInBounds_toArray, List.set_cons_zero, List.set_cons_succ]
            refine takeL (i := 11) (oi := _) (v := ?_) rfl (by kernel_rfl) (by kernel_rfl) (by kernel_rfl) (fun _ _ _ h => h) (by rfl) ?_ hHeld ?_
            rotate_left
            · intro w hSw; (try dsimp only at hSw); go_simp; try with_reducible rfl
            try simp only [Act.put, List.setIfInBounds_toArray, List.set_cons_zero, List.set_cons_succ]
            refine takeL (i := 12) (oi := _) (v := ?_) rfl (by kernel_rfl) (by kernel_rfl) (by kernel_rfl) (fun _ _ _ h => h) (by rfl) ?_ hHeld ?_
            rotate_left
            · intro w hSw; (try dsimp only at hSw); go_simp; try with_reducible rfl
            try simp only [Act.put, List.setIfInBounds_toArray, List.set_cons_zero, List.set_cons_succ]
            refine takeL (i := 13) (oi := _) (v := ?_) rfl (by kernel_rfl) (by kernel_rfl) (by kernel_rfl) (fun _ _ _ h => h) (by rfl) ?_ hHeld ?_
            rotate_left
            · intro w hSw; (try dsimp only at hSw); go_simp; try with_reducible rfl
            try simp only [Act.put, List.setIfInBounds_toArray, List.set_cons_zero, List.set_cons_succ]
            refine wpAnyH_ready (rs := [5, 7]) (by kernel_rfl) (by simp) ?_
            refine consL (oi := _) rfl (fun K hK => ?_) ?_
            · go_simp
              (go_at_call 81; (with_reducible refine (hcl _ (by first | assumption | exact Gr.drew (by assumption) lf | exact Gr.alloc (by assumption) lf _ | exact Gr.drew (Gr.alloc (by assumption) lf _) lf | exact Gr.alloc (Gr.drew (by assumption) lf) lf _)).mono ?_); rintro e w3 ⟨a3, c3, rfl, hown3, hb3⟩; have gr3 : Gr bf W w3 := Gr.below (by first | assumption | exact Gr.drew (by assumption) lf | exact Gr.alloc (by assumption) lf _ | exact Gr.drew (Gr.alloc (by assumption) lf _) lf | exact Gr.alloc (Gr.drew (by assumption) lf) lf _) hb3 lf; have hz3 := gr3.g.size; have hy3 := hb3.size; (try simp at hy3))
              (try go_wp2_with fail)
              refine hK.out _ _ ?_ (fun hNew => ?_)
              · exact hkeep _ (by first | assumption | exact Gr.drew (by assumption) lf | exact Gr.alloc (by assumption) lf _ | exact Gr.drew (Gr.alloc (by assumption) lf _) lf | exact Gr.alloc (Gr.drew (by assumption) lf) lf _)
              clear hK K hHeld
              have hHeld := hNew
              clear hNew
              try simp only [Act.put, List.setIfInBounds_toArray, List.set_cons_zero, List.set_cons_succ]
              refine wpAnyH_ready (rs := [7]) (by kernel_rfl) (by simp) ?_
              refine consL (oi := _) rfl (fun K hK => ?_) ?_
              · go_simp
                refine hK.out _ _ ?_ (fun hNew => ?_)
                · exact hkeep _ (by first | assumption | exact Gr.drew (by assumption) lf | exact Gr.alloc (by assumption) lf _ | exact Gr.drew (Gr.alloc (by assumption) lf _) lf | exact Gr.alloc (Gr.drew (by assumption) lf) lf _)
                clear hK K hHeld
                have hHeld := hNew
                clear hNew
                try simp only [Act.put, List.setIfInBounds_toArray, List.set_cons_zero, List.set_cons_succ]
                refine wpAnyH_ready (rs := [8]) (by kernel_rfl) (by simp) ?_
                refine consL (oi := _) rfl (fun K hK => ?_) ?_
                · (first | (refine step_app elI (by rfl) _ _ rfl W.heap.size a3 out.length c3 _ rfl ((OwnL.base_le hown3 (by first | omega | (simp; done) | (simp; omega))).alloc _) _ 1 1 _ rfl rfl (Cells.src (Cells.new _ _ _)) (by simp [Value.oneCell']) (by omega) (by unfold maxLen; omega) (by omega) (by first | omega | (simp; done) | (simp; omega)) ?_; intro g4 cg4 w4 howng4 hb4; have gr4 : Gr bf W w4 := Gr.low (by first | assumption | exact Gr.drew (by assumption) lf | exact Gr.alloc (by assumption) lf _ | exact Gr.drew (Gr.alloc (by assumption) lf _) lf | exact Gr.alloc (Gr.drew (by assumption) lf) lf _) hb4 lf; have hz4 := gr4.g.size) | (refine step_app elI (by rfl) _ _ rfl W.heap.size a3 out.length c3 _ rfl ((OwnL.base_le hown3 (by first | omega | (simp; done) | (simp; omega))).alloc _) _ 1 1 _ rfl rfl (Cells.src (Cells.new _ _ _)) (by simp [Value.oneCell']) (by omega) (by unfold maxLen; omega) (by omega) (by first | omega | (simp; done) | (simp; omega)) ?_; intro g4 cg4 w4 howng4 hb4; have gr4 : Gr bf W w4 := Gr.low (by first | assumption | exact Gr.drew (by assumption) lf | exact Gr.alloc (by assumption) lf _ | exact Gr.drew (Gr.alloc (by assumption) lf _) lf | exact Gr.alloc (Gr.drew (by assumption) lf) lf _) hb4 lf; have hz4 := gr4.g.size))
                  refine hK.out _ _ ?_ (fun hNew => ?_)
                  · exact hkeep _ (by first | assumption | exact Gr.drew (by assumption) lf | exact Gr.alloc (by assumption) lf _ | exact Gr.drew (Gr.alloc (by assumption) lf _) lf | exact Gr.alloc (Gr.drew (by assumption) lf) lf _)
                  clear hK K hHeld
                  have hHeld := hNew
                  clear hNew
                  try simp only [Act.put, List.setIfInBounds_toArray, List.set_cons_zero, List.set_cons_succ]
                  refine wpAnyH_ready (rs := [14]) (by kernel_rfl) (by simp) ?_
                  refine consL (oi := _) rfl (fun K hK => ?_) ?_
                  · go_simp
                    (go_at_call 79; (with_reducible refine (hL1 _ gr4 _ _ howng4).mono ?_); rintro e w5 ⟨rfl, hg5⟩; have gr5 : Gr bf W w5 := gr4.trans hg5; have hz5 := gr5.g.size)
                    (try go_wp2_with fail)
                    refine hK.out _ _ ?_ (fun hNew => ?_)
                    · exact hkeep _ (by first | assumption | exact Gr.drew (by assumption) lf | exact Gr.alloc (by assumption) lf _ | exact Gr.drew (Gr.alloc (by assumption) lf _) lf | exact Gr.alloc (Gr.drew (by assumption) lf) lf _)
                    clear hK K hHeld
                    have hHeld := hNew
                    clear hNew
                    try simp only [Act.put, List.setIfInBounds_toArray, List.set_cons_zero, List.set_cons_succ]
                    refine takeL (i := 15) (oi := _) (v := ?_) rfl (by kernel_rfl) (by kernel_rfl) (by kernel_rfl) (fun _ _ _ h => h) (by rfl) ?_ hHeld ?_
                    rotate_left
                    · intro w hSw; (try dsimp only at hSw); go_simp; try with_reducible rfl
                    try simp only [Act.put, List.setIfInBounds_toArray, List.set_cons_zero, List.set_cons_succ]
                    refine takeL (i := 16) (oi := _) (v := ?_) rfl (by kernel_rfl) (by kernel_rfl) (by kernel_rfl) (fun _ _ _ h => h) (by rfl) ?_ hHeld ?_
                    rotate_left
                    · intro w hSw; (try dsimp only at hSw); go_simp; try with_reducible rfl
                    try simp only [Act.put, List.setIfInBounds_toArray, List.set_cons_zero, List.set_cons_succ]
                    refine takeL (i := 17) (oi := _) (v := ?_) rfl (by kernel_rfl) (by kernel_rfl) (by kernel_rfl) (fun _ _ _ h => h) (by rfl) ?_ hHeld ?_
                    rotate_left
                    · intro w hSw; (try dsimp only at hSw); go_simp; try with_reducible rfl
                    try simp only [Act.put, List.setIfInBounds_toArray, List.set_cons_zero, List.set_cons_succ]
                    refine takeL (i := 18) (oi := _) (v := ?_) rfl (by kernel_rfl) (by kernel_rfl) (by kernel_rfl) (fun _ _ _ h => h) (by rfl) ?_ hHeld ?_
                    rotate_left
                    · intro w hSw; (try dsimp only at hSw); go_simp; try with_reducible rfl
                    try simp only [Act.put, List.setIfInBounds_toArray, List.set_cons_zero, List.set_cons_succ]
                    refine takeL (i := 19) (oi := _) (v := ?_) rfl (by kernel_rfl) (by kernel_rfl) (by kernel_rfl) (fun _ _ _ h => h) (by rfl) ?_ hHeld ?_
                    rotate_left
                    · intro w hSw; (try dsimp only at hSw); go_simp; try with_reducible rfl
                    try simp only [Act.put, List.setIfInBounds_toArray, List.set_cons_zero, List.set_cons_succ]
                    refine takeL (i := 21) (oi := _) (v := ?_) rfl (by kernel_rfl) (by kernel_rfl) (by kernel_rfl) (fun _ _ _ h => h) (by rfl) ?_ hHeld ?_
                    rotate_left
                    · intro w hSw; (try dsimp only at hSw); go_simp; try with_reducible rfl
                    try simp only [Act.put, List.setIfInBounds_toArray, List.set_cons_zero, List.set_cons_succ]
                    refine takeL (i := 22) (oi := _) (v := ?_) rfl (by kernel_rfl) (by kernel_rfl) (by kernel_rfl) (fun _ _ _ h => h) (by rfl) ?_ hHeld ?_
                    rotate_left
                    · intro w hSw; (try dsimp only at hSw); go_simp; try with_reducible rfl
                    try simp only [Act.put, List.setIfInBounds_toArray, List.set_cons_zero, List.set_cons_succ]
                    refine takeL (i := 23) (oi := _) (v := ?_) rfl (by kernel_rfl) (by kernel_rfl) (by kernel_rfl) (fun _ _ _ h => h) (by rfl) ?_ hHeld ?_
                    rotate_left
                    · intro w hSw; (try dsimp only at hSw); go_simp; try with_reducible rfl
                    try simp only [Act.put, List.setIfInBounds_toArray, List.set_cons_zero, List.set_cons_succ]
                    refine takeL (i := 24) (oi := _) (v := ?_) rfl (by kernel_rfl) (by kernel_rfl) (by kernel_rfl) (fun _ _ _ h => h) (by rfl) ?_ hHeld ?_
                    rotate_left
                    · intro w hSw; (try dsimp only at hSw); go_simp; try with_reducible rfl
                    try simp only [Act.put, List.setIfInBounds_toArray, List.set_cons_zero, List.set_cons_succ]
                    refine takeL (i := 27) (oi := _) (v := ?_) rfl (by kernel_rfl) (by kernel_rfl) (by kernel_rfl) (fun _ _ _ h => h) (by rfl) ?_ hHeld ?_
                    rotate_left
                    · intro w hSw; (try dsimp only at hSw); go_simp; try with_reducible rfl
                    try simp only [Act.put, List.setIfInBounds_toArray, List.set_cons_zero, List.set_cons_succ]
                    refine takeL (i := 28) (oi := _) (v := ?_) rfl (by kernel_rfl) (by kernel_rfl) (by kernel_rfl) (fun _ _ _ h => h) (by rfl) ?_ hHeld ?_
                    rotate_left
                    · intro w hSw; (try dsimp only at hSw); go_simp; try with_reducible rfl
                    try simp only [Act.put, List.setIfInBounds_toArray, List.set_cons_zero, List.set_cons_succ]
                    refine takeL (i := 29) (oi := _) (v := ?_) rfl (by kernel_rfl) (by kernel_rfl) (by kernel_rfl) (fun _ _ _ h => h) (by rfl) ?_ hHeld ?_
                    rotate_left
                    · intro w hSw; (try dsimp only at hSw); go_simp; try with_reducible rfl
                    try simp only [Act.put, List.setIfInBounds_toArray, List.set_cons_zero, List.set_cons_succ]
                    refine wpAnyH_ready (rs := [20, 25]) (by kernel_rfl) (by simp) ?_
                    refine consL (oi := _) rfl (fun K hK => ?_) ?_
                    · go_simp
                      (go_at_call 82; (with_reducible refine (hcE _ (by first | assumption | exact Gr.drew (by assumption) lf | exact Gr.alloc (by assumption) lf _ | exact Gr.drew (Gr.alloc (by assumption) lf _) lf | exact Gr.alloc (Gr.drew (by assumption) lf) lf _)).mono ?_); rintro e w6 ⟨a6, c6, rfl, hown6, hb6⟩; have gr6 : Gr bf W w6 := Gr.below (by first | assumption | exact Gr.drew (by assumption) lf | exact Gr.alloc (by assumption) lf _ | exact Gr.drew (Gr.alloc (by assumption) lf _) lf | exact Gr.alloc (Gr.drew (by assumption) lf) lf _) hb6 lf; have hz6 := gr6.g.size; have hy6 := hb6.size; (try simp at hy6))
                      (try go_wp2_with fail)
                      refine hK.out _ _ ?_ (fun hNew => ?_)
                      · exact hkeep _ (by first | assumption | exact Gr.drew (by assumption) lf | exact Gr.alloc (by assumption) lf _ | exact Gr.drew (Gr.alloc (by assumption) lf _) lf | exact Gr.alloc (Gr.drew (by assumption) lf) lf _)
                      clear hK K hHeld
                      have hHeld := hNew
                      clear hNew
                      try simp only [Act.put, List.setIfInBounds_toArray, List.set_cons_zero, List.set_cons_succ]
                      refine wpAnyH_ready (rs := [25]) (by kernel_rfl) (by simp) ?_
                      refine consL (oi := _) rfl (fun K hK => ?_) ?_
                      · go_simp
                        refine hK.out _ _ ?_ (fun hNew => ?_)
                        · exact hkeep _ (by first | assumption | exact Gr.drew (by assumption) lf | exact Gr.alloc (by assumption) lf _ | exact Gr.drew (Gr.alloc (by assumption) lf _) lf | exact Gr.alloc (Gr.drew (by assumption) lf) lf _)
                        clear hK K hHeld
                        have hHeld := hNew
                        clear hNew
                        try simp only [Act.put, List.setIfInBounds_toArray, List.set_cons_zero, List.set_cons_succ]
                        refine wpAnyH_ready (rs := [26]) (by kernel_rfl) (by simp) ?_
                        refine consL (oi := _) rfl (fun K hK => ?_) ?_
                        · (first | (refine step_app elE (by rfl) _ _ rfl W.heap.size a6 kept.length c6 _ rfl ((OwnL.base_le hown6 (by first | omega | (simp; done) | (simp; omega))).alloc _) _ 1 1 _ rfl rfl (Cells.src (Cells.new _ _ _)) (by simp [Value.oneCell']) (by omega) (by unfold maxLen; omega) (by omega) (by first | omega | (simp; done) | (simp; omega)) ?_; intro g7 cg7 w7 howng7 hb7; have gr7 : Gr bf W w7 := Gr.low (by first | assumption | exact Gr.drew (by assumption) lf | exact Gr.alloc (by assumption) lf _ | exact Gr.drew (Gr.alloc (by assumption) lf _) lf | exact Gr.alloc (Gr.drew (by assumption) lf) lf _) hb7 lf; have hz7 := gr7.g.size) | (refine step_app elE (by rfl) _ _ rfl W.heap.size a6 kept.length c6 _ rfl ((OwnL.base_le hown6 (by first | omega | (simp; done) | (simp; omega))).alloc _) _ 1 1 _ rfl rfl (Cells.src (Cells.new _ _ _)) (by simp [Value.oneCell']) (by omega) (by unfold maxLen; omega) (by omega) (by first | omega | (simp; done) | (simp; omega)) ?_; intro g7 cg7 w7 howng7 hb7; have gr7 : Gr bf W w7 := Gr.low (by first | assumption | exact Gr.drew (by assumption) lf | exact Gr.alloc (by assumption) lf _ | exact Gr.drew (Gr.alloc (by assumption) lf _) lf | exact Gr.alloc (Gr.drew (by assumption) lf) lf _) hb7 lf; have hz7 := gr7.g.size))
                          refine hK.out _ _ ?_ (fun hNew => ?_)
                          · exact hkeep _ (by first | assumption | exact Gr.drew (by assumption) lf | exact Gr.alloc (by assumption) lf _ | exact Gr.drew (Gr.alloc (by assumption) lf _) lf | exact Gr.alloc (Gr.drew (by assumption) lf) lf _)
                          clear hK K hHeld
                          have hHeld := hNew
                          clear hNew
                          try simp only [Act.put, List.setIfInBounds_toArray, List.set_cons_zero, List.set_cons_succ]
                          refine wpAnyH_ready (rs := [30]) (by kernel_rfl) (by simp) ?_
                          refine consL (oi := _) rfl (fun K hK => ?_) ?_
                          · go_simp
                            (go_at_call 79; (with_reducible refine (hL2 _ gr7 _ _ howng7).mono ?_); rintro e w8 ⟨rfl, hg8⟩; have gr8 : Gr bf W w8 := gr7.trans hg8)
                            (try go_wp2_with fail)
                            refine hK.out _ _ ?_ (fun hNew => ?_)
                            · exact hkeep _ (by first | assumption | exact Gr.drew (by assumption) lf | exact Gr.alloc (by assumption) lf _ | exact Gr.drew (Gr.alloc (by assumption) lf _) lf | exact Gr.alloc (Gr.drew (by assumption) lf) lf _)
                            clear hK K hHeld
                            have hHeld := hNew
                            clear hNew
                            try simp only [Act.put, List.setIfInBounds_toArray, List.set_cons_zero, List.set_cons_succ]
                            refine takeL (i := 31) (oi := _) (v := ?_) rfl (by kernel_rfl) (by kernel_rfl) (by kernel_rfl) (fun _ _ _ h => h) (by rfl) ?_ hHeld ?_
                            rotate_left
                            · intro w hSw; (try dsimp only at hSw); go_simp; try with_reducible rfl
                            try simp only [Act.put, List.setIfInBounds_toArray, List.set_cons_zero, List.set_cons_succ]
                            refine takeL (i := 32) (oi := _) (v := ?_) rfl (by kernel_rfl) (by kernel_rfl) (by kernel_rfl) (fun _ _ _ h => h) (by rfl) ?_ hHeld ?_
                            rotate_left
                            · intro w hSw; (try dsimp only at hSw); go_simp; try with_reducible rfl
                            try simp only [Act.put, List.setIfInBounds_toArray, List.set_cons_zero, List.set_cons_succ]
                            refine wpAnyH_done (by kernel_rfl) ?_ _
                            refine NoPanic.normal ?_
                            go_wp2
                            go_ret
                            exact ⟨rfl, gr8⟩
                          exact AllReadyH.nil
                        exact AllReadyH.nil
                      exact AllReadyH.nil
                    refine consL (oi := _) rfl (fun K hK => ?_) ?_
                    · go_simp
                      refine hK.out _ _ ?_ (fun hNew => ?_)
                      · exact hkeep _ (by first | assumption | exact Gr.drew (by assumption) lf | exact Gr.alloc (by assumption) lf _ | exact Gr.drew (Gr.alloc (by assumption) lf _) lf | exact Gr.alloc (Gr.drew (by assumption) lf) lf _)
                      clear hK K hHeld
                      have hHeld := hNew
                      clear hNew
                      try simp only [Act.put, List.setIfInBounds_toArray, List.set_cons_zero, List.set_cons_succ]
                      refine wpAnyH_ready (rs := [20]) (by kernel_rfl) (by simp) ?_
                      refine consL (oi := _) rfl (fun K hK => ?_) ?_
                      · go_simp
                        (go_at_call 82; (with_reducible refine (hcE _ (by first | assumption | exact Gr.drew (by assumption) lf | exact Gr.alloc (by assumption) lf _ | exact Gr.drew (Gr.alloc (by assumption) lf _) lf | exact Gr.alloc (Gr.drew (by assumption) lf) lf _)).mono ?_); rintro e w6 ⟨a6, c6, rfl, hown6, hb6⟩; have gr6 : Gr bf W w6 := Gr.below (by first | assumption | exact Gr.drew (by assumption) lf | exact Gr.alloc (by assumption) lf _ | exact Gr.drew (Gr.alloc (by assumption) lf _) lf | exact Gr.alloc (Gr.drew (by assumption) lf) lf _) hb6 lf; have hz6 := gr6.g.size; have hy6 := hb6.size; (try simp at hy6))
                        (try go_wp2_with fail)
                        refine hK.out _ _ ?_ (fun hNew => ?_)
                        · exact hkeep _ (by first | assumption | exact Gr.drew (by assumption) lf | exact Gr.alloc (by assumption) lf _ | exact Gr.drew (Gr.alloc (by assumption) lf _) lf | exact Gr.alloc (Gr.drew (by assumption) lf) lf _)
                        clear hK K hHeld
                        have hHeld := hNew
                        clear hNew
                        try simp only [Act.put, List.setIfInBounds_toArray, List.set_cons_zero, List.set_cons_succ]
                        refine wpAnyH_ready (rs := [26]) (by kernel_rfl) (by simp) ?_
                        refine consL (oi := _) rfl (fun K hK => ?_) ?_
                        · (first | (refine step_app elE (by rfl) _ _ rfl W.heap.size a6 kept.length c6 _ rfl (OwnL.base_le hown6 (by first | omega | (simp; done) | (simp; omega))) _ 1 1 _ rfl rfl (Cells.src (Cells.below (Cells.new _ _ _) hb6)) (by simp [Value.oneCell']) (by omega) (by unfold maxLen; omega) (by omega) (by first | omega | (simp; done) | (simp; omega)) ?_; intro g7 cg7 w7 howng7 hb7; have gr7 : Gr bf W w7 := Gr.low (by first | assumption | exact Gr.drew (by assumption) lf | exact Gr.alloc (by assumption) lf _ | exact Gr.drew (Gr.alloc (by assumption) lf _) lf | exact Gr.alloc (Gr.drew (by assumption) lf) lf _) hb7 lf; have hz7 := gr7.g.size) | (refine step_app elE (by rfl) _ _ rfl W.heap.size a6 kept.length c6 _ rfl (OwnL.base_le hown6 (by first | omega | (simp; done) | (simp; omega))) _ 1 1 _ rfl rfl (Cells.src (Cells.below (Cells.below (Cells.new _ _ _) ((Below.refl _ _).drew)) hb6)) (by simp [Value.oneCell']) (by omega) (by unfold maxLen; omega) (by omega) (by first | omega | (simp; done) | (simp; omega)) ?_; intro g7 cg7 w7 howng7 hb7; have gr7 : Gr bf W w7 := Gr.low (by first | assumption | exact Gr.drew (by assumption) lf | exact Gr.alloc (by assumption) lf _ | exact Gr.drew (Gr.alloc (by assumption) lf _) lf | exact Gr.alloc (Gr.drew (by assumption) lf) lf _) hb7 lf; have hz7 := gr7.g.size))
                          refine hK.out _ _ ?_ (fun hNew => ?_)
                          · exact hkeep _ (by first | assumption | exact Gr.drew (by assumption) lf | exact Gr.alloc (by assumption) lf _ | exact Gr.drew (Gr.alloc (by assumption) lf _) lf | exact Gr.alloc (Gr.drew (by assumption) lf) lf _)
                          clear hK K hHeld
                          have hHeld := hNew
                          clear hNew
                          try simp only [Act.put, List.setIfInBounds_toArray, List.set_cons_zero, List.set_cons_succ]
                          refine wpAnyH_ready (rs := [30]) (by kernel_rfl) (by simp) ?_
                          refine consL (oi := _) rfl (fun K hK => ?_) ?_
                          · go_simp
                            (go_at_call 79; (with_reducible refine (hL2 _ gr7 _ _ howng7).mono ?_); rintro e w8 ⟨rfl, hg8⟩; have gr8 : Gr bf W w8 := gr7.trans hg8)
                            (try go_wp2_with fail)
                            refine hK.out _ _ ?_ (fun hNew => ?_)
                            · exact hkeep _ (by first | assumption | exact Gr.drew (by assumption) lf | exact Gr.alloc (by assumption) lf _ | exact Gr.drew (Gr.alloc (by assumption) lf _) lf | exact Gr.alloc (Gr.drew (by assumption) lf) lf _)
                            clear hK K hHeld
                            have hHeld := hNew
                            clear hNew
                            try simp only [Act.put, List.setIfInBounds_toArray, List.set_cons_zero, List.set_cons_succ]
                            refine takeL (i := 31) (oi := _) (v := ?_) rfl (by kernel_rfl) (by kernel_rfl) (by kernel_rfl) (fun _ _ _ h => h) (by rfl) ?_ hHeld ?_
                            rotate_left
                            · intro w hSw; (try dsimp only at hSw); go_simp; try with_reducible rfl
                            try simp only [Act.put, List.setIfInBounds_toArray, List.set_cons_zero, List.set_cons_succ]
                            refine takeL (i := 32) (oi := _) (v := ?_) rfl (by kernel_rfl) (by kernel_rfl) (by kernel_rfl) (fun _ _ _ h => h) (by rfl) ?_ hHeld ?_
                            rotate_left
                            · intro w hSw; (try dsimp only at hSw); go_simp; try with_reducible rfl
                            try simp only [Act.put, List.setIfInBounds_toArray, List.set_cons_zero, List.set_cons_succ]
                            refine wpAnyH_done (by kernel_rfl) ?_ _
                            refine NoPanic.normal ?_
                            go_wp2
                            go_ret
                            exact ⟨rfl, gr8⟩
                          exact AllReadyH.nil
                        exact AllReadyH.nil
                      exact AllReadyH.nil
                    exact AllReadyH.nil
                  exact AllReadyH.nil
                exact AllReadyH.nil
              exact AllReadyH.nil
            refine consL (oi := _) rfl (fun K hK => ?_) ?_
            · go_simp
              refine hK.out _ _ ?_ (fun hNew => ?_)
              · exact hkeep _ (by first | assumption | exact Gr.drew (by assumption) lf | exact Gr.alloc (by assumption) lf _ | exact Gr.drew (Gr.alloc (by assumption) lf _) lf | exact Gr.alloc (Gr.drew (by assumption) lf) lf _)
              clear hK K hHeld
              have hHeld := hNew
              clear hNew
              try simp only [Act.put, List.setIfInBounds_toArray, List.set_cons_zero, List.set_cons_succ]
              refine wpAnyH_ready (rs := [5]) (by kernel_rfl) (by simp) ?_
              refine consL (oi := _) rfl (fun K hK => ?_) ?_
              · go_simp
                (go_at_call 81; (with_reducible refine (hcl _ (by first | assumption | exact Gr.drew (by assumption) lf | exact Gr.alloc (by assumption) lf _ | exact Gr.drew (Gr.alloc (by assumption) lf _) lf | exact Gr.alloc (Gr.drew (by assumption) lf) lf _)).mono ?_); rintro e w3 ⟨a3, c3, rfl, hown3, hb3⟩; have gr3 : Gr bf W w3 := Gr.below (by first | assumption | exact Gr.drew (by assumption) lf | exact Gr.alloc (by assumption) lf _ | exact Gr.drew (Gr.alloc (by assumption) lf _) lf | exact Gr.alloc (Gr.drew (by assumption) lf) lf _) hb3 lf; have hz3 := gr3.g.size; have hy3 := hb3.size; (try simp at hy3))
                (try go_wp2_with fail)
                refine hK.out _ _ ?_ (fun hNew => ?_)
                · exact hkeep _ (by first | assumption | exact Gr.drew (by assumption) lf | exact Gr.alloc (by assumption) lf _ | exact Gr.drew (Gr.alloc (by assumption) lf _) lf | exact Gr.alloc (Gr.drew (by assumption) lf) lf _)
                clear hK K hHeld
                have hHeld := hNew
                clear hNew
                try simp only [Act.put, List.setIfInBounds_toArray, List.set_cons_zero, List.set_cons_succ]
                refine wpAnyH_ready (rs := [8]) (by kernel_rfl) (by simp) ?_
                refine consL (oi := _) rfl (fun K hK => ?_) ?_
                · (first | (refine step_app elI (by rfl) _ _ rfl W.heap.size a3 out.length c3 _ rfl (OwnL.base_le hown3 (by first | omega | (simp; done) | (simp; omega))) _ 1 1 _ rfl rfl (Cells.src (Cells.below (Cells.new _ _ _) hb3)) (by simp [Value.oneCell']) (by omega) (by unfold maxLen; omega) (by omega) (by first | omega | (simp; done) | (simp; omega)) ?_; intro g4 cg4 w4 howng4 hb4; have gr4 : Gr bf W w4 := Gr.low (by first | assumption | exact Gr.drew (by assumption) lf | exact Gr.alloc (by assumption) lf _ | exact Gr.drew (Gr.alloc (by assumption) lf _) lf | exact Gr.alloc (Gr.drew (by assumption) lf) lf _) hb4 lf; have hz4 := gr4.g.size) | (refine step_app elI (by rfl) _ _ rfl W.heap.size a3 out.length c3 _ rfl (OwnL.base_le hown3 (by first | omega | (simp; done) | (simp; omega))) _ 1 1 _ rfl rfl (Cells.src (Cells.below (Cells.below (Cells.new _ _ _) ((Below.refl _ _).drew)) hb3)) (by simp [Value.oneCell']) (by omega) (by unfold maxLen; omega) (by omega) (by first | omega | (simp; done) | (simp; omega)) ?_; intro g4 cg4 w4 howng4 hb4; have gr4 : Gr bf W w4 := Gr.low (by first | assumption | exact Gr.drew (by assumption) lf | exact Gr.alloc (by assumption) lf _ | exact Gr.drew (Gr.alloc (by assumption) lf _) lf | exact Gr.alloc (Gr.drew (by assumption) lf) lf _) hb4 lf; have hz4 := gr4.g.size))
                  refine hK.out _ _ ?_ (fun hNew => ?_)
                  · exact hkeep _ (by first | assumption | exact Gr.drew (by assumption) lf | exact Gr.alloc (by assumption) lf _ | exact Gr.drew (Gr.alloc (by assumption) lf _) lf | exact Gr.alloc (Gr.drew (by assumption) lf) lf _)
                  clear hK K hHeld
                  have hHeld := hNew
                  clear hNew
                  try simp only [Act.put, List.setIfInBounds_toArray, List.set_cons_zero, List.set_cons_succ]
                  refine wpAnyH_ready (rs := [14]) (by kernel_rfl) (by simp) ?_
                  refine consL (oi := _) rfl (fun K hK => ?_) ?_
                  · go_simp
                    (go_at_call 79; (with_reducible refine (hL1 _ gr4 _ _ howng4).mono ?_); rintro e w5 ⟨rfl, hg5⟩; have gr5 : Gr bf W w5 := gr4.trans hg5; have hz5 := gr5.g.size)
                    (try go_wp2_with fail)
                    refine hK.out _ _ ?_ (fun hNew => ?_)
                    · exact hkeep _ (by first | assumption | exact Gr.drew (by assumption) lf | exact Gr.alloc (by assumption) lf _ | exact Gr.drew (Gr.alloc (by assumption) lf _) lf | exact Gr.alloc (Gr.drew (by assumption) lf) lf _)
                    clear hK K hHeld
                    have hHeld := hNew
                    clear hNew
                    try simp only [Act.put, List.setIfInBounds_toArray, List.set_cons_zero, List.set_cons_succ]
                    refine takeL (i := 15) (oi := _) (v := ?_) rfl (by kernel_rfl) (by kernel_rfl) (by kernel_rfl) (fun _ _ _ h => h) (by rfl) ?_ hHeld ?_
                    rotate_left
                    · intro w hSw; (try dsimp only at hSw); go_simp; try with_reducible rfl
                    try simp only [Act.put, List.setIfInBounds_toArray, List.set_cons_zero, List.set_cons_succ]
                    refine takeL (i := 16) (oi := _) (v := ?_) rfl (by kernel_rfl) (by kernel_rfl) (by kernel_rfl) (fun _ _ _ h => h) (by rfl) ?_ hHeld ?_
                    rotate_left
                    · intro w hSw; (try dsimp only at hSw); go_simp; try with_reducible rfl
                    try simp only [Act.put, List.setIfInBounds_toArray, List.set_cons_zero, List.set_cons_succ]
                    refine takeL (i := 17) (oi := _) (v := ?_) rfl (by kernel_rfl) (by kernel_rfl) (by kernel_rfl) (fun _ _ _ h => h) (by rfl) ?_ hHeld ?_
                    rotate_left
                    · intro w hSw; (try dsimp only at hSw); go_simp; try with_reducible rfl
                    try simp only [Act.put, List.setIfInBounds_toArray, List.set_cons_zero, List.set_cons_succ]
                    refine takeL (i := 18) (oi := _) (v := ?_) rfl (by kernel_rfl) (by kernel_rfl) (by kernel_rfl) (fun _ _ _ h => h) (by rfl) ?_ hHeld ?_
                    rotate_left
                    · intro w hSw; (try dsimp only at hSw); go_simp; try with_reducible rfl
                    try simp only [Act.put, List.setIfInBounds_toArray, List.set_cons_zero, List.set_cons_succ]
                    refine takeL (i := 19) (oi := _) (v := ?_) rfl (by kernel_rfl) (by kernel_rfl) (by kernel_rfl) (fun _ _ _ h => h) (by rfl) ?_ hHeld ?_
                    rotate_left
                    · intro w hSw; (try dsimp only at hSw); go_simp; try with_reducible rfl
                    try simp only [Act.put, List.setIfInBounds_toArray, List.set_cons_zero, List.set_cons_succ]
                    refine takeL (i := 21) (oi := _) (v := ?_) rfl (by kernel_rfl) (by kernel_rfl) (by kernel_rfl) (fun _ _ _ h => h) (by rfl) ?_ hHeld ?_
                    rotate_left
                    · intro w hSw; (try dsimp only at hSw); go_simp; try with_reducible rfl
                    try simp only [Act.put, List.setIfInBounds_toArray, List.set_cons_zero, List.set_cons_succ]
                    refine takeL (i := 22) (oi := _) (v := ?_) rfl (by kernel_rfl) (by kernel_rfl) (by kernel_rfl) (fun _ _ _ h => h) (by rfl) ?_ hHeld ?_
                    rotate_left
                    · intro w hSw; (try dsimp only at hSw); go_simp; try with_reducible rfl
                    try simp only [Act.put, List.setIfInBounds_toArray, List.set_cons_zero, List.set_cons_succ]
                    refine takeL (i := 23) (oi := _) (v := ?_) rfl (by kernel_rfl) (by kernel_rfl) (by kernel_rfl) (fun _ _ _ h => h) (by rfl) ?_ hHeld ?_
                    rotate_left
                    · intro w hSw; (try dsimp only at hSw); go_simp; try with_reducible rfl
                    try simp only [Act.put, List.setIfInBounds_toArray, List.set_cons_zero, List.set_cons_succ]
                    refine takeL (i := 24) (oi := _) (v := ?_) rfl (by kernel_rfl) (by kernel_rfl) (by kernel_rfl) (fun _ _ _ h => h) (by rfl) ?_ hHeld ?_
                    rotate_left
                    · intro w hSw; (try dsimp only at hSw); go_simp; try with_reducible rfl
                    try simp only [Act.put, List.setIfInBounds_toArray, List.set_cons_zero, List.set_cons_succ]
                    refine takeL (i := 27) (oi := _) (v := ?_) rfl (by kernel_rfl) (by kernel_rfl) (by kernel_rfl) (fun _ _ _ h => h) (by rfl) ?_ hHeld ?_
                    rotate_left
                    · intro w hSw; (try dsimp only at hSw); go_simp; try with_reducible rfl
                    try simp only [Act.put, List.setIfInBounds_toArray, List.set_cons_zero, List.set_cons_succ]
                    refine takeL (i := 28) (oi := _) (v := ?_) rfl (by kernel_rfl) (by kernel_rfl) (by kernel_rfl) (fun _ _ _ h => h) (by rfl) ?_ hHeld ?_
                    rotate_left
                    · intro w hSw; (try dsimp only at hSw); go_simp; try with_reducible rfl
                    try simp only [Act.put, List.setIfInBounds_toArray, List.set_cons_zero, List.set_cons_succ]
                    refine takeL (i := 29) (oi := _) (v := ?_) rfl (by kernel_rfl) (by kernel_rfl) (by kernel_rfl) (fun _ _ _ h => h) (by rfl) ?_ hHeld ?_
                    rotate_left
                    · intro w hSw; (try dsimp only at hSw); go_simp; try with_reducible rfl
                    try simp only [Act.put, List.setIfInBounds_toArray, List.set_cons_zero, List.set_cons_succ]
                    refine wpAnyH_ready (rs := [20, 25]) (by kernel_rfl) (by simp) ?_
                    refine consL (oi := _) rfl (fun K hK => ?_) ?_
                    · go_simp
                      (go_at_call 82; (with_reducible refine (hcE _ (by first | assumption | exact Gr.drew (by assumption) lf | exact Gr.alloc (by assumption) lf _ | exact Gr.drew (Gr.alloc (by assumption) lf _) lf | exact Gr.alloc (Gr.drew (by assumption) lf) lf _)).mono ?_); rintro e w6 ⟨a6, c6, rfl, hown6, hb6⟩; have gr6 : Gr bf W w6 := Gr.below (by first | assumption | exact Gr.drew (by assumption) lf | exact Gr.alloc (by assumption) lf _ | exact Gr.drew (Gr.alloc (by assumption) lf _) lf | exact Gr.alloc (Gr.drew (by assumption) lf) lf _) hb6 lf; have hz6 := gr6.g.size; have hy6 := hb6.size; (try simp at hy6))
                      (try go_wp2_with fail)
                      refine hK.out _ _ ?_ (fun hNew => ?_)
                      · exact hkeep _ (by first | assumption | exact Gr.drew (by assumption) lf | exact Gr.alloc (by assumption) lf _ | exact Gr.drew (Gr.alloc (by assumption) lf _) lf | exact Gr.alloc (Gr.drew (by assumption) lf) lf _)
                      clear hK K hHeld
                      have hHeld := hNew
                      clear hNew
                      try simp only [Act.put, List.setIfInBounds_toArray, List.set_cons_zero, List.set_cons_succ]
                      refine wpAnyH_ready (rs := [25]) (by kernel_rfl) (by simp) ?_
                      refine consL (oi := _) rfl (fun K hK => ?_) ?_
                      · go_simp
                        refine hK.out _ _ ?_ (fun hNew => ?_)
                        · exact hkeep _ (by first | assumption | exact Gr.drew (by assumption) lf | exact Gr.alloc (by assumption) lf _ | exact Gr.drew (Gr.alloc (by assumption) lf _) lf | exact Gr.alloc (Gr.drew (by assumption) lf) lf _)
                        clear hK K hHeld
                        have hHeld := hNew
                        clear hNew
                        try simp only [Act.put, List.setIfInBounds_toArray, List.set_cons_zero, List.set_cons_succ]
                        refine wpAnyH_ready (rs := [26]) (by kernel_rfl) (by simp) ?_
                        refine consL (oi := _) rfl (fun K hK => ?_) ?_
                        · (first | (refine step_app elE (by rfl) _ _ rfl W.heap.size a6 kept.length c6 _ rfl ((OwnL.base_le hown6 (by first | omega | (simp; done) | (simp; omega))).alloc _) _ 1 1 _ rfl rfl (Cells.src (Cells.new _ _ _)) (by simp [Value.oneCell']) (by omega) (by unfold maxLen; omega) (by omega) (by first | omega | (simp; done) | (simp; omega)) ?_; intro g7 cg7 w7 howng7 hb7; have gr7 : Gr bf W w7 := Gr.low (by first | assumption | exact Gr.drew (by assumption) lf | exact Gr.alloc (by assumption) lf _ | exact Gr.drew (Gr.alloc (by assumption) lf _) lf | exact Gr.alloc (Gr.drew (by assumption) lf) lf _) hb7 lf; have hz7 := gr7.g.size) | (refine step_app elE (by rfl) _ _ rfl W.heap.size a6 kept.length c6 _ rfl ((OwnL.base_le hown6 (by first | omega | (simp; done) | (simp; omega))).alloc _) _ 1 1 _ rfl rfl (Cells.src (Cells.new _ _ _)) (by simp [Value.oneCell']) (by omega) (by unfold maxLen; omega) (by omega) (by first | omega | (simp; done) | (simp; omega)) ?_; intro g7 cg7 w7 howng7 hb7; have gr7 : Gr bf W w7 := Gr.low (by first | assumption | exact Gr.drew (by assumption) lf | exact Gr.alloc (by assumption) lf _ | exact Gr.drew (Gr.alloc (by assumption) lf _) lf | exact Gr.alloc (Gr.drew (by assumption) lf) lf _) hb7 lf; have hz7 := gr7.g.size))
                          refine hK.out _ _ ?_ (fun hNew => ?_)
                          · exact hkeep _ (by first | assumption | exact Gr.drew (by assumption) lf | exact Gr.alloc (by assumption) lf _ | exact Gr.drew (Gr.alloc (by assumption) lf _) lf | exact Gr.alloc (Gr.drew (by assumption) lf) lf _)
                          clear hK K hHeld
                          have hHeld := hNew
                          clear hNew
                          try simp only [Act.put, List.setIfInBounds_toArray, List.set_cons_zero, List.set_cons_succ]
                          refine wpAnyH_ready (rs := [30]) (by kernel_rfl) (by simp) ?_
                          refine consL (oi := _) rfl (fun K hK => ?_) ?_
                          · go_simp
                            (go_at_call 79; (with_reducible refine (hL2 _ gr7 _ _ howng7).mono ?_); rintro e w8 ⟨rfl, hg8⟩; have gr8 : Gr bf W w8 := gr7.trans hg8)
                            (try go_wp2_with fail)
                            refine hK.out _ _ ?_ (fun hNew => ?_)
                            · exact hkeep _ (by first | assumption | exact Gr.drew (by assumption) lf | exact Gr.alloc (by assumption) lf _ | exact Gr.drew (Gr.alloc (by assumption) lf _) lf | exact Gr.alloc (Gr.drew (by assumption) lf) lf _)
                            clear hK K hHeld
                            have hHeld := hNew
                            clear hNew
                            try simp only [Act.put, List.setIfInBounds_toArray, List.set_cons_zero, List.set_cons_succ]
                            refine takeL (i := 31) (oi := _) (v := ?_) rfl (by kernel_rfl) (by kernel_rfl) (by kernel_rfl) (fun _ _ _ h => h) (by rfl) ?_ hHeld ?_
                            rotate_left
                            · intro w hSw; (try dsimp only at hSw); go_simp; try with_reducible rfl
                            try simp only [Act.put, List.setIfInBounds_toArray, List.set_cons_zero, List.set_cons_succ]
                            refine takeL (i := 32) (oi := _) (v := ?_) rfl (by kernel_rfl) (by kernel_rfl) (by kernel_rfl) (fun _ _ _ h => h) (by rfl) ?_ hHeld ?_
                            rotate_left
                            · intro w hSw; (try dsimp only at hSw); go_simp; try with_reducible rfl
                            try simp only [Act.put, List.setIfInBounds_toArray, List.set_cons_zero, List.set_cons_succ]
                            refine wpAnyH_done (by kernel_rfl) ?_ _
                            refine NoPanic.normal ?_
                            go_wp2
                            go_ret
                            exact ⟨rfl, gr8⟩
                          exact AllReadyH.nil
                        exact AllReadyH.nil
                      exact AllReadyH.nil
                    refine consL (oi := _) rfl (fun K hK => ?_) ?_
                    · go_simp
                      refine hK.out _ _ ?_ (fun hNew => ?_)
                      · exact hkeep _ (by first | assumption | exact Gr.drew (by assumption) lf | exact Gr.alloc (by assumption) lf _ | exact Gr.drew (Gr.alloc (by assumption) lf _) lf | exact Gr.alloc (Gr.drew (by assumption) lf) lf _)
                      clear hK K hHeld
                      have hHeld := hNew
                      clear hNew
                      try simp only [Act.put, List.setIfInBounds_toArray, List.set_cons_zero, List.set_cons_succ]
                      refine wpAnyH_ready (rs := [20]) (by kernel_rfl) (by simp) ?_
                      refine consL (oi := _) rfl (fun K hK => ?_) ?_
                      · go_simp
                        (go_at_call 82; (with_reducible refine (hcE _ (by first | assumption | exact Gr.drew (by assumption) lf | exact Gr.alloc (by assumption) lf _ | exact Gr.drew (Gr.alloc (by assumption) lf _) lf | exact Gr.alloc (Gr.drew (by assumption) lf) lf _)).mono ?_); rintro e w6 ⟨a6, c6, rfl, hown6, hb6⟩; have gr6 : Gr bf W w6 := Gr.below (by first | assumption | exact Gr.drew (by assumption) lf | exact Gr.alloc (by assumption) lf _ | exact Gr.drew (Gr.alloc (by assumption) lf _) lf | exact Gr.alloc (Gr.drew (by assumption) lf) lf _) hb6 lf; have hz6 := gr6.g.size; have hy6 := hb6.size; (try simp at hy6))
                        (try go_wp2_with fail)
                        refine hK.out _ _ ?_ (fun hNew => ?_)
                        · exact hkeep _ (by first | assumption | exact Gr.drew (by assumption) lf | exact Gr.alloc (by assumption) lf _ | exact Gr.drew (Gr.alloc (by assumption) lf _) lf | exact Gr.alloc (Gr.drew (by assumption) lf) lf _)
                        clear hK K hHeld
                        have hHeld := hNew
                        clear hNew
                        try simp only [Act.put, List.setIfInBounds_toArray, List.set_cons_zero, List.set_cons_succ]
                        refine wpAnyH_ready (rs := [26]) (by kernel_rfl) (by simp) ?_
                        refine consL (oi := _) rfl (fun K hK => ?_) ?_
                        · (first | (refine step_app elE (by rfl) _ _ rfl W.heap.size a6 kept.length c6 _ rfl (OwnL.base_le hown6 (by first | omega | (simp; done) | (simp; omega))) _ 1 1 _ rfl rfl (Cells.src (Cells.below (Cells.new _ _ _) hb6)) (by simp [Value.oneCell']) (by omega) (by unfold maxLen; omega) (by omega) (by first | omega | (simp; done) | (simp; omega)) ?_; intro g7 cg7 w7 howng7 hb7; have gr7 : Gr bf W w7 := Gr.low (by first | assumption | exact Gr.drew (by assumption) lf | exact Gr.alloc (by assumption) lf _ | exact Gr.drew (Gr.alloc (by assumption) lf _) lf | exact Gr.alloc (Gr.drew (by assumption) lf) lf _) hb7 lf; have hz7 := gr7.g.size) | (refine step_app elE (by rfl) _ _ rfl W.heap.size a6 kept.length c6 _ rfl (OwnL.base_le hown6 (by first | omega | (simp; done) | (simp; omega))) _ 1 1 _ rfl rfl (Cells.src (Cells.below (Cells.below (Cells.new _ _ _) ((Below.refl _ _).drew)) hb6)) (by simp [Value.oneCell']) (by omega) (by unfold maxLen; omega) (by omega) (by first | omega | (simp; done) | (simp; omega)) ?_; intro g7 cg7 w7 howng7 hb7; have gr7 : Gr bf W w7 := Gr.low (by first | assumption | exact Gr.drew (by assumption) lf | exact Gr.alloc (by assumption) lf _ | exact Gr.drew (Gr.alloc (by assumption) lf _) lf | exact Gr.alloc (Gr.drew (by assumption) lf) lf _) hb7 lf; have hz7 := gr7.g.size))
                          refine hK.out _ _ ?_ (fun hNew => ?_)
                          · exact hkeep _ (by first | assumption | exact Gr.drew (by assumption) lf | exact Gr.alloc (by assumption) lf _ | exact Gr.drew (Gr.alloc (by assumption) lf _) lf | exact Gr.alloc (Gr.drew (by assumption) lf) lf _)
                          clear hK K hHeld
                          have hHeld := hNew
                          clear hNew
                          try simp only [Act.put, List.setIfInBounds_toArray, List.set_cons_zero, List.set_cons_succ]
                          refine wpAnyH_ready (rs := [30]) (by kernel_rfl) (by simp) ?_
                          refine consL (oi := _) rfl (fun K hK => ?_) ?_
                          · go_simp
                            (go_at_call 79; (with_reducible refine (hL2 _ gr7 _ _ howng7).mono ?_); rintro e w8 ⟨rfl, hg8⟩; have gr8 : Gr bf W w8 := gr7.trans hg8)
                            (try go_wp2_with fail)
                            refine hK.out _ _ ?_ (fun hNew => ?_)
                            · exact hkeep _ (by first | assumption | exact Gr.drew (by assumption) lf | exact Gr.alloc (by assumption) lf _ | exact Gr.drew (Gr.alloc (by assumption) lf _) lf | exact Gr.alloc (Gr.drew (by assumption) lf) lf _)
                            clear hK K hHeld
                            have hHeld := hNew
                            clear hNew
                            try simp only [Act.put, List.setIfInBounds_toArray, List.set_cons_zero, List.set_cons_succ]
                            refine takeL (i := 31) (oi := _) (v := ?_) rfl (by kernel_rfl) (by kernel_rfl) (by kernel_rfl) (fun _ _ _ h => h) (by rfl) ?_ hHeld ?_
                            rotate_left
                            · intro w hSw; (try dsimp only at hSw); go_simp; try with_reducible rfl
                            try simp only [Act.put, List.setIfInBounds_toArray, List.set_cons_zero, List.set_cons_succ]
                            refine takeL (i := 32) (oi := _) (v := ?_) rfl (by kernel_rfl) (by kernel_rfl) (by kernel_rfl) (fun _ _ _ h => h) (by rfl) ?_ hHeld ?_
                            rotate_left
                            · intro w hSw; (try dsimp only at hSw); go_simp; try with_reducible rfl
                            try simp only [Act.put, List.setIfInBounds_toArray, List.set_cons_zero, List.set_cons_succ]
                            refine wpAnyH_done (by kernel_rfl) ?_ _
                            refine NoPanic.normal ?_
                            go_wp2
                            go_ret
                            exact ⟨rfl, gr8⟩
                          exact AllReadyH.nil
                        exact AllReadyH.nil
                      exact AllReadyH.nil
                    exact AllReadyH.nil
                  exact AllReadyH.nil
                exact AllReadyH.nil
              exact AllReadyH.nil
            exact AllReadyH.nil
          | some z =>
            go_wp2
            refine wp_region_noPanic ?_
            refine wp_region_held_drew (S := (fun w' => w'.cell? ⟨bn, 0, none⟩ = some (.func (.func 79) #[] #[.pointer (some ⟨bl, 0, none⟩), .pointer (some ⟨bf, 0, none⟩), .pointer (some ⟨bw, 0, none⟩), .pointer (some ⟨bn, 0, none⟩)]) ∧ w'.cell? ⟨bl, 0, none⟩ = some (.slice (some ⟨be, offe, none⟩) l.length cl) ∧ w'.cell? ⟨be, offe + i * 3, none⟩ = some (.int .i64 en.num) ∧ w'.cell? ⟨be, offe + i * 3 + 1, none⟩ = some (.int .i64 en.at_) ∧ w'.cell? ⟨be, offe + i * 3 + 2, none⟩ = some (.bool en.skip))) (by kernel_rfl) ?_ (fun hHeld => ?_)
            · exact hkeep _ (by first | assumption | exact Gr.drew (by assumption) lf | exact Gr.alloc (by assumption) lf _ | exact Gr.drew (Gr.alloc (by assumption) lf _) lf | exact Gr.alloc (Gr.drew (by assumption) lf) lf _)
            refine takeL (i := 0) (oi := _) (v := ?_) rfl (by kernel_rfl) (by kernel_rfl) (by kernel_rfl) (fun _ _ _ h => h) (by rfl) ?_ hHeld ?_
            rotate_left
            · intro w hSw; (try dsimp only at hSw); go_simp; try with_reducible rfl
            try simp only [Act.put, List.setIfInBounds_toArray, List.set_cons_zero, List.set_cons_succ]
            refine takeL (i := 1) (oi := _) (v := ?_) rfl (by kernel_rfl) (by kernel_rfl) (by kernel_rfl) (fun _ _ _ h => h) (by rfl) ?_ hHeld ?_
            rotate_left
            · intro w hSw; (try dsimp only at hSw); go_simp; try with_reducible rfl
            try simp only [Act.put, List.setIfInBounds_toArray, List.set_cons_zero, List.set_cons_succ]
            refine takeL (i := 2) (oi := _) (v := ?_) rfl (by kernel_rfl) (by kernel_rfl) (by kernel_rfl) (fun _ _ _ h => h) (by rfl) ?_ hHeld ?_
            rotate_left
            · intro w hSw; (try dsimp only at hSw); go_simp; try with_reducible rfl
            try simp only [Act.put, List.setIfInBounds_toArray, List.set_cons_zero, List.set_cons_succ]
            refine takeL (i := 3) (oi := _) (v := ?_) rfl (by kernel_rfl) (by kernel_rfl) (by kernel_rfl) (fun _ _ _ h => h) (by rfl) ?_ hHeld ?_
            rotate_left
            · intro w hSw; (try dsimp only at hSw); go_simp; try with_reducible rfl
            try simp only [Act.put, List.setIfInBounds_toArray, List.set_cons_zero, List.set_cons_succ]
            refine takeL (i := 4) (oi := _) (v := ?_) rfl (by kernel_rfl) (by kernel_rfl) (by kernel_rfl) (fun _ _ _ h => h) (by rfl) ?_ hHeld ?_
            rotate_left
            · intro w hSw; (try dsimp only at hSw); go_simp; try with_reducible rfl
            try simp only [Act.put, List.setIfInBounds_toArray, List.set_cons_zero, List.set_cons_succ]
            refine takeL (i := 6) (oi := _) (v := ?_) rfl (by kernel_rfl) (by kernel_rfl) (by kernel_rfl) (fun _ _ _ h => h) (by rfl) ?_ hHeld ?_
            rotate_left
            · intro w hSw; (try dsimp only at hSw); go_simp; try with_reducible rfl
            try simp only [Act.put, List.setIfInBounds_toArray, List.set_cons_zero, List.set_cons_succ]
            refine takeL (i := 9) (oi := _) (v := ?_) rfl (by kernel_rfl) (by kernel_rfl) (by kernel_rfl) (fun _ _ _ h => h) (by rfl) ?_ hHeld ?_
            rotate_left
            · intro w hSw; (try dsimp only at hSw); go_simp; try with_reducible rfl
            try simp only [Act.put, List.setIfInBounds_toArray, List.set_cons_zero, List.set_cons_succ]
            refine takeL (i := 10) (oi := _) (v := ?_) rfl (by kernel_rfl) (by kernel_rfl) (by kernel_rfl) (fun _ _ _ h => h) (by rfl) ?_ hHeld ?_
            rotate_left
            · intro w hSw; (try dsimp only at hSw); go_simp; try with_reducible rfl
            try simp only [Act.put, List.setIfInBounds_toArray, List.set_cons_zero, List.set_cons_succ]
            refine takeL (i := 11) (oi := _) (v := ?_) rfl (by kernel_rfl) (by kernel_rfl) (by kernel_rfl) (fun _ _ _ h => h) (by rfl) ?_ hHeld ?_
            rotate_left
            · intro w hSw; (try dsimp only at hSw); go_simp; try with_reducible rfl
            try simp only [Act.put, List.setIfInBounds_toArray, List.set_cons_zero, List.set_cons_succ]
            refine takeL (i := 12) (oi := _) (v := ?_) rfl (by kernel_rfl) (by kernel_rfl) (by kernel_rfl) (fun _ _ _ h => h) (by rfl) ?_ hHeld ?_
            rotate_left
            · intro w hSw; (try dsimp only at hSw); go_simp; try with_reducible rfl
            try simp only [Act.put, List.setIfInBounds_toArray, List.set_cons_zero, List.set_cons_succ]
            refine takeL (i := 13) (oi := _) (v := ?_) rfl (by kernel_rfl) (by kernel_rfl) (by kernel_rfl) (fun _ _ _ h => h) (by rfl) ?_ hHeld ?_
            rotate_left
            · intro w hSw; (try dsimp only at hSw); go_simp; try with_reducible rfl
            try simp only [Act.put, List.setIfInBounds_toArray, List.set_cons_zero, List.set_cons_succ]
            refine wpAnyH_ready (rs := [5, 7]) (by kernel_rfl) (by simp) ?_
            refine consL (oi := _) rfl (fun K hK => ?_) ?_
            · go_simp
              (go_at_call 81; (with_reducible refine (hcl _ (by first | assumption | exact Gr.drew (by assumption) lf | exact Gr.alloc (by assumption) lf _ | exact Gr.drew (Gr.alloc (by assumption) lf _) lf | exact Gr.alloc (Gr.drew (by assumption) lf) lf _)).mono ?_); rintro e w3 ⟨a3, c3, rfl, hown3, hb3⟩; have gr3 : Gr bf W w3 := Gr.below (by first | assumption | exact Gr.drew (by assumption) lf | exact Gr.alloc (by assumption) lf _ | exact Gr.drew (Gr.alloc (by assumption) lf _) lf | exact Gr.alloc (Gr.drew (by assumption) lf) lf _) hb3 lf; have hz3 := gr3.g.size; have hy3 := hb3.size; (try simp at hy3))
              (try go_wp2_with fail)
              refine hK.out _ _ ?_ (fun hNew => ?_)
              · exact hkeep _ (by first | assumption | exact Gr.drew (by assumption) lf | exact Gr.alloc (by assumption) lf _ | exact Gr.drew (Gr.alloc (by assumption) lf _) lf | exact Gr.alloc (Gr.drew (by assumption) lf) lf _)
              clear hK K hHeld
              have hHeld := hNew
              clear hNew
              try simp only [Act.put, List.setIfInBounds_toArray, List.set_cons_zero, List.set_cons_succ]
              refine wpAnyH_ready (rs := [7]) (by kernel_rfl) (by simp) ?_
              refine consL (oi := _) rfl (fun K hK => ?_) ?_
              · go_simp
                refine hK.out _ _ ?_ (fun hNew => ?_)
                · exact hkeep _ (by first | assumption | exact Gr.drew (by assumption) lf | exact Gr.alloc (by assumption) lf _ | exact Gr.drew (Gr.alloc (by assumption) lf _) lf | exact Gr.alloc (Gr.drew (by assumption) lf) lf _)
                clear hK K hHeld
                have hHeld := hNew
                clear hNew
                try simp only [Act.put, List.setIfInBounds_toArray, List.set_cons_zero, List.set_cons_succ]
                refine wpAnyH_ready (rs := [8]) (by kernel_rfl) (by simp) ?_
                refine consL (oi := _) rfl (fun K hK => ?_) ?_
                · (first | (refine step_app elI (by rfl) _ _ rfl W.heap.size a3 out.length c3 _ rfl ((OwnL.base_le hown3 (by first | omega | (simp; done) | (simp; omega))).alloc _) _ 1 1 _ rfl rfl (Cells.src (Cells.new _ _ _)) (by simp [Value.oneCell']) (by omega) (by unfold maxLen; omega) (by omega) (by first | omega | (simp; done) | (simp; omega)) ?_; intro g4 cg4 w4 howng4 hb4; have gr4 : Gr bf W w4 := Gr.low (by first | assumption | exact Gr.drew (by assumption) lf | exact Gr.alloc (by assumption) lf _ | exact Gr.drew (Gr.alloc (by assumption) lf _) lf | exact Gr.alloc (Gr.drew (by assumption) lf) lf _) hb4 lf; have hz4 := gr4.g.size) | (refine step_app elI (by rfl) _ _ rfl W.heap.size a3 out.length c3 _ rfl ((OwnL.base_le hown3 (by first | omega | (simp; done) | (simp; omega))).alloc _) _ 1 1 _ rfl rfl (Cells.src (Cells.new _ _ _)) (by simp [Value.oneCell']) (by omega) (by unfold maxLen; omega) (by omega) (by first | omega | (simp; done) | (simp; omega)) ?_; intro g4 cg4 w4 howng4 hb4; have gr4 : Gr bf W w4 := Gr.low (by first | assumption | exact Gr.drew (by assumption) lf | exact Gr.alloc (by assumption) lf _ | exact Gr.drew (Gr.alloc (by assumption) lf _) lf | exact Gr.alloc (Gr.drew (by assumption) lf) lf _) hb4 lf; have hz4 := gr4.g.size))
                  refine hK.out _ _ ?_ (fun hNew => ?_)
                  · exact hkeep _ (by first | assumption | exact Gr.drew (by assumption) lf | exact Gr.alloc (by assumption) lf _ | exact Gr.drew (Gr.alloc (by assumption) lf _) lf | exact Gr.alloc (Gr.drew (by assumption) lf) lf _)
                  clear hK K hHeld
                  have hHeld := hNew
                  clear hNew
                  try simp only [Act.put, List.setIfInBounds_toArray, List.set_cons_zero, List.set_cons_succ]
                  refine wpAnyH_ready (rs := [14]) (by kernel_rfl) (by simp) ?_
                  refine consL (oi := _) rfl (fun K hK => ?_) ?_
                  · go_simp
                    (go_at_call 79; (with_reducible refine (hL1 _ gr4 _ _ howng4).mono ?_); rintro e w5 ⟨rfl, hg5⟩; have gr5 : Gr bf W w5 := gr4.trans hg5; have hz5 := gr5.g.size)
                    (try go_wp2_with fail)
                    refine hK.out _ _ ?_ (fun hNew => ?_)
                    · exact hkeep _ (by first | assumption | exact Gr.drew (by assumption) lf | exact Gr.alloc (by assumption) lf _ | exact Gr.drew (Gr.alloc (by assumption) lf _) lf | exact Gr.alloc (Gr.drew (by assumption) lf) lf _)
                    clear hK K hHeld
                    have hHeld := hNew
                    clear hNew
                    try simp only [Act.put, List.setIfInBounds_toArray, List.set_cons_zero, List.set_cons_succ]
                    refine takeL (i := 15) (oi := _) (v := ?_) rfl (by kernel_rfl) (by kernel_rfl) (by kernel_rfl) (fun _ _ _ h => h) (by rfl) ?_ hHeld ?_
                    rotate_left
                    · intro w hSw; (try dsimp only at hSw); go_simp; try with_reducible rfl
                    try simp only [Act.put, List.setIfInBounds_toArray, List.set_cons_zero, List.set_cons_succ]
                    refine takeL (i := 16) (oi := _) (v := ?_) rfl (by kernel_rfl) (by kernel_rfl) (by kernel_rfl) (fun _ _ _ h => h) (by rfl) ?_ hHeld ?_
                    rotate_left
                    · intro w hSw; (try dsimp only at hSw); go_simp; try with_reducible rfl
                    try simp only [Act.put, List.setIfInBounds_toArray, List.set_cons_zero, List.set_cons_succ]
                    refine takeL (i := 17) (oi := _) (v := ?_) rfl (by kernel_rfl) (by kernel_rfl) (by kernel_rfl) (fun _ _ _ h => h) (by rfl) ?_ hHeld ?_
                    rotate_left
                    · intro w hSw; (try dsimp only at hSw); go_simp; try with_reducible rfl
                    try simp only [Act.put, List.setIfInBounds_toArray, List.set_cons_zero, List.set_cons_succ]
                    refine takeL (i := 18) (oi := _) (v := ?_) rfl (by kernel_rfl) (by kernel_rfl) (by kernel_rfl) (fun _ _ _ h => h) (by rfl) ?_ hHeld ?_
                    rotate_left
                    · intro w hSw; (try dsimp only at hSw); go_simp; try with_reducible rfl
                    try simp only [Act.put, List.setIfInBounds_toArray, List.set_cons_zero, List.set_cons_succ]
                    refine takeL (i := 19) (oi := _) (v := ?_) rfl (by kernel_rfl) (by kernel_rfl) (by kernel_rfl) (fun _ _ _ h => h) (by rfl) ?_ hHeld ?_
                    rotate_left
                    · intro w hSw; (try dsimp only at hSw); go_simp; try with_reducible rfl
                    try simp only [Act.put, List.setIfInBounds_toArray, List.set_cons_zero, List.set_cons_succ]
                    refine takeL (i := 21) (oi := _) (v := ?_) rfl (by kernel_rfl) (by kernel_rfl) (by kernel_rfl) (fun _ _ _ h => h) (by rfl) ?_ hHeld ?_
                    rotate_left
                    · intro w hSw; (try dsimp only at hSw); go_simp; try with_reducible rfl
                    try simp only [Act.put, List.setIfInBounds_toArray, List.set_cons_zero, List.set_cons_succ]
                    refine takeL (i := 22) (oi := _) (v := ?_) rfl (by kernel_rfl) (by kernel_rfl) (by kernel_rfl) (fun _ _ _ h => h) (by rfl) ?_ hHeld ?_
                    rotate_left
                    · intro w hSw; (try dsimp only at hSw); go_simp; try with_reducible rfl
                    try simp only [Act.put, List.setIfInBounds_toArray, List.set_cons_zero, List.set_cons_succ]
                    refine takeL (i := 23) (oi := _) (v := ?_) rfl (by kernel_rfl) (by kernel_rfl) (by kernel_rfl) (fun _ _ _ h => h) (by rfl) ?_ hHeld ?_
                    rotate_left
                    · intro w hSw; (try dsimp only at hSw); go_simp; try with_reducible rfl
                    try simp only [Act.put, List.setIfInBounds_toArray, List.set_cons_zero, List.set_cons_succ]
                    refine takeL (i := 24) (oi := _) (v := ?_) rfl (by kernel_rfl) (by kernel_rfl) (by kernel_rfl) (fun _ _ _ h => h) (by rfl) ?_ hHeld ?_
                    rotate_left
                    · intro w hSw; (try dsimp only at hSw); go_simp; try with_reducible rfl
                    try simp only [Act.put, List.setIfInBounds_toArray, List.set_cons_zero, List.set_cons_succ]
                    refine takeL (i := 27) (oi := _) (v := ?_) rfl (by kernel_rfl) (by kernel_rfl) (by kernel_rfl) (fun _ _ _ h => h) (by rfl) ?_ hHeld ?_
                    rotate_left
                    · intro w hSw; (try dsimp only at hSw); go_simp; try with_reducible rfl
                    try simp only [Act.put, List.setIfInBounds_toArray, List.set_cons_zero, List.set_cons_succ]
                    refine takeL (i := 28) (oi := _) (v := ?_) rfl (by kernel_rfl) (by kernel_rfl) (by kernel_rfl) (fun _ _ _ h => h) (by rfl) ?_ hHeld ?_
                    rotate_left
                    · intro w hSw; (try dsimp only at hSw); go_simp; try with_reducible rfl
                    try simp only [Act.put, List.setIfInBounds_toArray, List.set_cons_zero, List.set_cons_succ]
                    refine takeL (i := 29) (oi := _) (v := ?_) rfl (by kernel_rfl) (by kernel_rfl) (by kernel_rfl) (fun _ _ _ h => h) (by rfl) ?_ hHeld ?_
                    rotate_left
                    · intro w hSw; (try dsimp only at hSw); go_simp; try with_reducible rfl
                    try simp only [Act.put, List.setIfInBounds_toArray, List.set_cons_zero, List.set_cons_succ]
                    refine wpAnyH_ready (rs := [20, 25]) (by kernel_rfl) (by simp) ?_
                    refine consL (oi := _) rfl (fun K hK => ?_) ?_
                    · go_simp
                      (go_at_call 82; (with_reducible refine (hcE _ (by first | assumption | exact Gr.drew (by assumption) lf | exact Gr.alloc (by assumption) lf _ | exact Gr.drew (Gr.alloc (by assumption) lf _) lf | exact Gr.alloc (Gr.drew (by assumption) lf) lf _)).mono ?_); rintro e w6 ⟨a6, c6, rfl, hown6, hb6⟩; have gr6 : Gr bf W w6 := Gr.below (by first | assumption | exact Gr.drew (by assumption) lf | exact Gr.alloc (by assumption) lf _ | exact Gr.drew (Gr.alloc (by assumption) lf _) lf | exact Gr.alloc (Gr.drew (by assumption) lf) lf _) hb6 lf; have hz6 := gr6.g.size; have hy6 := hb6.size; (try simp at hy6))
                      (try go_wp2_with fail)
                      refine hK.out _ _ ?_ (fun hNew => ?_)
                      · exact hkeep _ (by first | assumption | exact Gr.drew (by assumption) lf | exact Gr.alloc (by assumption) lf _ | exact Gr.drew (Gr.alloc (by assumption) lf _) lf | exact Gr.alloc (Gr.drew (by assumption) lf) lf _)
                      clear hK K hHeld
                      have hHeld := hNew
                      clear hNew
                      try simp only [Act.put, List.setIfInBounds_toArray, List.set_cons_zero, List.set_cons_succ]
                      refine wpAnyH_ready (rs := [25]) (by kernel_rfl) (by simp) ?_
                      refine consL (oi := _) rfl (fun K hK => ?_) ?_
                      · go_simp
                        refine hK.out _ _ ?_ (fun hNew => ?_)
                        · exact hkeep _ (by first | assumption | exact Gr.drew (by assumption) lf | exact Gr.alloc (by assumption) lf _ | exact Gr.drew (Gr.alloc (by assumption) lf _) lf | exact Gr.alloc (Gr.drew (by assumption) lf) lf _)
                        clear hK K hHeld
                        have hHeld := hNew
                        clear hNew
                        try simp only [Act.put, List.setIfInBounds_toArray, List.set_cons_zero, List.set_cons_succ]
                        refine wpAnyH_ready (rs := [26]) (by kernel_rfl) (by simp) ?_
                        refine consL (oi := _) rfl (fun K hK => ?_) ?_
                        · (first | (refine step_app elE (by rfl) _ _ rfl W.heap.size a6 kept.length c6 _ rfl ((OwnL.base_le hown6 (by first | omega | (simp; done) | (simp; omega))).alloc _) _ 1 1 _ rfl rfl (Cells.src (Cells.new _ _ _)) (by simp [Value.oneCell']) (by omega) (by unfold maxLen; omega) (by omega) (by first | omega | (simp; done) | (simp; omega)) ?_; intro g7 cg7 w7 howng7 hb7; have gr7 : Gr bf W w7 := Gr.low (by first | assumption | exact Gr.drew (by assumption) lf | exact Gr.alloc (by assumption) lf _ | exact Gr.drew (Gr.alloc (by assumption) lf _) lf | exact Gr.alloc (Gr.drew (by assumption) lf) lf _) hb7 lf; have hz7 := gr7.g.size) | (refine step_app elE (by rfl) _ _ rfl W.heap.size a6 kept.length c6 _ rfl ((OwnL.base_le hown6 (by first | omega | (simp; done) | (simp; omega))).alloc _) _ 1 1 _ rfl rfl (Cells.src (Cells.new _ _ _)) (by simp [Value.oneCell']) (by omega) (by unfold maxLen; omega) (by omega) (by first | omega | (simp; done) | (simp; omega)) ?_; intro g7 cg7 w7 howng7 hb7; have gr7 : Gr bf W w7 := Gr.low (by first | assumption | exact Gr.drew (by assumption) lf | exact Gr.alloc (by assumption) lf _ | exact Gr.drew (Gr.alloc (by assumption) lf _) lf | exact Gr.alloc (Gr.drew (by assumption) lf) lf _) hb7 lf; have hz7 := gr7.g.size))
                          refine hK.out _ _ ?_ (fun hNew => ?_)
                          · exact hkeep _ (by first | assumption | exact Gr.drew (by assumption) lf | exact Gr.alloc (by assumption) lf _ | exact Gr.drew (Gr.alloc (by assumption) lf _) lf | exact Gr.alloc (Gr.drew (by assumption) lf) lf _)
                          clear hK K hHeld
                          have hHeld := hNew
                          clear hNew
                          try simp only [Act.put, List.setIfInBounds_toArray, List.set_cons_zero, List.set_cons_succ]
                          refine wpAnyH_ready (rs := [30]) (by kernel_rfl) (by simp) ?_
                          refine consL (oi := _) rfl (fun K hK => ?_) ?_
                          · go_simp
                            (go_at_call 79; (with_reducible refine (hL2 _ gr7 _ _ howng7).mono ?_); rintro e w8 ⟨rfl, hg8, a9, c9, hf9, hi9⟩; have gr8 : Gr bf W w8 := gr7.trans hg8)
                            (try go_wp2_with fail)
                            refine hK.out _ _ ?_ (fun hNew => ?_)
                            · exact hkeep _ (by first | assumption | exact Gr.drew (by assumption) lf | exact Gr.alloc (by assumption) lf _ | exact Gr.drew (Gr.alloc (by assumption) lf _) lf | exact Gr.alloc (Gr.drew (by assumption) lf) lf _)
                            clear hK K hHeld
                            have hHeld := hNew
                            clear hNew
                            try simp only [Act.put, List.setIfInBounds_toArray, List.set_cons_zero, List.set_cons_succ]
                            refine takeL (i := 31) (oi := _) (v := ?_) rfl (by kernel_rfl) (by kernel_rfl) (by kernel_rfl) (fun _ _ _ h => h) (by rfl) ?_ hHeld ?_
                            rotate_left
                            · intro w hSw; (try dsimp only at hSw); go_simp; try with_reducible rfl
                            try simp only [Act.put, List.setIfInBounds_toArray, List.set_cons_zero, List.set_cons_succ]
                            refine takeL (i := 32) (oi := _) (v := ?_) rfl (by kernel_rfl) (by kernel_rfl) (by kernel_rfl) (fun _ _ _ h => h) (by rfl) ?_ hHeld ?_
                            rotate_left
                            · intro w hSw; (try dsimp only at hSw); go_simp; try with_reducible rfl
                            try simp only [Act.put, List.setIfInBounds_toArray, List.set_cons_zero, List.set_cons_succ]
                            refine wpAnyH_done (by kernel_rfl) ?_ _
                            refine NoPanic.normal ?_
                            go_wp2
                            go_ret
                            exact ⟨rfl, gr8, a9, c9, hf9, hi9⟩
                          exact AllReadyH.nil
                        exact AllReadyH.nil
                      exact AllReadyH.nil
                    refine consL (oi := _) rfl (fun K hK => ?_) ?_
                    · go_simp
                      refine hK.out _ _ ?_ (fun hNew => ?_)
                      · exact hkeep _ (by first | assumption | exact Gr.drew (by assumption) lf | exact Gr.alloc (by assumption) lf _ | exact Gr.drew (Gr.alloc (by assumption) lf _) lf | exact Gr.alloc (Gr.drew (by assumption) lf) lf _)
                      clear hK K hHeld
                      have hHeld := hNew
                      clear hNew
                      try simp only [Act.put, List.setIfInBounds_toArray, List.set_cons_zero, List.set_cons_succ]
                      refine wpAnyH_ready (rs := [20]) (by kernel_rfl) (by simp) ?_
                      refine consL (oi := _) rfl (fun K hK => ?_) ?_
                      · go_simp
                        (go_at_call 82; (with_reducible refine (hcE _ (by first | assumption | exact Gr.drew (by assumption) lf | exact Gr.alloc (by assumption) lf _ | exact Gr.drew (Gr.alloc (by assumption) lf _) lf | exact Gr.alloc (Gr.drew (by assumption) lf) lf _)).mono ?_); rintro e w6 ⟨a6, c6, rfl, hown6, hb6⟩; have gr6 : Gr bf W w6 := Gr.below (by first | assumption | exact Gr.drew (by assumption) lf | exact Gr.alloc (by assumption) lf _ | exact Gr.drew (Gr.alloc (by assumption) lf _) lf | exact Gr.alloc (Gr.drew (by assumption) lf) lf _) hb6 lf; have hz6 := gr6.g.size; have hy6 := hb6.size; (try simp at hy6))
                        (try go_wp2_with fail)
                        refine hK.out _ _ ?_ (fun hNew => ?_)
                        · exact hkeep _ (by first | assumption | exact Gr.drew (by assumption) lf | exact Gr.alloc (by assumption) lf _ | exact Gr.drew (Gr.alloc (by assumption) lf _) lf | exact Gr.alloc (Gr.drew (by assumption) lf) lf _)
                        clear hK K hHeld
                        have hHeld := hNew
                        clear hNew
                        try simp only [Act.put, List.setIfInBounds_toArray, List.set_cons_zero, List.set_cons_succ]
                        refine wpAnyH_ready (rs := [26]) (by kernel_rfl) (by simp) ?_
                        refine consL (oi := _) rfl (fun K hK => ?_) ?_
                        · (first | (refine step_app elE (by rfl) _ _ rfl W.heap.size a6 kept.length c6 _ rfl (OwnL.base_le hown6 (by first | omega | (simp; done) | (simp; omega))) _ 1 1 _ rfl rfl (Cells.src (Cells.below (Cells.new _ _ _) hb6)) (by simp [Value.oneCell']) (by omega) (by unfold maxLen; omega) (by omega) (by first | omega | (simp; done) | (simp; omega)) ?_; intro g7 cg7 w7 howng7 hb7; have gr7 : Gr bf W w7 := Gr.low (by first | assumption | exact Gr.drew (by assumption) lf | exact Gr.alloc (by assumption) lf _ | exact Gr.drew (Gr.alloc (by assumption) lf _) lf | exact Gr.alloc (Gr.drew (by assumption) lf) lf _) hb7 lf; have hz7 := gr7.g.size) | (refine step_app elE (by rfl) _ _ rfl W.heap.size a6 kept.length c6 _ rfl (OwnL.base_le hown6 (by first | omega | (simp; done) | (simp; omega))) _ 1 1 _ rfl rfl (Cells.src (Cells.below (Cells.below (Cells.new _ _ _) ((Below.refl _ _).drew)) hb6)) (by simp [Value.oneCell']) (by omega) (by unfold maxLen; omega) (by omega) (by first | omega | (simp; done) | (simp; omega)) ?_; intro g7 cg7 w7 howng7 hb7; have gr7 : Gr bf W w7 := Gr.low (by first | assumption | exact Gr.drew (by assumption) lf | exact Gr.alloc (by assumption) lf _ | exact Gr.drew (Gr.alloc (by assumption) lf _) lf | exact Gr.alloc (Gr.drew (by assumption) lf) lf _) hb7 lf; have hz7 := gr7.g.size))
                          refine hK.out _ _ ?_ (fun hNew => ?_)
                          · exact hkeep _ (by first | assumption | exact Gr.drew (by assumption) lf | exact Gr.alloc (by assumption) lf _ | exact Gr.drew (Gr.alloc (by assumption) lf _) lf | exact Gr.alloc (Gr.drew (by assumption) lf) lf _)
                          clear hK K hHeld
                          have hHeld := hNew
                          clear hNew
                          try simp only [Act.put, List.setIfInBounds_toArray, List.set_cons_zero, List.set_cons_succ]
                          refine wpAnyH_ready (rs := [30]) (by kernel_rfl) (by simp) ?_
                          refine consL (oi := _) rfl (fun K hK => ?_) ?_
                          · go_simp
                            (go_at_call 79; (with_reducible refine (hL2 _ gr7 _ _ howng7).mono ?_); rintro e w8 ⟨rfl, hg8, a9, c9, hf9, hi9⟩; have gr8 : Gr bf W w8 := gr7.trans hg8)
                            (try go_wp2_with fail)
                            refine hK.out _ _ ?_ (fun hNew => ?_)
                            · exact hkeep _ (by first | assumption | exact Gr.drew (by assumption) lf | exact Gr.alloc (by assumption) lf _ | exact Gr.drew (Gr.alloc (by assumption) lf _) lf | exact Gr.alloc (Gr.drew (by assumption) lf) lf _)
                            clear hK K hHeld
                            have hHeld := hNew
                            clear hNew
                            try simp only [Act.put, List.setIfInBounds_toArray, List.set_cons_zero, List.set_cons_succ]
                            refine takeL (i := 31) (oi := _) (v := ?_) rfl (by kernel_rfl) (by kernel_rfl) (by kernel_rfl) (fun _ _ _ h => h) (by rfl) ?_ hHeld ?_
                            rotate_left
                            · intro w hSw; (try dsimp only at hSw); go_simp; try with_reducible rfl
                            try simp only [Act.put, List.setIfInBounds_toArray, List.set_cons_zero, List.set_cons_succ]
                            refine takeL (i := 32) (oi := _) (v := ?_) rfl (by kernel_rfl) (by kernel_rfl) (by kernel_rfl) (fun _ _ _ h => h) (by rfl) ?_ hHeld ?_
                            rotate_left
                            · intro w hSw; (try dsimp only at hSw); go_simp; try with_reducible rfl
                            try simp only [Act.put, List.setIfInBounds_toArray, List.set_cons_zero, List.set_cons_succ]
                            refine wpAnyH_done (by kernel_rfl) ?_ _
                            refine NoPanic.normal ?_
                            go_wp2
                            go_ret
                            exact ⟨rfl, gr8, a9, c9, hf9, hi9⟩
                          exact AllReadyH.nil
                        exact AllReadyH.nil
                      exact AllReadyH.nil
                    exact AllReadyH.nil
                  exact AllReadyH.nil
                exact AllReadyH.nil
              exact AllReadyH.nil
            refine consL (oi := _) rfl (fun K hK => ?_) ?_
            · go_simp
              refine hK.out _ _ ?_ (fun hNew => ?_)
              · exact hkeep _ (by first | assumption | exact Gr.drew (by assumption) lf | exact Gr.alloc (by assumption) lf _ | exact Gr.drew (Gr.alloc (by assumption) lf _) lf | exact Gr.alloc (Gr.drew (by assumption) lf) lf _)
              clear hK K hHeld
              have hHeld := hNew
              clear hNew
              try simp only [Act.put, List.setIfInBounds_toArray, List.set_cons_zero, List.set_cons_succ]
              refine wpAnyH_ready (rs := [5]) (by kernel_rfl) (by simp) ?_
              refine consL (oi := _) rfl (fun K hK => ?_) ?_
              · go_simp
                (go_at_call 81; (with_reducible refine (hcl _ (by first | assumption | exact Gr.drew (by assumption) lf | exact Gr.alloc (by assumption) lf _ | exact Gr.drew (Gr.alloc (by assumption) lf _) lf | exact Gr.alloc (Gr.drew (by assumption) lf) lf _)).mono ?_); rintro e w3 ⟨a3, c3, rfl, hown3, hb3⟩; have gr3 : Gr bf W w3 := Gr.below (by first | assumption | exact Gr.drew (by assumption) lf | exact Gr.alloc (by assumption) lf _ | exact Gr.drew (Gr.alloc (by assumption) lf _) lf | exact Gr.alloc (Gr.drew (by assumption) lf) lf _) hb3 lf; have hz3 := gr3.g.size; have hy3 := hb3.size; (try simp at hy3))
                (try go_wp2_with fail)
                refine hK.out _ _ ?_ (fun hNew => ?_)
                · exact hkeep _ (by first | assumption | exact Gr.drew (by assumption) lf | exact Gr.alloc (by assumption) lf _ | exact Gr.drew (Gr.alloc (by assumption) lf _) lf | exact Gr.alloc (Gr.drew (by assumption) lf) lf _)
                clear hK K hHeld
                have hHeld := hNew
                clear hNew
                try simp only [Act.put, List.setIfInBounds_toArray, List.set_cons_zero, List.set_cons_succ]
                refine wpAnyH_ready (rs := [8]) (by kernel_rfl) (by simp) ?_
                refine consL (oi := _) rfl (fun K hK => ?_) ?_
                · (first | (refine step_app elI (by rfl) _ _ rfl W.heap.size a3 out.length c3 _ rfl (OwnL.base_le hown3 (by first | omega | (simp; done) | (simp; omega))) _ 1 1 _ rfl rfl (Cells.src (Cells.below (Cells.new _ _ _) hb3)) (by simp [Value.oneCell']) (by omega) (by unfold maxLen; omega) (by omega) (by first | omega | (simp; done) | (simp; omega)) ?_; intro g4 cg4 w4 howng4 hb4; have gr4 : Gr bf W w4 := Gr.low (by first | assumption | exact Gr.drew (by assumption) lf | exact Gr.alloc (by assumption) lf _ | exact Gr.drew (Gr.alloc (by assumption) lf _) lf | exact Gr.alloc (Gr.drew (by assumption) lf) lf _) hb4 lf; have hz4 := gr4.g.size) | (refine step_app elI (by rfl) _ _ rfl W.heap.size a3 out.length c3 _ rfl (OwnL.base_le hown3 (by first | omega | (simp; done) | (simp; omega))) _ 1 1 _ rfl rfl (Cells.src (Cells.below (Cells.below (Cells.new _ _ _) ((Below.refl _ _).drew)) hb3)) (by simp [Value.oneCell']) (by omega) (by unfold maxLen; omega) (by omega) (by first | omega | (simp; done) | (simp; omega)) ?_; intro g4 cg4 w4 howng4 hb4; have gr4 : Gr bf W w4 := Gr.low (by first | assumption | exact Gr.drew (by assumption) lf | exact Gr.alloc (by assumption) lf _ | exact Gr.drew (Gr.alloc (by assumption) lf _) lf | exact Gr.alloc (Gr.drew (by assumption) lf) lf _) hb4 lf; have hz4 := gr4.g.size))
                  refine hK.out _ _ ?_ (fun hNew => ?_)
                  · exact hkeep _ (by first | assumption | exact Gr.drew (by assumption) lf | exact Gr.alloc (by assumption) lf _ | exact Gr.drew (Gr.alloc (by assumption) lf _) lf | exact Gr.alloc (Gr.drew (by assumption) lf) lf _)
                  clear hK K hHeld
                  have hHeld := hNew
                  clear hNew
                  try simp only [Act.put, List.setIfInBounds_toArray, List.set_cons_zero, List.set_cons_succ]
                  refine wpAnyH_ready (rs := [14]) (by kernel_rfl) (by simp) ?_
                  refine consL (oi := _) rfl (fun K hK => ?_) ?_
                  · go_simp
                    (go_at_call 79; (with_reducible refine (hL1 _ gr4 _ _ howng4).mono ?_); rintro e w5 ⟨rfl, hg5⟩; have gr5 : Gr bf W w5 := gr4.trans hg5; have hz5 := gr5.g.size)
                    (try go_wp2_with fail)
                    refine hK.out _ _ ?_ (fun hNew => ?_)
                    · exact hkeep _ (by first | assumption | exact Gr.drew (by assumption) lf | exact Gr.alloc (by assumption) lf _ | exact Gr.drew (Gr.alloc (by assumption) lf _) lf | exact Gr.alloc (Gr.drew (by assumption) lf) lf _)
                    clear hK K hHeld
                    have hHeld := hNew
                    clear hNew
                    try simp only [Act.put, List.setIfInBounds_toArray, List.set_cons_zero, List.set_cons_succ]
                    refine takeL (i := 15) (oi := _) (v := ?_) rfl (by kernel_rfl) (by kernel_rfl) (by kernel_rfl) (fun _ _ _ h => h) (by rfl) ?_ hHeld ?_
                    rotate_left
                    · intro w hSw; (try dsimp only at hSw); go_simp; try with_reducible rfl
                    try simp only [Act.put, List.setIfInBounds_toArray, List.set_cons_zero, List.set_cons_succ]
                    refine takeL (i := 16) (oi := _) (v := ?_) rfl (by kernel_rfl) (by kernel_rfl) (by kernel_rfl) (fun _ _ _ h => h) (by rfl) ?_ hHeld ?_
                    rotate_left
                    · intro w hSw; (try dsimp only at hSw); go_simp; try with_reducible rfl
                    try simp only [Act.put, List.setIfInBounds_toArray, List.set_cons_zero, List.set_cons_succ]
                    refine takeL (i := 17) (oi := _) (v := ?_) rfl (by kernel_rfl) (by kernel_rfl) (by kernel_rfl) (fun _ _ _ h => h) (by rfl) ?_ hHeld ?_
                    rotate_left
                    · intro w hSw; (try dsimp only at hSw); go_simp; try with_reducible rfl
                    try simp only [Act.put, List.setIfInBounds_toArray, List.set_cons_zero, List.set_cons_succ]
                    refine takeL (i := 18) (oi := _) (v := ?_) rfl (by kernel_rfl) (by kernel_rfl) (by kernel_rfl) (fun _ _ _ h => h) (by rfl) ?_ hHeld ?_
                    rotate_left
                    · intro w hSw; (try dsimp only at hSw); go_simp; try with_reducible rfl
                    try simp only [Act.put, List.setIfInBounds_toArray, List.set_cons_zero, List.set_cons_succ]
                    refine takeL (i := 19) (oi := _) (v := ?_) rfl (by kernel_rfl) (by kernel_rfl) (by kernel_rfl) (fun _ _ _ h => h) (by rfl) ?_ hHeld ?_
                    rotate_left
                    · intro w hSw; (try dsimp only at hSw); go_simp; try with_reducible rfl
                    try simp only [Act.put, List.setIfInBounds_toArray, List.set_cons_zero, List.set_cons_succ]
                    refine takeL (i := 21) (oi := _) (v := ?_) rfl (by kernel_rfl) (by kernel_rfl) (by kernel_rfl) (fun _ _ _ h => h) (by rfl) ?_ hHeld ?_
                    rotate_left
                    · intro w hSw; (try dsimp only at hSw); go_simp; try with_reducible rfl
                    try simp only [Act.put, List.setIfInBounds_toArray, List.set_cons_zero, List.set_cons_succ]
                    refine takeL (i := 22) (oi := _) (v := ?_) rfl (by kernel_rfl) (by kernel_rfl) (by kernel_rfl) (fun _ _ _ h => h) (by rfl) ?_ hHeld ?_
                    rotate_left
                    · intro w hSw; (try dsimp only at hSw); go_simp; try with_reducible rfl
                    try simp only [Act.put, List.setIfInBounds_toArray, List.set_cons_zero, List.set_cons_succ]
                    refine takeL (i := 23) (oi := _) (v := ?_) rfl (by kernel_rfl) (by kernel_rfl) (by kernel_rfl) (fun _ _ _ h => h) (by rfl) ?_ hHeld ?_
                    rotate_left
                    · intro w hSw; (try dsimp only at hSw); go_simp; try with_reducible rfl
                    try simp only [Act.put, List.setIfInBounds_toArray, List.set_cons_zero, List.set_cons_succ]
                    refine takeL (i := 24) (oi := _) (v := ?_) rfl (by kernel_rfl) (by kernel_rfl) (by kernel_rfl) (fun _ _ _ h => h) (by rfl) ?_ hHeld ?_
                    rotate_left
                    · intro w hSw; (try dsimp only at hSw); go_simp; try with_reducible rfl
                    try simp only [Act.put, List.setIfInBounds_toArray, List.set_cons_zero, List.set_cons_succ]
                    refine takeL (i := 27) (oi := _) (v := ?_) rfl (by kernel_rfl) (by kernel_rfl) (by kernel_rfl) (fun _ _ _ h => h) (by rfl) ?_ hHeld ?_
                    rotate_left
                    · intro w hSw; (try dsimp only at hSw); go_simp; try with_reducible rfl
                    try simp only [Act.put, List.setIfInBounds_toArray, List.set_cons_zero, List.set_cons_succ]
                    refine takeL (i := 28) (oi := _) (v := ?_) rfl (by kernel_rfl) (by kernel_rfl) (by kernel_rfl) (fun _ _ _ h => h) (by rfl) ?_ hHeld ?_
                    rotate_left
                    · intro w hSw; (try dsimp only at hSw); go_simp; try with_reducible rfl
                    try simp only [Act.put, List.setIfInBounds_toArray, List.set_cons_zero, List.set_cons_succ]
                    refine takeL (i := 29) (oi := _) (v := ?_) rfl (by kernel_rfl) (by kernel_rfl) (by kernel_rfl) (fun _ _ _ h => h) (by rfl) ?_ hHeld ?_
                    rotate_left
                    · intro w hSw; (try dsimp only at hSw); go_simp; try with_reducible rfl
                    try simp only [Act.put, List.setIfInBounds_toArray, List.set_cons_zero, List.set_cons_succ]
                    refine wpAnyH_ready (rs := [20, 25]) (by kernel_rfl) (by simp) ?_
                    refine consL (oi := _) rfl (fun K hK => ?_) ?_
                    · go_simp
                      (go_at_call 82; (with_reducible refine (hcE _ (by first | assumption | exact Gr.drew (by assumption) lf | exact Gr.alloc (by assumption) lf _ | exact Gr.drew (Gr.alloc (by assumption) lf _) lf | exact Gr.alloc (Gr.drew (by assumption) lf) lf _)).mono ?_); rintro e w6 ⟨a6, c6, rfl, hown6, hb6⟩; have gr6 : Gr bf W w6 := Gr.below (by first | assumption | exact Gr.drew (by assumption) lf | exact Gr.alloc (by assumption) lf _ | exact Gr.drew (Gr.alloc (by assumption) lf _) lf | exact Gr.alloc (Gr.drew (by assumption) lf) lf _) hb6 lf; have hz6 := gr6.g.size; have hy6 := hb6.size; (try simp at hy6))
                      (try go_wp2_with fail)
                      refine hK.out _ _ ?_ (fun hNew => ?_)
                      · exact hkeep _ (by first | assumption | exact Gr.drew (by assumption) lf | exact Gr.alloc (by assumption) lf _ | exact Gr.drew (Gr.alloc (by assumption) lf _) lf | exact Gr.alloc (Gr.drew (by assumption) lf) lf _)
                      clear hK K hHeld
                      have hHeld := hNew
                      clear hNew
                      try simp only [Act.put, List.setIfInBounds_toArray, List.set_cons_zero, List.set_cons_succ]
                      refine wpAnyH_ready (rs := [25]) (by kernel_rfl) (by simp) ?_
                      refine consL (oi := _) rfl (fun K hK => ?_) ?_
                      · go_simp
                        refine hK.out _ _ ?_ (fun hNew => ?_)
                        · exact hkeep _ (by first | assumption | exact Gr.drew (by assumption) lf | exact Gr.alloc (by assumption) lf _ | exact Gr.drew (Gr.alloc (by assumption) lf _) lf | exact Gr.alloc (Gr.drew (by assumption) lf) lf _)
                        clear hK K hHeld
                        have hHeld := hNew
                        clear hNew
                        try simp only [Act.put, List.setIfInBounds_toArray, List.set_cons_zero, List.set_cons_succ]
                        refine wpAnyH_ready (rs := [26]) (by kernel_rfl) (by simp) ?_
                        refine consL (oi := _) rfl (fun K hK => ?_) ?_
                        · (first | (refine step_app elE (by rfl) _ _ rfl W.heap.size a6 kept.length c6 _ rfl ((OwnL.base_le hown6 (by first | omega | (simp; done) | (simp; omega))).alloc _) _ 1 1 _ rfl rfl (Cells.src (Cells.new _ _ _)) (by simp [Value.oneCell']) (by omega) (by unfold maxLen; omega) (by omega) (by first | omega | (simp; done) | (simp; omega)) ?_; intro g7 cg7 w7 howng7 hb7; have gr7 : Gr bf W w7 := Gr.low (by first | assumption | exact Gr.drew (by assumption) lf | exact Gr.alloc (by assumption) lf _ | exact Gr.drew (Gr.alloc (by assumption) lf _) lf | exact Gr.alloc (Gr.drew (by assumption) lf) lf _) hb7 lf; have hz7 := gr7.g.size) | (refine step_app elE (by rfl) _ _ rfl W.heap.size a6 kept.length c6 _ rfl ((OwnL.base_le hown6 (by first | omega | (simp; done) | (simp; omega))).alloc _) _ 1 1 _ rfl rfl (Cells.src (Cells.new _ _ _)) (by simp [Value.oneCell']) (by omega) (by unfold maxLen; omega) (by omega) (by first | omega | (simp; done) | (simp; omega)) ?_; intro g7 cg7 w7 howng7 hb7; have gr7 : Gr bf W w7 := Gr.low (by first | assumption | exact Gr.drew (by assumption) lf | exact Gr.alloc (by assumption) lf _ | exact Gr.drew (Gr.alloc (by assumption) lf _) lf | exact Gr.alloc (Gr.drew (by assumption) lf) lf _) hb7 lf; have hz7 := gr7.g.size))
                          refine hK.out _ _ ?_ (fun hNew => ?_)
                          · exact hkeep _ (by first | assumption | exact Gr.drew (by assumption) lf | exact Gr.alloc (by assumption) lf _ | exact Gr.drew (Gr.alloc (by assumption) lf _) lf | exact Gr.alloc (Gr.drew (by assumption) lf) lf _)
                          clear hK K hHeld
                          have hHeld := hNew
                          clear hNew
                          try simp only [Act.put, List.setIfInBounds_toArray, List.set_cons_zero, List.set_cons_succ]
                          refine wpAnyH_ready (rs := [30]) (by kernel_rfl) (by simp) ?_
                          refine consL (oi := _) rfl (fun K hK => ?_) ?_
                          · go_simp
                            (go_at_call 79; (with_reducible refine (hL2 _ gr7 _ _ howng7).mono ?_); rintro e w8 ⟨rfl, hg8, a9, c9, hf9, hi9⟩; have gr8 : Gr bf W w8 := gr7.trans hg8)
                            (try go_wp2_with fail)
                            refine hK.out _ _ ?_ (fun hNew => ?_)
                            · exact hkeep _ (by first | assumption | exact Gr.drew (by assumption) lf | exact Gr.alloc (by assumption) lf _ | exact Gr.drew (Gr.alloc (by assumption) lf _) lf | exact Gr.alloc (Gr.drew (by assumption) lf) lf _)
                            clear hK K hHeld
                            have hHeld := hNew
                            clear hNew
                            try simp only [Act.put, List.setIfInBounds_toArray, List.set_cons_zero, List.set_cons_succ]
                            refine takeL (i := 31) (oi := _) (v := ?_) rfl (by kernel_rfl) (by kernel_rfl) (by kernel_rfl) (fun _ _ _ h => h) (by rfl) ?_ hHeld ?_
                            rotate_left
                            · intro w hSw; (try dsimp only at hSw); go_simp; try with_reducible rfl
                            try simp only [Act.put, List.setIfInBounds_toArray, List.set_cons_zero, List.set_cons_succ]
                            refine takeL (i := 32) (oi := _) (v := ?_) rfl (by kernel_rfl) (by kernel_rfl) (by kernel_rfl) (fun _ _ _ h => h) (by rfl) ?_ hHeld ?_
                            rotate_left
                            · intro w hSw; (try dsimp only at hSw); go_simp; try with_reducible rfl
                            try simp only [Act.put, List.setIfInBounds_toArray, List.set_cons_zero, List.set_cons_succ]
                            refine wpAnyH_done (by kernel_rfl) ?_ _
                            refine NoPanic.normal ?_
                            go_wp2
                            go_ret
                            exact ⟨rfl, gr8, a9, c9, hf9, hi9⟩
                          exact AllReadyH.nil
                        exact AllReadyH.nil
                      exact AllReadyH.nil
                    refine consL (oi := _) rfl (fun K hK => ?_) ?_
                    · go_simp
                      refine hK.out _ _ ?_ (fun hNew => ?_)
                      · exact hkeep _ (by first | assumption | exact Gr.drew (by assumption) lf | exact Gr.alloc (by assumption) lf _ | exact Gr.drew (Gr.alloc (by assumption) lf _) lf | exact Gr.alloc (Gr.drew (by assumption) lf) lf _)
                      clear hK K hHeld
                      have hHeld := hNew
                      clear hNew
                      try simp only [Act.put, List.setIfInBounds_toArray, List.set_cons_zero, List.set_cons_succ]
                      refine wpAnyH_ready (rs := [20]) (by kernel_rfl) (by simp) ?_
                      refine consL (oi := _) rfl (fun K hK => ?_) ?_
                      · go_simp
                        (go_at_call 82; (with_reducible refine (hcE _ (by first | assumption | exact Gr.drew (by assumption) lf | exact Gr.alloc (by assumption) lf _ | exact Gr.drew (Gr.alloc (by assumption) lf _) lf | exact Gr.alloc (Gr.drew (by assumption) lf) lf _)).mono ?_); rintro e w6 ⟨a6, c6, rfl, hown6, hb6⟩; have gr6 : Gr bf W w6 := Gr.below (by first | assumption | exact Gr.drew (by assumption) lf | exact Gr.alloc (by assumption) lf _ | exact Gr.drew (Gr.alloc (by assumption) lf _) lf | exact Gr.alloc (Gr.drew (by assumption) lf) lf _) hb6 lf; have hz6 := gr6.g.size; have hy6 := hb6.size; (try simp at hy6))
                        (try go_wp2_with fail)
                        refine hK.out _ _ ?_ (fun hNew => ?_)
                        · exact hkeep _ (by first | assumption | exact Gr.drew (by assumption) lf | exact Gr.alloc (by assumption) lf _ | exact Gr.drew (Gr.alloc (by assumption) lf _) lf | exact Gr.alloc (Gr.drew (by assumption) lf) lf _)
                        clear hK K hHeld
                        have hHeld := hNew
                        clear hNew
                        try simp only [Act.put, List.setIfInBounds_toArray, List.set_cons_zero, List.set_cons_succ]
                        refine wpAnyH_ready (rs := [26]) (by kernel_rfl) (by simp) ?_
                        refine consL (oi := _) rfl (fun K hK => ?_) ?_
                        · (first | (refine step_app elE (by rfl) _ _ rfl W.heap.size a6 kept.length c6 _ rfl (OwnL.base_le hown6 (by first | omega | (simp; done) | (simp; omega))) _ 1 1 _ rfl rfl (Cells.src (Cells.below (Cells.new _ _ _) hb6)) (by simp [Value.oneCell']) (by omega) (by unfold maxLen; omega) (by omega) (by first | omega | (simp; done) | (simp; omega)) ?_; intro g7 cg7 w7 howng7 hb7; have gr7 : Gr bf W w7 := Gr.low (by first | assumption | exact Gr.drew (by assumption) lf | exact Gr.alloc (by assumption) lf _ | exact Gr.drew (Gr.alloc (by assumption) lf _) lf | exact Gr.alloc (Gr.drew (by assumption) lf) lf _) hb7 lf; have hz7 := gr7.g.size) | (refine step_app elE (by rfl) _ _ rfl W.heap.size a6 kept.length c6 _ rfl (OwnL.base_le hown6 (by first | omega | (simp; done) | (simp; omega))) _ 1 1 _ rfl rfl (Cells.src (Cells.below (Cells.below (Cells.new _ _ _) ((Below.refl _ _).drew)) hb6)) (by simp [Value.oneCell']) (by omega) (by unfold maxLen; omega) (by omega) (by first | omega | (simp; done) | (simp; omega)) ?_; intro g7 cg7 w7 howng7 hb7; have gr7 : Gr bf W w7 := Gr.low (by first | assumption | exact Gr.drew (by assumption) lf | exact Gr.alloc (by assumption) lf _ | exact Gr.drew (Gr.alloc (by assumption) lf _) lf | exact Gr.alloc (Gr.drew (by assumption) lf) lf _) hb7 lf; have hz7 := gr7.g.size))
                          refine hK.out _ _ ?_ (fun hNew => ?_)
                          · exact hkeep _ (by first | assumption | exact Gr.drew (by assumption) lf | exact Gr.alloc (by assumption) lf _ | exact Gr.drew (Gr.alloc (by assumption) lf _) lf | exact Gr.alloc (Gr.drew (by assumption) lf) lf _)
                          clear hK K hHeld
                          have hHeld := hNew
                          clear hNew
                          try simp only [Act.put, List.setIfInBounds_toArray, List.set_cons_zero, List.set_cons_succ]
                          refine wpAnyH_ready (rs := [30]) (by kernel_rfl) (by simp) ?_
                          refine consL (oi := _) rfl (fun K hK => ?_) ?_
                          · go_simp
                            (go_at_call 79; (with_reducible refine (hL2 _ gr7 _ _ howng7).mono ?_); rintro e w8 ⟨rfl, hg8, a9, c9, hf9, hi9⟩; have gr8 : Gr bf W w8 := gr7.trans hg8)
                            (try go_wp2_with fail)
                            refine hK.out _ _ ?_ (fun hNew => ?_)
                            · exact hkeep _ (by first | assumption | exact Gr.drew (by assumption) lf | exact Gr.alloc (by assumption) lf _ | exact Gr.drew (Gr.alloc (by assumption) lf _) lf | exact Gr.alloc (Gr.drew (by assumption) lf) lf _)
                            clear hK K hHeld
                            have hHeld := hNew
                            clear hNew
                            try simp only [Act.put, List.setIfInBounds_toArray, List.set_cons_zero, List.set_cons_succ]
                            refine takeL (i := 31) (oi := _) (v := ?_) rfl (by kernel_rfl) (by kernel_rfl) (by kernel_rfl) (fun _ _ _ h => h) (by rfl) ?_ hHeld ?_
                            rotate_left
                            · intro w hSw; (try dsimp only at hSw); go_simp; try with_reducible rfl
                            try simp only [Act.put, List.setIfInBounds_toArray, List.set_cons_zero, List.set_cons_succ]
                            refine takeL (i := 32) (oi := _) (v := ?_) rfl (by kernel_rfl) (by kernel_rfl) (by kernel_rfl) (fun _ _ _ h => h) (by rfl) ?_ hHeld ?_
                            rotate_left
                            · intro w hSw; (try dsimp only at hSw); go_simp; try with_reducible rfl
                            try simp only [Act.put, List.setIfInBounds_toArray, List.set_cons_zero, List.set_cons_succ]
                            refine wpAnyH_done (by kernel_rfl) ?_ _
                            refine NoPanic.normal ?_
                            go_wp2
                            go_ret
                            exact ⟨rfl, gr8, a9, c9, hf9, hi9⟩
                          exact AllReadyH.nil
                        exact AllReadyH.nil
                      exact AllReadyH.nil
                    exact AllReadyH.nil
                  exact AllReadyH.nil
                exact AllReadyH.nil
              exact AllReadyH.nil
            exact AllReadyH.nil
end Go.Proofs.Ytfclemnkcpadpaa
