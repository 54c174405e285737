/- copies: awake -/
import Derived.Test.YtfclemnkcpadpaaRk
import Derived.Deep.RegionHeld3
namespace Go.Proofs.Ytfclemnkcpadpaa
set_option linter.unusedVariables false
set_option linter.unusedSimpArgs false
set_option linter.unnecessarySimpa false
open Go.RowKit Go.Flow

theorem two_small : PostSmall twoP := ⟨by decide, by decide, by decide, by decide⟩
theorem cell_new (w : World) (cs : Array Value) (T : TypeId) (k : Nat) (v : Value) (h : cs[k]? = some v) : (w.alloc (.cells cs T)).cell? ⟨w.heap.size, k, none⟩ = some v := by rw [(Cells.new w cs T).cell]; exact h
theorem ints_lit (w : World) (cs : Array Value) (T : TypeId) (l : List Int) (h : cs.toList = l.map (Value.int .i64)) : IntsAt (w.alloc (.cells cs T)) (some ⟨w.heap.size, 0, none⟩) l := (Cells.new w cs T).ints l h
theorem Cells.ents {w : World} {g : Nat} {cs : Array Value} {T : TypeId} (h : Cells w g cs T) (l : List Ent) (hl : cs.toList = flatE l) : EntsAt w (some ⟨g, 0, none⟩) l := fun k hk => by
  obtain ⟨e0, e1, e2⟩ := flatE_get l k hk
  rw [← hl, Array.getElem?_toList] at e0 e1 e2
  exact ⟨g, 0, rfl, h.lt, by rw [Nat.zero_add, h.cell]; exact e0, by rw [Nat.zero_add, h.cell]; exact e1, by rw [Nat.zero_add, h.cell]; exact e2⟩
theorem ents_lit (w : World) (cs : Array Value) (T : TypeId) (l : List Ent) (h : cs.toList = flatE l) : EntsAt (w.alloc (.cells cs T)) (some ⟨w.heap.size, 0, none⟩) l := (Cells.new w cs T).ents l h
def truthEx : List (List (List Int)) := [[[], [1, 2]], [[], [1, 2]]]
/-- The truth of awake, out of its five blocks. -/
theorem truth_lit (w : World) {b0 b1 b2 b3 b4 : Nat} {T0 T1 T2 T3 T4 : TypeId} (c0 : Cells w b0 #[.int .i64 1, .int .i64 2] T0) (c1 : Cells w b1 #[.slice none 0 0, .slice (some ⟨b0, 0, none⟩) 2 2] T1) (c2 : Cells w b2 #[.int .i64 1, .int .i64 2] T2) (c3 : Cells w b3 #[.slice none 0 0, .slice (some ⟨b2, 0, none⟩) 2 2] T3) (c4 : Cells w b4 #[.slice (some ⟨b1, 0, none⟩) 2 2, .slice (some ⟨b3, 0, none⟩) 2 2] T4) : TruthAt w (some ⟨b4, 0, none⟩) truthEx := by
  have row : ∀ {p q : Nat} {T T' : TypeId}, Cells w p #[.int .i64 1, .int .i64 2] T → Cells w q #[.slice none 0 0, .slice (some ⟨p, 0, none⟩) 2 2] T' → ListsAt w (some ⟨q, 0, none⟩) [[], [1, 2]] := by
    intro p q T T' h1 h2 k hk
    have hk2 : k = 0 ∨ k = 1 := by have : k < 2 := hk; omega
    rcases hk2 with rfl | rfl
    · exact ⟨q, 0, none, 0, rfl, h2.lt, cell_of h2 rfl, IntsAt.nil _ _, fun _ => rfl⟩
    · exact ⟨q, 0, some ⟨p, 0, none⟩, 2, rfl, h2.lt, cell_of (k := 1) h2 rfl, h1.ints _ rfl, fun h => by cases h⟩
  intro k hk
  have hk2 : k = 0 ∨ k = 1 := by have : k < 2 := hk; omega
  rcases hk2 with rfl | rfl
  · exact ⟨b4, 0, some ⟨b1, 0, none⟩, 2, rfl, c4.lt, cell_of c4 rfl, row c0 c1, fun h => by cases h⟩
  · exact ⟨b4, 0, some ⟨b3, 0, none⟩, 2, rfl, c4.lt, cell_of (k := 1) c4 rfl, row c2 c3, fun h => by cases h⟩
theorem truth_lit5 (w : World) (T0 T1 T4 : TypeId) : TruthAt (((((w.alloc (.cells #[.int .i64 1, .int .i64 2] T0)).alloc (.cells #[.slice none 0 0, .slice (some ⟨w.heap.size, 0, none⟩) 2 2] T1)).alloc (.cells #[.int .i64 1, .int .i64 2] T0)).alloc (.cells #[.slice none 0 0, .slice (some ⟨w.heap.size + 1 + 1, 0, none⟩) 2 2] T1)).alloc (.cells #[.slice (some ⟨w.heap.size + 1, 0, none⟩) 2 2, .slice (some ⟨w.heap.size + 1 + 1 + 1, 0, none⟩) 2 2] T4)) (some ⟨w.heap.size + 1 + 1 + 1 + 1, 0, none⟩) truthEx :=
  truth_lit _ (b0 := w.heap.size) (b1 := w.heap.size + 1) (b2 := w.heap.size + 1 + 1) (b3 := w.heap.size + 1 + 1 + 1) (((((Cells.new _ _ _).alloc _).alloc _).alloc _).alloc _) ((((Cells.new' _ _ _ _ (by simp)).alloc _).alloc _).alloc _) (((Cells.new' _ _ _ _ (by simp)).alloc _).alloc _) ((Cells.new' _ _ _ _ (by simp)).alloc _) (Cells.new' _ _ _ _ (by simp))
def jouEx : List Ent := [⟨0, 5, true⟩, ⟨1, 7, false⟩]
theorem two_play : playOut twoP truthEx = jouEx ∧ playErr twoP truthEx = 0 := by decide +kernel

theorem exHours (a : Option Addr) (c : Nat) (ar : Option Addr) (cr : Nat) (w : World) (hs : IntsAt w a twoP.sends) (hr : RoutesAt w ar twoP.routes) :
    Calls Try.prog 28 #[.agg #[.slice a 2 c, .slice ar 2 cr, .int .i64 5], .int .i64 0, .int .i64 1] w fun e w' => (∃ a c, e = .returned (.tuple #[.slice a 2 c, .int .i64 0]) ∧ IntsAt w' a [6, 7]) ∧ Below w.heap.size w w' := by
  have := Hours_any a c ar cr twoP 0 1 w hs hr two_small
  rw [two_hours, show hoursErr twoP 0 1 = 0 by decide +kernel] at this
  exact this
theorem exSpans (a : Option Addr) (c : Nat) (ar : Option Addr) (cr : Nat) (w : World) (hs : IntsAt w a twoP.sends) (hr : RoutesAt w ar twoP.routes) :
    Calls Try.prog 32 #[.agg #[.slice a 2 c, .slice ar 2 cr, .int .i64 5]] w fun e w' => (∃ b off c, e = .returned (.tuple #[.slice (some ⟨b, off, none⟩) 2 c, .int .i64 0]) ∧ w'.cell? ⟨b, off, none⟩ = some (.int .i64 1) ∧ w'.cell? ⟨b, off + 1, none⟩ = some (.int .i64 5) ∧ w'.cell? ⟨b, off + 2, none⟩ = some (.int .i64 3) ∧ w'.cell? ⟨b, off + 3, none⟩ = some (.int .i64 7)) ∧ Below w.heap.size w w' := by
  have := Spans_any a c ar cr twoP w hs hr two_small
  rw [two_spans, two_ok] at this
  refine this.mono ?_
  rintro e w' ⟨⟨a', c', rfl, hR⟩, hb⟩
  obtain ⟨b, off, rfl, _, e0, e1⟩ := hR 0 (by decide)
  obtain ⟨b', off', h, _, e2, e3⟩ := hR 1 (by decide)
  obtain ⟨rfl, rfl⟩ : b = b' ∧ off = off' := by simpa using h
  exact ⟨⟨b, off, c', rfl, e0, e1, e2, e3⟩, hb⟩
theorem exSure (a : Option Addr) (c : Nat) (ar : Option Addr) (cr : Nat) (w : World) (hs : IntsAt w a twoP.sends) (hr : RoutesAt w ar twoP.routes) :
    Calls Try.prog 33 #[.agg #[.slice a 2 c, .slice ar 2 cr, .int .i64 5]] w fun e w' => (∃ a c, e = .returned (.tuple #[.slice a 1 c, .int .i64 0]) ∧ IntsAt w' a [1]) ∧ Below w.heap.size w w' := by
  have := Surely_any a c ar cr twoP w hs hr two_small
  rw [two_sure, two_ok] at this
  exact this
theorem exLeast (a : Option Addr) (c : Nat) (ar : Option Addr) (cr : Nat) (w : World) (hs : IntsAt w a twoP.sends) (hr : RoutesAt w ar twoP.routes) :
    Calls Try.prog 34 #[.agg #[.slice a 2 c, .slice ar 2 cr, .int .i64 5]] w fun e w' => e = .returned (.tuple #[.int .i64 7, .int .i64 0]) ∧ Below w.heap.size w w' := by
  have := Least_any a c ar cr twoP w hs hr two_small
  rw [two_least.1, two_least.2] at this
  exact this
theorem exPlay (a : Option Addr) (c : Nat) (ar : Option Addr) (cr : Nat) (at_ : Option Addr) (ct : Nat) (w : World) (hs : IntsAt w a twoP.sends) (hr : RoutesAt w ar twoP.routes) (ht : TruthAt w at_ truthEx) :
    Calls Try.prog 22 #[.agg #[.slice a 2 c, .slice ar 2 cr, .int .i64 5], .slice at_ 2 ct] w fun e w' => (∃ a c, e = .returned (.tuple #[.slice a 2 c, .int .i64 0]) ∧ EntsAt w' a jouEx) ∧ Below w.heap.size w w' := by
  have := Play_any a c ar cr twoP at_ ct truthEx w hs hr two_small ht ⟨by decide, by decide, by decide⟩
  rw [two_play.1, two_play.2] at this
  exact this
theorem exOdd (a : Option Addr) (c : Nat) (ar : Option Addr) (cr : Nat) (al : Option Addr) (cl : Nat) (w : World) (hs : IntsAt w a twoP.sends) (hr : RoutesAt w ar twoP.routes) (he : EntsAt w al oddEx) :
    Calls Try.prog 40 #[.agg #[.slice a 2 c, .slice ar 2 cr, .int .i64 5], .slice al 2 cl] w fun e w' => (∃ a c, e = .returned (.tuple #[.slice a 1 c, .int .i64 0]) ∧ IntsAt w' a [1]) ∧ Below w.heap.size w w' := by
  have := Odd_any a c ar cr twoP al oddEx cl w hs hr two_small he (by decide)
  rw [two_odd, two_booked] at this
  exact this
theorem ints_eq (a : Option Addr) (xs : List Int) (n c : Nat) (hn : xs.length = n) (b : Option Addr) (d : Nat) (w : World) (hx : IntsAt w a xs) (hy : IntsAt w b xs) (ln : n ≤ 1000) :
    Calls Try.prog 31 #[.slice a n c, .slice b n d] w fun e w' => e = .returned (.bool true) ∧ Below w.heap.size w w' := by
  subst hn
  have := ints_any a xs c b xs d w hx hy (by omega) (by omega)
  rw [show sameB xs xs = true by simp [sameB]] at this
  exact this
theorem same_eq (a : Option Addr) (xs : List Ent) (n c : Nat) (hn : xs.length = n) (b : Option Addr) (d : Nat) (w : World) (hx : EntsAt w a xs) (hy : EntsAt w b xs) (ln : n ≤ 1000) :
    Calls Try.prog 26 #[.slice a n c, .slice b n d] w fun e w' => e = .returned (.bool true) ∧ Below w.heap.size w w' := by
  subst hn
  have := same_any a xs c b xs d w hx hy (by omega) (by omega)
  rw [show sameE xs xs = true by simp [sameE]] at this
  exact this

set_option maxRecDepth 100000 in
set_option maxHeartbeats 8000000 in
theorem awake_any (w : World) : Calls Try.prog 19 #[] w fun e w' => e = .returned (.bool true) ∧ Below w.heap.size w w' := by
  go_enter Try.func19, Try.ntmps19
  go_wp2_with fail
  go_at_call 55
  refine (two_any _).mono ?_
  rintro e w1 ⟨⟨a1, c1, r1, d1, rfl, s1, q1⟩, b1⟩
  have t1 : Below w.heap.size w w1 := by (repeat (first | exact Below.refl _ _ | refine Below.alloc ?_ (by first | omega | (simp; done) | (simp; omega)) _ | refine Below.drew ?_ | refine Below.setCell ?_ (by first | omega | (simp; done) | (simp; omega)) _ | refine Below.trans ?_ (Below.mono (by assumption) (by first | omega | (simp; done) | (simp; omega)))))
  go_wp2_with fail
  go_at_call 28
  refine (exHours a1 c1 r1 d1 _ s1 q1).mono ?_
  rintro e w2 ⟨⟨aH, cH, rfl, iH⟩, b2⟩
  have j2 : Below w1.heap.size w1 w2 := by (repeat (first | exact Below.refl _ _ | refine Below.alloc ?_ (by first | omega | (simp; done) | (simp; omega)) _ | refine Below.drew ?_ | refine Below.setCell ?_ (by first | omega | (simp; done) | (simp; omega)) _ | refine Below.trans ?_ (Below.mono (by assumption) (by first | omega | (simp; done) | (simp; omega)))))
  have t2 : Below w.heap.size w w2 := t1.trans (j2.mono t1.size)
  replace s1 := s1.below j2
  replace q1 := q1.below j2
  clear s1 q1
  go_wp2_with fail
  go_at_call 55
  refine (two_any _).mono ?_
  rintro e w3 ⟨⟨a2, c2, r2, d2, rfl, s2, q2⟩, b3⟩
  have j3 : Below w2.heap.size w2 w3 := by (repeat (first | exact Below.refl _ _ | refine Below.alloc ?_ (by first | omega | (simp; done) | (simp; omega)) _ | refine Below.drew ?_ | refine Below.setCell ?_ (by first | omega | (simp; done) | (simp; omega)) _ | refine Below.trans ?_ (Below.mono (by assumption) (by first | omega | (simp; done) | (simp; omega)))))
  have t3 : Below w.heap.size w w3 := t2.trans (j3.mono t2.size)
  replace iH := iH.below j3
  go_wp2_with fail
  go_at_call 32
  refine (exSpans a2 c2 r2 d2 _ s2 q2).mono ?_
  rintro e w4 ⟨⟨bS, oS, cS, rfl, x0, x1, x2, x3⟩, b4⟩
  have j4 : Below w3.heap.size w3 w4 := by (repeat (first | exact Below.refl _ _ | refine Below.alloc ?_ (by first | omega | (simp; done) | (simp; omega)) _ | refine Below.drew ?_ | refine Below.setCell ?_ (by first | omega | (simp; done) | (simp; omega)) _ | refine Below.trans ?_ (Below.mono (by assumption) (by first | omega | (simp; done) | (simp; omega)))))
  have t4 : Below w.heap.size w w4 := t3.trans (j4.mono t3.size)
  replace iH := iH.below j4
  replace s2 := s2.below j4
  replace q2 := q2.below j4
  clear s2 q2
  go_wp2_with fail
  go_at_call 55
  refine (two_any _).mono ?_
  rintro e w5 ⟨⟨a3, c3, r3, d3, rfl, s3, q3⟩, b5⟩
  have j5 : Below w4.heap.size w4 w5 := by (repeat (first | exact Below.refl _ _ | refine Below.alloc ?_ (by first | omega | (simp; done) | (simp; omega)) _ | refine Below.drew ?_ | refine Below.setCell ?_ (by first | omega | (simp; done) | (simp; omega)) _ | refine Below.trans ?_ (Below.mono (by assumption) (by first | omega | (simp; done) | (simp; omega)))))
  have t5 : Below w.heap.size w w5 := t4.trans (j5.mono t4.size)
  replace iH := iH.below j5
  replace x0 := below_cell j5 x0
  replace x1 := below_cell j5 x1
  replace x2 := below_cell j5 x2
  replace x3 := below_cell j5 x3
  go_wp2_with fail
  go_at_call 33
  refine (exSure a3 c3 r3 d3 _ s3 q3).mono ?_
  rintro e w6 ⟨⟨aU, cU, rfl, iU⟩, b6⟩
  have j6 : Below w5.heap.size w5 w6 := by (repeat (first | exact Below.refl _ _ | refine Below.alloc ?_ (by first | omega | (simp; done) | (simp; omega)) _ | refine Below.drew ?_ | refine Below.setCell ?_ (by first | omega | (simp; done) | (simp; omega)) _ | refine Below.trans ?_ (Below.mono (by assumption) (by first | omega | (simp; done) | (simp; omega)))))
  have t6 : Below w.heap.size w w6 := t5.trans (j6.mono t5.size)
  replace iH := iH.below j6
  replace x0 := below_cell j6 x0
  replace x1 := below_cell j6 x1
  replace x2 := below_cell j6 x2
  replace x3 := below_cell j6 x3
  replace s3 := s3.below j6
  replace q3 := q3.below j6
  clear s3 q3
  go_wp2_with fail
  go_at_call 55
  refine (two_any _).mono ?_
  rintro e w7 ⟨⟨a4, c4, r4, d4, rfl, s4, q4⟩, b7⟩
  have j7 : Below w6.heap.size w6 w7 := by (repeat (first | exact Below.refl _ _ | refine Below.alloc ?_ (by first | omega | (simp; done) | (simp; omega)) _ | refine Below.drew ?_ | refine Below.setCell ?_ (by first | omega | (simp; done) | (simp; omega)) _ | refine Below.trans ?_ (Below.mono (by assumption) (by first | omega | (simp; done) | (simp; omega)))))
  have t7 : Below w.heap.size w w7 := t6.trans (j7.mono t6.size)
  replace iH := iH.below j7
  replace x0 := below_cell j7 x0
  replace x1 := below_cell j7 x1
  replace x2 := below_cell j7 x2
  replace x3 := below_cell j7 x3
  replace iU := iU.below j7
  go_wp2_with fail
  go_at_call 34
  refine (exLeast a4 c4 r4 d4 _ s4 q4).mono ?_
  rintro e w8 ⟨rfl, b8⟩
  have j8 : Below w7.heap.size w7 w8 := by (repeat (first | exact Below.refl _ _ | refine Below.alloc ?_ (by first | omega | (simp; done) | (simp; omega)) _ | refine Below.drew ?_ | refine Below.setCell ?_ (by first | omega | (simp; done) | (simp; omega)) _ | refine Below.trans ?_ (Below.mono (by assumption) (by first | omega | (simp; done) | (simp; omega)))))
  have t8 : Below w.heap.size w w8 := t7.trans (j8.mono t7.size)
  replace iH := iH.below j8
  replace x0 := below_cell j8 x0
  replace x1 := below_cell j8 x1
  replace x2 := below_cell j8 x2
  replace x3 := below_cell j8 x3
  replace iU := iU.below j8
  replace s4 := s4.below j8
  replace q4 := q4.below j8
  clear s4 q4
  go_wp2_with fail
  go_at_call 55
  refine (two_any _).mono ?_
  rintro e w9 ⟨⟨a5, c5, r5, d5, rfl, s5, q5⟩, b9⟩
  have j9 : Below w8.heap.size w8 w9 := by (repeat (first | exact Below.refl _ _ | refine Below.alloc ?_ (by first | omega | (simp; done) | (simp; omega)) _ | refine Below.drew ?_ | refine Below.setCell ?_ (by first | omega | (simp; done) | (simp; omega)) _ | refine Below.trans ?_ (Below.mono (by assumption) (by first | omega | (simp; done) | (simp; omega)))))
  have t9 : Below w.heap.size w w9 := t8.trans (j9.mono t8.size)
  replace iH := iH.below j9
  replace x0 := below_cell j9 x0
  replace x1 := below_cell j9 x1
  replace x2 := below_cell j9 x2
  replace x3 := below_cell j9 x3
  replace iU := iU.below j9
  go_wp2_with fail
  go_at_call 22
  refine (exPlay a5 c5 r5 d5 _ _ _ (s5.below (by (repeat (first | exact Below.refl _ _ | refine Below.alloc ?_ (by first | omega | (simp; done) | (simp; omega)) _ | refine Below.drew ?_ | refine Below.setCell ?_ (by first | omega | (simp; done) | (simp; omega)) _ | refine Below.trans ?_ (Below.mono (by assumption) (by first | omega | (simp; done) | (simp; omega))))))) (q5.below (by (repeat (first | exact Below.refl _ _ | refine Below.alloc ?_ (by first | omega | (simp; done) | (simp; omega)) _ | refine Below.drew ?_ | refine Below.setCell ?_ (by first | omega | (simp; done) | (simp; omega)) _ | refine Below.trans ?_ (Below.mono (by assumption) (by first | omega | (simp; done) | (simp; omega))))))) (truth_lit5 _ _ _ _)).mono ?_
  rintro e w10 ⟨⟨aJ, cJ, rfl, iJ⟩, b10⟩
  have j10 : Below w9.heap.size w9 w10 := by (repeat (first | exact Below.refl _ _ | refine Below.alloc ?_ (by first | omega | (simp; done) | (simp; omega)) _ | refine Below.drew ?_ | refine Below.setCell ?_ (by first | omega | (simp; done) | (simp; omega)) _ | refine Below.trans ?_ (Below.mono (by assumption) (by first | omega | (simp; done) | (simp; omega)))))
  have t10 : Below w.heap.size w w10 := t9.trans (j10.mono t9.size)
  replace iH := iH.below j10
  replace x0 := below_cell j10 x0
  replace x1 := below_cell j10 x1
  replace x2 := below_cell j10 x2
  replace x3 := below_cell j10 x3
  replace iU := iU.below j10
  replace s5 := s5.below j10
  replace q5 := q5.below j10
  clear s5 q5
  go_wp2_with fail
  go_at_call 55
  refine (two_any _).mono ?_
  rintro e w11 ⟨⟨a6, c6, r6, d6, rfl, s6, q6⟩, b11⟩
  have j11 : Below w10.heap.size w10 w11 := by (repeat (first | exact Below.refl _ _ | refine Below.alloc ?_ (by first | omega | (simp; done) | (simp; omega)) _ | refine Below.drew ?_ | refine Below.setCell ?_ (by first | omega | (simp; done) | (simp; omega)) _ | refine Below.trans ?_ (Below.mono (by assumption) (by first | omega | (simp; done) | (simp; omega)))))
  have t11 : Below w.heap.size w w11 := t10.trans (j11.mono t10.size)
  replace iH := iH.below j11
  replace x0 := below_cell j11 x0
  replace x1 := below_cell j11 x1
  replace x2 := below_cell j11 x2
  replace x3 := below_cell j11 x3
  replace iU := iU.below j11
  replace iJ := iJ.below j11
  go_wp2_with fail
  go_at_call 40
  refine (exOdd a6 c6 r6 d6 _ _ _ (s6.below (by (repeat (first | exact Below.refl _ _ | refine Below.alloc ?_ (by first | omega | (simp; done) | (simp; omega)) _ | refine Below.drew ?_ | refine Below.setCell ?_ (by first | omega | (simp; done) | (simp; omega)) _ | refine Below.trans ?_ (Below.mono (by assumption) (by first | omega | (simp; done) | (simp; omega))))))) (q6.below (by (repeat (first | exact Below.refl _ _ | refine Below.alloc ?_ (by first | omega | (simp; done) | (simp; omega)) _ | refine Below.drew ?_ | refine Below.setCell ?_ (by first | omega | (simp; done) | (simp; omega)) _ | refine Below.trans ?_ (Below.mono (by assumption) (by first | omega | (simp; done) | (simp; omega))))))) (ents_lit _ _ _ _ rfl)).mono ?_
  rintro e w12 ⟨⟨aO, cO, rfl, iO⟩, b12⟩
  have j12 : Below w11.heap.size w11 w12 := by (repeat (first | exact Below.refl _ _ | refine Below.alloc ?_ (by first | omega | (simp; done) | (simp; omega)) _ | refine Below.drew ?_ | refine Below.setCell ?_ (by first | omega | (simp; done) | (simp; omega)) _ | refine Below.trans ?_ (Below.mono (by assumption) (by first | omega | (simp; done) | (simp; omega)))))
  have t12 : Below w.heap.size w w12 := t11.trans (j12.mono t11.size)
  replace iH := iH.below j12
  replace x0 := below_cell j12 x0
  replace x1 := below_cell j12 x1
  replace x2 := below_cell j12 x2
  replace x3 := below_cell j12 x3
  replace iU := iU.below j12
  replace iJ := iJ.below j12
  replace s6 := s6.below j12
  replace q6 := q6.below j12
  clear s6 q6
  go_wp2_with fail
  simp only [List.append]
  have z0 : w12.heap.size ≤ w12.heap.size := Nat.le_refl _
  have lS := cell_ltK x0
  go_region_held3 (fun w' => w'.cell? ⟨bS, oS, none⟩ = some (.int .i64 1) ∧ w'.cell? ⟨bS, oS + 1, none⟩ = some (.int .i64 5) ∧ w'.cell? ⟨bS, oS + 2, none⟩ = some (.int .i64 3) ∧ w'.cell? ⟨bS, oS + 3, none⟩ = some (.int .i64 7))
      (first | go_keep | (go_split_ands; refine ⟨?_, ?_, ?_, ?_⟩ <;> (first | exact below_cell (by assumption) (by assumption) | exact ck_alloc (by assumption))))
      (first
      | (go_at_call 31; (with_reducible refine (ints_eq aH [6, 7] 2 cH ?q1z1 _ _ _ ?q2z1 ?q3z1 ?q4z1).mono ?qmz1); (case q1z1 => rfl); (case q2z1 => exact iH.below (by (repeat (first | exact Below.refl _ _ | refine Below.alloc ?_ (by first | omega | (simp; done) | (simp; omega)) _ | refine Below.drew ?_ | refine Below.setCell ?_ (by first | omega | (simp; done) | (simp; omega)) _ | refine Below.trans ?_ (Below.mono (by assumption) (by first | omega | (simp; done) | (simp; omega))))))); (case q3z1 => first | exact ints_lit _ _ _ _ rfl | exact (ints_lit _ _ _ _ rfl).below ((Below.refl _ _).drew)); (case q4z1 => omega); rintro e y1 ⟨rfl, hb1⟩; have hz1 := hb1.size; (try simp at hz1))
      | (go_at_call 47; (with_reducible refine (between_any _ _ _).mono ?_); rintro e y2 ⟨rfl, hb2⟩; have hz2 := hb2.size; (try simp at hz2))
      | (go_at_call 31; (with_reducible refine (ints_eq aU [1] 1 cU ?q1z4 _ _ _ ?q2z4 ?q3z4 ?q4z4).mono ?qmz4); (case q1z4 => rfl); (case q2z4 => exact iU.below (by (repeat (first | exact Below.refl _ _ | refine Below.alloc ?_ (by first | omega | (simp; done) | (simp; omega)) _ | refine Below.drew ?_ | refine Below.setCell ?_ (by first | omega | (simp; done) | (simp; omega)) _ | refine Below.trans ?_ (Below.mono (by assumption) (by first | omega | (simp; done) | (simp; omega))))))); (case q3z4 => first | exact ints_lit _ _ _ _ rfl | exact (ints_lit _ _ _ _ rfl).below ((Below.refl _ _).drew)); (case q4z4 => omega); rintro e y4 ⟨rfl, hb4⟩; have hz4 := hb4.size; (try simp at hz4))
      | (go_at_call 26; (with_reducible refine (same_eq aJ jouEx 2 cJ ?q1z5 _ _ _ ?q2z5 ?q3z5 ?q4z5).mono ?qmz5); (case q1z5 => rfl); (case q2z5 => exact iJ.below (by (repeat (first | exact Below.refl _ _ | refine Below.alloc ?_ (by first | omega | (simp; done) | (simp; omega)) _ | refine Below.drew ?_ | refine Below.setCell ?_ (by first | omega | (simp; done) | (simp; omega)) _ | refine Below.trans ?_ (Below.mono (by assumption) (by first | omega | (simp; done) | (simp; omega))))))); (case q3z5 => first | exact ents_lit _ _ _ _ rfl | exact (ents_lit _ _ _ _ rfl).below ((Below.refl _ _).drew)); (case q4z5 => omega); rintro e y5 ⟨rfl, hb5⟩; have hz5 := hb5.size; (try simp at hz5))
      | (go_at_call 31; (with_reducible refine (ints_eq aO [1] 1 cO ?q1z6 _ _ _ ?q2z6 ?q3z6 ?q4z6).mono ?qmz6); (case q1z6 => rfl); (case q2z6 => exact iO.below (by (repeat (first | exact Below.refl _ _ | refine Below.alloc ?_ (by first | omega | (simp; done) | (simp; omega)) _ | refine Below.drew ?_ | refine Below.setCell ?_ (by first | omega | (simp; done) | (simp; omega)) _ | refine Below.trans ?_ (Below.mono (by assumption) (by first | omega | (simp; done) | (simp; omega))))))); (case q3z6 => first | exact ints_lit _ _ _ _ rfl | exact (ints_lit _ _ _ _ rfl).below ((Below.refl _ _).drew)); (case q4z6 => omega); rintro e y6 ⟨rfl, hb6⟩; have hz6 := hb6.size; (try simp at hz6))
      | fail)
  go_wp2
  go_ret
  exact ⟨rfl, Below.trans t12 (Below.mono (w := w12) (by (repeat (first | exact Below.refl _ _ | refine Below.alloc ?_ (by first | omega | (simp; done) | (simp; omega)) _ | refine Below.drew ?_ | refine Below.setCell ?_ (by first | omega | (simp; done) | (simp; omega)) _ | refine Below.trans ?_ (Below.mono (by assumption) (by first | omega | (simp; done) | (simp; omega)))))) t12.size)⟩
end Go.Proofs.Ytfclemnkcpadpaa
