/- PayNames: the walk -/
import Derived.Test.YtomjlmhnjgohdaaIf
namespace Go.Proofs.Ytomjlmhnjgohdaa
set_option linter.unusedVariables false
set_option linter.unusedSimpArgs false
set_option linter.unnecessarySimpa false
open Go.RowKit Go.Flow Go.Shelf

theorem recs3_lit (w : World) (cs : Array Value) (T : TypeId) (xs : List (Int × Int × Int)) (h : cs.toList = flat3 xs) : Recs3At (w.alloc (.cells cs T)) (some ⟨w.heap.size, 0, none⟩) xs := fun k hk => by
  have C := Cells.new w cs T
  obtain ⟨e0, e1, e2⟩ := flat3_get xs k hk
  rw [← h] at e0 e1 e2
  simp only [Array.getElem?_toList] at e0 e1 e2
  exact ⟨w.heap.size, 0, rfl, C.lt, by rw [Nat.zero_add, C.cell]; exact e0, by rw [Nat.zero_add, C.cell]; exact e1, by rw [Nat.zero_add, C.cell]; exact e2⟩
theorem nmCheck (st ra ke : Int) (ds : List Dis) (n : Nat) (hn : ds.length = n) (E : Int) (hE : accErr ⟨st, ra, ke, ds⟩ = E) (h1 : ds.length ≤ 1000) (h2 : ds.all (fun d => decide (d.passed.length ≤ 1000)) = true) (a : Option Addr) (c : Nat) (w : World) (hd : DisAt w a ds) :
    Calls Try.prog 18 #[.agg #[.int .i64 st, .int .i64 ra, .int .i64 ke, .slice a n c]] w fun e w' => e = .returned (.int .i64 E) ∧ Below w.heap.size w w' := by
  subst hn
  rw [← hE]
  exact checkAccount_any st ra ke ds a c w hd ⟨h1, fun d hd1 => by simpa using List.all_eq_true.1 h2 d hd1⟩
theorem lists_lit1 (w : World) (l : List Int) (cs : Array Value) (T T2 : TypeId) (n : Nat) (hn : l.length = n) (h : cs.toList = l.map (Value.int .i64)) : ListsAt ((w.alloc (.cells cs T)).alloc (.cells #[.slice (some ⟨w.heap.size, 0, none⟩) n n] T2)) (some ⟨(w.alloc (.cells cs T)).heap.size, 0, none⟩) [l] := fun k hk => by
  subst hn
  obtain rfl : k = 0 := by simp at hk; omega
  have C := Cells.new (w.alloc (.cells cs T)) #[.slice (some ⟨w.heap.size, 0, none⟩) l.length l.length] T2
  exact ⟨_, 0, _, _, rfl, C.lt, by rw [C.cell]; rfl, ((Cells.new w cs T).alloc _).ints l h⟩
theorem lists_lit2 (w : World) (l m : List Int) (cs ds : Array Value) (T T2 : TypeId) (n p : Nat) (hn : l.length = n) (hp : m.length = p) (h : cs.toList = l.map (Value.int .i64)) (h' : ds.toList = m.map (Value.int .i64)) :
    ListsAt (((w.alloc (.cells cs T)).alloc (.cells ds T)).alloc (.cells #[.slice (some ⟨w.heap.size, 0, none⟩) n n, .slice (some ⟨(w.alloc (.cells cs T)).heap.size, 0, none⟩) p p] T2)) (some ⟨((w.alloc (.cells cs T)).alloc (.cells ds T)).heap.size, 0, none⟩) [l, m] := fun k hk => by
  subst hn; subst hp
  have C := Cells.new ((w.alloc (.cells cs T)).alloc (.cells ds T)) #[.slice (some ⟨w.heap.size, 0, none⟩) l.length l.length, .slice (some ⟨(w.alloc (.cells cs T)).heap.size, 0, none⟩) m.length m.length] T2
  match k, hk with
  | 0, _ => exact ⟨_, 0, _, _, rfl, C.lt, by rw [C.cell]; rfl, (((Cells.new w cs T).alloc _).alloc _).ints l h⟩
  | 1, _ => exact ⟨_, 0, _, _, rfl, C.lt, by rw [C.cell]; rfl, ((Cells.new (w.alloc (.cells cs T)) ds T).alloc _).ints m h'⟩
set_option maxRecDepth 100000 in
set_option maxHeartbeats 8000000 in
theorem names_walk (w : World) : Calls Try.prog 15 #[] w fun e w' => e = .returned (.bool true) ∧ Below w.heap.size w w' := by
  go_enter Try.func15, Try.ntmps15
  go_wp2_with fail
  go_at_call 50
  refine (two_any _).mono ?_
  rintro e w1 ⟨⟨aA, cA, rfl, dA⟩, b1⟩
  have t1 : Below w.heap.size w w1 := by (repeat (first | exact Below.refl _ _ | refine Below.alloc ?_ (by first | omega | (simp; done) | (simp; omega)) _ | refine Below.drew ?_ | refine Below.setCell ?_ (by first | omega | (simp; done) | (simp; omega)) _ | refine Below.trans ?_ (Below.mono (by assumption) (by first | omega | (simp; done) | (simp; omega)))))
  go_wp2_with fail
  go_at_call 20
  refine (nmShares aA cA _ (dA.below (by (repeat (first | exact Below.refl _ _ | refine Below.alloc ?_ (by first | omega | (simp; done) | (simp; omega)) _ | refine Below.drew ?_ | refine Below.setCell ?_ (by first | omega | (simp; done) | (simp; omega)) _ | refine Below.trans ?_ (Below.mono (by assumption) (by first | omega | (simp; done) | (simp; omega))))))) 10 [12, 9, 9] 3 0 (by decide +kernel) rfl (by decide +kernel)).mono ?_
  rintro e w2 ⟨⟨a1, c1, rfl, i1⟩, b2⟩
  have j2 : Below w1.heap.size w1 w2 := by (repeat (first | exact Below.refl _ _ | refine Below.alloc ?_ (by first | omega | (simp; done) | (simp; omega)) _ | refine Below.drew ?_ | refine Below.setCell ?_ (by first | omega | (simp; done) | (simp; omega)) _ | refine Below.trans ?_ (Below.mono (by assumption) (by first | omega | (simp; done) | (simp; omega)))))
  have t2 : Below w.heap.size w w2 := t1.trans (j2.mono t1.size)
  replace dA := dA.below j2
  clear dA
  go_wp2_with fail
  go_at_call 50
  refine (two_any _).mono ?_
  rintro e w3 ⟨⟨aB, cB, rfl, dB⟩, b3⟩
  have j3 : Below w2.heap.size w2 w3 := by (repeat (first | exact Below.refl _ _ | refine Below.alloc ?_ (by first | omega | (simp; done) | (simp; omega)) _ | refine Below.drew ?_ | refine Below.setCell ?_ (by first | omega | (simp; done) | (simp; omega)) _ | refine Below.trans ?_ (Below.mono (by assumption) (by first | omega | (simp; done) | (simp; omega)))))
  have t3 : Below w.heap.size w w3 := t2.trans (j3.mono t2.size)
  replace i1 := i1.below j3
  go_wp2_with fail
  go_at_call 20
  refine (nmShares aB cB _ (dB.below (by (repeat (first | exact Below.refl _ _ | refine Below.alloc ?_ (by first | omega | (simp; done) | (simp; omega)) _ | refine Below.drew ?_ | refine Below.setCell ?_ (by first | omega | (simp; done) | (simp; omega)) _ | refine Below.trans ?_ (Below.mono (by assumption) (by first | omega | (simp; done) | (simp; omega))))))) 11 [13, 10, 10] 3 0 (by decide +kernel) rfl (by decide +kernel)).mono ?_
  rintro e w4 ⟨⟨a2, c2, rfl, i2⟩, b4⟩
  have j4 : Below w3.heap.size w3 w4 := by (repeat (first | exact Below.refl _ _ | refine Below.alloc ?_ (by first | omega | (simp; done) | (simp; omega)) _ | refine Below.drew ?_ | refine Below.setCell ?_ (by first | omega | (simp; done) | (simp; omega)) _ | refine Below.trans ?_ (Below.mono (by assumption) (by first | omega | (simp; done) | (simp; omega)))))
  have t4 : Below w.heap.size w w4 := t3.trans (j4.mono t3.size)
  replace i1 := i1.below j4
  replace dB := dB.below j4
  clear dB
  go_wp2_with fail
  go_at_call 50
  refine (two_any _).mono ?_
  rintro e w5 ⟨⟨aC, cC, rfl, dC⟩, b5⟩
  have j5 : Below w4.heap.size w4 w5 := by (repeat (first | exact Below.refl _ _ | refine Below.alloc ?_ (by first | omega | (simp; done) | (simp; omega)) _ | refine Below.drew ?_ | refine Below.setCell ?_ (by first | omega | (simp; done) | (simp; omega)) _ | refine Below.trans ?_ (Below.mono (by assumption) (by first | omega | (simp; done) | (simp; omega)))))
  have t5 : Below w.heap.size w w5 := t4.trans (j5.mono t4.size)
  replace i1 := i1.below j5
  replace i2 := i2.below j5
  go_wp2_with fail
  go_at_call 42
  refine (nmReach aC cC _ (dC.below (by (repeat (first | exact Below.refl _ _ | refine Below.alloc ?_ (by first | omega | (simp; done) | (simp; omega)) _ | refine Below.drew ?_ | refine Below.setCell ?_ (by first | omega | (simp; done) | (simp; omega)) _ | refine Below.trans ?_ (Below.mono (by assumption) (by first | omega | (simp; done) | (simp; omega)))))))).mono ?_
  rintro e w6 ⟨⟨a3, c3, rfl, i3⟩, b6⟩
  have j6 : Below w5.heap.size w5 w6 := by (repeat (first | exact Below.refl _ _ | refine Below.alloc ?_ (by first | omega | (simp; done) | (simp; omega)) _ | refine Below.drew ?_ | refine Below.setCell ?_ (by first | omega | (simp; done) | (simp; omega)) _ | refine Below.trans ?_ (Below.mono (by assumption) (by first | omega | (simp; done) | (simp; omega)))))
  have t6 : Below w.heap.size w w6 := t5.trans (j6.mono t5.size)
  replace i1 := i1.below j6
  replace i2 := i2.below j6
  replace dC := dC.below j6
  clear dC
  go_wp2_with fail
  go_at_call 45
  refine (nmGroups _ _ _ (ints_lit _ _ _ _ rfl)).mono ?_
  rintro e w7 ⟨⟨a4, c4, rfl, i4⟩, b7⟩
  have j7 : Below w6.heap.size w6 w7 := by (repeat (first | exact Below.refl _ _ | refine Below.alloc ?_ (by first | omega | (simp; done) | (simp; omega)) _ | refine Below.drew ?_ | refine Below.setCell ?_ (by first | omega | (simp; done) | (simp; omega)) _ | refine Below.trans ?_ (Below.mono (by assumption) (by first | omega | (simp; done) | (simp; omega)))))
  have t7 : Below w.heap.size w w7 := t6.trans (j7.mono t6.size)
  replace i1 := i1.below j7
  replace i2 := i2.below j7
  replace i3 := i3.below j7
  go_wp2_with fail
  go_at_call 31
  refine (nmSettle _ _ _ (ints_lit _ _ _ _ rfl)).mono ?_
  rintro e w8 ⟨⟨a5, c5, rfl⟩, b8⟩
  have j8 : Below w7.heap.size w7 w8 := by (repeat (first | exact Below.refl _ _ | refine Below.alloc ?_ (by first | omega | (simp; done) | (simp; omega)) _ | refine Below.drew ?_ | refine Below.setCell ?_ (by first | omega | (simp; done) | (simp; omega)) _ | refine Below.trans ?_ (Below.mono (by assumption) (by first | omega | (simp; done) | (simp; omega)))))
  have t8 : Below w.heap.size w w8 := t7.trans (j8.mono t7.size)
  replace i1 := i1.below j8
  replace i2 := i2.below j8
  replace i3 := i3.below j8
  replace i4 := i4.below j8
  go_wp2_with fail
  go_at_call 25
  refine (same_eq a1 [12, 9, 9] 3 c1 rfl _ _ _ (i1.below (by (repeat (first | exact Below.refl _ _ | refine Below.alloc ?_ (by first | omega | (simp; done) | (simp; omega)) _ | refine Below.drew ?_ | refine Below.setCell ?_ (by first | omega | (simp; done) | (simp; omega)) _ | refine Below.trans ?_ (Below.mono (by assumption) (by first | omega | (simp; done) | (simp; omega))))))) (ints_lit _ _ _ _ rfl) (by decide)).mono ?_
  rintro e w9 ⟨rfl, b9⟩
  have j9 : Below w8.heap.size w8 w9 := by (repeat (first | exact Below.refl _ _ | refine Below.alloc ?_ (by first | omega | (simp; done) | (simp; omega)) _ | refine Below.drew ?_ | refine Below.setCell ?_ (by first | omega | (simp; done) | (simp; omega)) _ | refine Below.trans ?_ (Below.mono (by assumption) (by first | omega | (simp; done) | (simp; omega)))))
  have t9 : Below w.heap.size w w9 := t8.trans (j9.mono t8.size)
  replace i1 := i1.below j9
  replace i2 := i2.below j9
  replace i3 := i3.below j9
  replace i4 := i4.below j9
  clear i1
  go_wp2_with fail
  go_at_call 25
  refine (same_eq a2 [13, 10, 10] 3 c2 rfl _ _ _ (i2.below (by (repeat (first | exact Below.refl _ _ | refine Below.alloc ?_ (by first | omega | (simp; done) | (simp; omega)) _ | refine Below.drew ?_ | refine Below.setCell ?_ (by first | omega | (simp; done) | (simp; omega)) _ | refine Below.trans ?_ (Below.mono (by assumption) (by first | omega | (simp; done) | (simp; omega))))))) (ints_lit _ _ _ _ rfl) (by decide)).mono ?_
  rintro e w10 ⟨rfl, b10⟩
  have j10 : Below w9.heap.size w9 w10 := by (repeat (first | exact Below.refl _ _ | refine Below.alloc ?_ (by first | omega | (simp; done) | (simp; omega)) _ | refine Below.drew ?_ | refine Below.setCell ?_ (by first | omega | (simp; done) | (simp; omega)) _ | refine Below.trans ?_ (Below.mono (by assumption) (by first | omega | (simp; done) | (simp; omega)))))
  have t10 : Below w.heap.size w w10 := t9.trans (j10.mono t9.size)
  replace i2 := i2.below j10
  replace i3 := i3.below j10
  replace i4 := i4.below j10
  clear i2
  go_wp2_with fail
  go_at_call 25
  refine (same_eq a3 [10, 7] 2 c3 rfl _ _ _ (i3.below (by (repeat (first | exact Below.refl _ _ | refine Below.alloc ?_ (by first | omega | (simp; done) | (simp; omega)) _ | refine Below.drew ?_ | refine Below.setCell ?_ (by first | omega | (simp; done) | (simp; omega)) _ | refine Below.trans ?_ (Below.mono (by assumption) (by first | omega | (simp; done) | (simp; omega))))))) (ints_lit _ _ _ _ rfl) (by decide)).mono ?_
  rintro e w11 ⟨rfl, b11⟩
  have j11 : Below w10.heap.size w10 w11 := by (repeat (first | exact Below.refl _ _ | refine Below.alloc ?_ (by first | omega | (simp; done) | (simp; omega)) _ | refine Below.drew ?_ | refine Below.setCell ?_ (by first | omega | (simp; done) | (simp; omega)) _ | refine Below.trans ?_ (Below.mono (by assumption) (by first | omega | (simp; done) | (simp; omega)))))
  have t11 : Below w.heap.size w w11 := t10.trans (j11.mono t10.size)
  replace i3 := i3.below j11
  replace i4 := i4.below j11
  clear i3
  obtain ⟨bK, oK, al, cl, rfl, lK, x4, y4⟩ := i4 0 (by decide)
  simp at x4 y4
  clear i4
  go_wp2_with fail
  go_at_call 25
  refine (same_eq al [0, 1, 2] 3 cl rfl _ _ _ (y4.below (by (repeat (first | exact Below.refl _ _ | refine Below.alloc ?_ (by first | omega | (simp; done) | (simp; omega)) _ | refine Below.drew ?_ | refine Below.setCell ?_ (by first | omega | (simp; done) | (simp; omega)) _ | refine Below.trans ?_ (Below.mono (by assumption) (by first | omega | (simp; done) | (simp; omega))))))) (ints_lit _ _ _ _ rfl) (by decide)).mono ?_
  rintro e w12 ⟨rfl, b12⟩
  have j12 : Below w11.heap.size w11 w12 := by (repeat (first | exact Below.refl _ _ | refine Below.alloc ?_ (by first | omega | (simp; done) | (simp; omega)) _ | refine Below.drew ?_ | refine Below.setCell ?_ (by first | omega | (simp; done) | (simp; omega)) _ | refine Below.trans ?_ (Below.mono (by assumption) (by first | omega | (simp; done) | (simp; omega)))))
  have t12 : Below w.heap.size w w12 := t11.trans (j12.mono t11.size)
  replace x4 := below_cell j12 x4
  replace y4 := y4.below j12
  replace lK := Nat.lt_of_lt_of_le lK j12.size
  clear x4 y4 lK
  go_wp2_with fail
  go_at_call 51
  refine (owed_any _).mono ?_
  rintro e w13 ⟨rfl, oP, b13⟩
  have j13 : Below w12.heap.size w12 w13 := by (repeat (first | exact Below.refl _ _ | refine Below.alloc ?_ (by first | omega | (simp; done) | (simp; omega)) _ | refine Below.drew ?_ | refine Below.setCell ?_ (by first | omega | (simp; done) | (simp; omega)) _ | refine Below.trans ?_ (Below.mono (by assumption) (by first | omega | (simp; done) | (simp; omega)))))
  have t13 : Below w.heap.size w w13 := t12.trans (j13.mono t12.size)
  go_wp2_with fail
  go_at_call 32
  refine (nmProve _ _ _ (oP.below (by (repeat (first | exact Below.refl _ _ | refine Below.alloc ?_ (by first | omega | (simp; done) | (simp; omega)) _ | refine Below.drew ?_ | refine Below.setCell ?_ (by first | omega | (simp; done) | (simp; omega)) _ | refine Below.trans ?_ (Below.mono (by assumption) (by first | omega | (simp; done) | (simp; omega))))))) 2 true (by decide +kernel) _ _ (recs3_lit _ _ _ _ rfl)).mono ?_
  rintro e w14 ⟨rfl, b14⟩
  have j14 : Below w13.heap.size w13 w14 := by (repeat (first | exact Below.refl _ _ | refine Below.alloc ?_ (by first | omega | (simp; done) | (simp; omega)) _ | refine Below.drew ?_ | refine Below.setCell ?_ (by first | omega | (simp; done) | (simp; omega)) _ | refine Below.trans ?_ (Below.mono (by assumption) (by first | omega | (simp; done) | (simp; omega)))))
  have t14 : Below w.heap.size w w14 := t13.trans (j14.mono t13.size)
  replace oP := oP.below j14
  clear oP
  go_wp2_with fail
  go_at_call 51
  refine (owed_any _).mono ?_
  rintro e w15 ⟨rfl, oQ, b15⟩
  have j15 : Below w14.heap.size w14 w15 := by (repeat (first | exact Below.refl _ _ | refine Below.alloc ?_ (by first | omega | (simp; done) | (simp; omega)) _ | refine Below.drew ?_ | refine Below.setCell ?_ (by first | omega | (simp; done) | (simp; omega)) _ | refine Below.trans ?_ (Below.mono (by assumption) (by first | omega | (simp; done) | (simp; omega)))))
  have t15 : Below w.heap.size w w15 := t14.trans (j15.mono t14.size)
  go_wp2_with fail
  go_at_call 32
  refine (nmProve _ _ _ (oQ.below (by (repeat (first | exact Below.refl _ _ | refine Below.alloc ?_ (by first | omega | (simp; done) | (simp; omega)) _ | refine Below.drew ?_ | refine Below.setCell ?_ (by first | omega | (simp; done) | (simp; omega)) _ | refine Below.trans ?_ (Below.mono (by assumption) (by first | omega | (simp; done) | (simp; omega))))))) 1 false (by decide +kernel) _ _ (recs3_lit _ _ _ _ rfl)).mono ?_
  rintro e w16 ⟨rfl, b16⟩
  have j16 : Below w15.heap.size w15 w16 := by (repeat (first | exact Below.refl _ _ | refine Below.alloc ?_ (by first | omega | (simp; done) | (simp; omega)) _ | refine Below.drew ?_ | refine Below.setCell ?_ (by first | omega | (simp; done) | (simp; omega)) _ | refine Below.trans ?_ (Below.mono (by assumption) (by first | omega | (simp; done) | (simp; omega)))))
  have t16 : Below w.heap.size w w16 := t15.trans (j16.mono t15.size)
  replace oQ := oQ.below j16
  clear oQ
  go_wp2_with fail
  go_at_call 51
  refine (owed_any _).mono ?_
  rintro e w17 ⟨rfl, oR, b17⟩
  have j17 : Below w16.heap.size w16 w17 := by (repeat (first | exact Below.refl _ _ | refine Below.alloc ?_ (by first | omega | (simp; done) | (simp; omega)) _ | refine Below.drew ?_ | refine Below.setCell ?_ (by first | omega | (simp; done) | (simp; omega)) _ | refine Below.trans ?_ (Below.mono (by assumption) (by first | omega | (simp; done) | (simp; omega)))))
  have t17 : Below w.heap.size w w17 := t16.trans (j17.mono t16.size)
  have hl1 := lists_lit1 w17 [0, 1, 2, 3] #[.int .i64 0, .int .i64 1, .int .i64 2, .int .i64 3] 3 25 4 rfl rfl
  try simp at hl1
  go_wp2_with fail
  go_at_call 46
  refine (nmProveG _ _ _ (oR.below (by (repeat (first | exact Below.refl _ _ | refine Below.alloc ?_ (by first | omega | (simp; done) | (simp; omega)) _ | refine Below.drew ?_ | refine Below.setCell ?_ (by first | omega | (simp; done) | (simp; omega)) _ | refine Below.trans ?_ (Below.mono (by assumption) (by first | omega | (simp; done) | (simp; omega))))))) [[0, 1, 2, 3]] 1 rfl (fun g hg => by simp at hg; subst hg; decide) (by decide) 1 true (by decide +kernel) _ _ hl1).mono ?_
  rintro e w18 ⟨rfl, b18⟩
  have j18 : Below w17.heap.size w17 w18 := by (repeat (first | exact Below.refl _ _ | refine Below.alloc ?_ (by first | omega | (simp; done) | (simp; omega)) _ | refine Below.drew ?_ | refine Below.setCell ?_ (by first | omega | (simp; done) | (simp; omega)) _ | refine Below.trans ?_ (Below.mono (by assumption) (by first | omega | (simp; done) | (simp; omega)))))
  have t18 : Below w.heap.size w w18 := t17.trans (j18.mono t17.size)
  replace oR := oR.below j18
  clear oR
  clear hl1
  go_wp2_with fail
  go_at_call 51
  refine (owed_any _).mono ?_
  rintro e w19 ⟨rfl, oS, b19⟩
  have j19 : Below w18.heap.size w18 w19 := by (repeat (first | exact Below.refl _ _ | refine Below.alloc ?_ (by first | omega | (simp; done) | (simp; omega)) _ | refine Below.drew ?_ | refine Below.setCell ?_ (by first | omega | (simp; done) | (simp; omega)) _ | refine Below.trans ?_ (Below.mono (by assumption) (by first | omega | (simp; done) | (simp; omega)))))
  have t19 : Below w.heap.size w w19 := t18.trans (j19.mono t18.size)
  have hl2 := lists_lit2 w19 [0, 1] [2, 3] #[.int .i64 0, .int .i64 1] #[.int .i64 2, .int .i64 3] 3 25 2 2 rfl rfl rfl rfl
  try simp at hl2
  go_wp2_with fail
  go_at_call 46
  refine (nmProveG _ _ _ (oS.below (by (repeat (first | exact Below.refl _ _ | refine Below.alloc ?_ (by first | omega | (simp; done) | (simp; omega)) _ | refine Below.drew ?_ | refine Below.setCell ?_ (by first | omega | (simp; done) | (simp; omega)) _ | refine Below.trans ?_ (Below.mono (by assumption) (by first | omega | (simp; done) | (simp; omega))))))) [[0, 1], [2, 3]] 2 rfl (fun g hg => by simp at hg; rcases hg with rfl | rfl <;> decide) (by decide) 2 false (by decide +kernel) _ _ hl2).mono ?_
  rintro e w20 ⟨rfl, b20⟩
  have j20 : Below w19.heap.size w19 w20 := by (repeat (first | exact Below.refl _ _ | refine Below.alloc ?_ (by first | omega | (simp; done) | (simp; omega)) _ | refine Below.drew ?_ | refine Below.setCell ?_ (by first | omega | (simp; done) | (simp; omega)) _ | refine Below.trans ?_ (Below.mono (by assumption) (by first | omega | (simp; done) | (simp; omega)))))
  have t20 : Below w.heap.size w w20 := t19.trans (j20.mono t19.size)
  replace oS := oS.below j20
  clear oS
  clear hl2
  go_wp2_with fail
  go_at_call 50
  refine (two_any _).mono ?_
  rintro e w21 ⟨⟨aE, cE, rfl, dE⟩, b21⟩
  have j21 : Below w20.heap.size w20 w21 := by (repeat (first | exact Below.refl _ _ | refine Below.alloc ?_ (by first | omega | (simp; done) | (simp; omega)) _ | refine Below.drew ?_ | refine Below.setCell ?_ (by first | omega | (simp; done) | (simp; omega)) _ | refine Below.trans ?_ (Below.mono (by assumption) (by first | omega | (simp; done) | (simp; omega)))))
  have t21 : Below w.heap.size w w21 := t20.trans (j21.mono t20.size)
  go_wp2_with fail
  go_at_call 20
  refine (nmShares aE cE _ (dE.below (by (repeat (first | exact Below.refl _ _ | refine Below.alloc ?_ (by first | omega | (simp; done) | (simp; omega)) _ | refine Below.drew ?_ | refine Below.setCell ?_ (by first | omega | (simp; done) | (simp; omega)) _ | refine Below.trans ?_ (Below.mono (by assumption) (by first | omega | (simp; done) | (simp; omega))))))) 15 [] 0 2 (by decide +kernel) rfl (by decide +kernel)).mono ?_
  rintro e w22 ⟨⟨a11, c11, rfl, -⟩, b22⟩
  have j22 : Below w21.heap.size w21 w22 := by (repeat (first | exact Below.refl _ _ | refine Below.alloc ?_ (by first | omega | (simp; done) | (simp; omega)) _ | refine Below.drew ?_ | refine Below.setCell ?_ (by first | omega | (simp; done) | (simp; omega)) _ | refine Below.trans ?_ (Below.mono (by assumption) (by first | omega | (simp; done) | (simp; omega)))))
  have t22 : Below w.heap.size w w22 := t21.trans (j22.mono t21.size)
  replace dE := dE.below j22
  clear dE
  go_wp2_with fail
  go_at_call 50
  refine (two_any _).mono ?_
  rintro e w23 ⟨⟨aF, cF, rfl, dF⟩, b23⟩
  have j23 : Below w22.heap.size w22 w23 := by (repeat (first | exact Below.refl _ _ | refine Below.alloc ?_ (by first | omega | (simp; done) | (simp; omega)) _ | refine Below.drew ?_ | refine Below.setCell ?_ (by first | omega | (simp; done) | (simp; omega)) _ | refine Below.trans ?_ (Below.mono (by assumption) (by first | omega | (simp; done) | (simp; omega)))))
  have t23 : Below w.heap.size w w23 := t22.trans (j23.mono t22.size)
  go_wp2_with fail
  go_at_call 21
  refine (nmBalance aF cF _ (dF.below (by (repeat (first | exact Below.refl _ _ | refine Below.alloc ?_ (by first | omega | (simp; done) | (simp; omega)) _ | refine Below.drew ?_ | refine Below.setCell ?_ (by first | omega | (simp; done) | (simp; omega)) _ | refine Below.trans ?_ (Below.mono (by assumption) (by first | omega | (simp; done) | (simp; omega))))))) _ _ (ints_lit _ _ _ _ rfl)).mono ?_
  rintro e w24 ⟨⟨a12, c12, rfl⟩, b24⟩
  have j24 : Below w23.heap.size w23 w24 := by (repeat (first | exact Below.refl _ _ | refine Below.alloc ?_ (by first | omega | (simp; done) | (simp; omega)) _ | refine Below.drew ?_ | refine Below.setCell ?_ (by first | omega | (simp; done) | (simp; omega)) _ | refine Below.trans ?_ (Below.mono (by assumption) (by first | omega | (simp; done) | (simp; omega)))))
  have t24 : Below w.heap.size w w24 := t23.trans (j24.mono t23.size)
  replace dF := dF.below j24
  clear dF
  go_wp2_with fail
  go_at_call 50
  refine (two_any _).mono ?_
  rintro e w25 ⟨⟨aG, cG, rfl, dG⟩, b25⟩
  have j25 : Below w24.heap.size w24 w25 := by (repeat (first | exact Below.refl _ _ | refine Below.alloc ?_ (by first | omega | (simp; done) | (simp; omega)) _ | refine Below.drew ?_ | refine Below.setCell ?_ (by first | omega | (simp; done) | (simp; omega)) _ | refine Below.trans ?_ (Below.mono (by assumption) (by first | omega | (simp; done) | (simp; omega)))))
  have t25 : Below w.heap.size w w25 := t24.trans (j25.mono t24.size)
  go_wp2_with fail
  go_at_call 42
  refine (nmReachOut aG cG _ (dG.below (by (repeat (first | exact Below.refl _ _ | refine Below.alloc ?_ (by first | omega | (simp; done) | (simp; omega)) _ | refine Below.drew ?_ | refine Below.setCell ?_ (by first | omega | (simp; done) | (simp; omega)) _ | refine Below.trans ?_ (Below.mono (by assumption) (by first | omega | (simp; done) | (simp; omega)))))))).mono ?_
  rintro e w26 ⟨rfl, b26⟩
  have j26 : Below w25.heap.size w25 w26 := by (repeat (first | exact Below.refl _ _ | refine Below.alloc ?_ (by first | omega | (simp; done) | (simp; omega)) _ | refine Below.drew ?_ | refine Below.setCell ?_ (by first | omega | (simp; done) | (simp; omega)) _ | refine Below.trans ?_ (Below.mono (by assumption) (by first | omega | (simp; done) | (simp; omega)))))
  have t26 : Below w.heap.size w w26 := t25.trans (j26.mono t25.size)
  replace dG := dG.below j26
  clear dG
  go_wp2_with fail
  go_at_call 50
  refine (two_any _).mono ?_
  rintro e w27 ⟨⟨aH, cH, rfl, dH⟩, b27⟩
  have j27 : Below w26.heap.size w26 w27 := by (repeat (first | exact Below.refl _ _ | refine Below.alloc ?_ (by first | omega | (simp; done) | (simp; omega)) _ | refine Below.drew ?_ | refine Below.setCell ?_ (by first | omega | (simp; done) | (simp; omega)) _ | refine Below.trans ?_ (Below.mono (by assumption) (by first | omega | (simp; done) | (simp; omega)))))
  have t27 : Below w.heap.size w w27 := t26.trans (j27.mono t26.size)
  go_wp2_with fail
  go_at_call 29
  refine (nmWords aH cH _ (dH.below (by (repeat (first | exact Below.refl _ _ | refine Below.alloc ?_ (by first | omega | (simp; done) | (simp; omega)) _ | refine Below.drew ?_ | refine Below.setCell ?_ (by first | omega | (simp; done) | (simp; omega)) _ | refine Below.trans ?_ (Below.mono (by assumption) (by first | omega | (simp; done) | (simp; omega))))))) 0 9 7 (by decide +kernel)).mono ?_
  rintro e w28 ⟨⟨a13, n13, c13, rfl⟩, b28⟩
  have j28 : Below w27.heap.size w27 w28 := by (repeat (first | exact Below.refl _ _ | refine Below.alloc ?_ (by first | omega | (simp; done) | (simp; omega)) _ | refine Below.drew ?_ | refine Below.setCell ?_ (by first | omega | (simp; done) | (simp; omega)) _ | refine Below.trans ?_ (Below.mono (by assumption) (by first | omega | (simp; done) | (simp; omega)))))
  have t28 : Below w.heap.size w w28 := t27.trans (j28.mono t27.size)
  replace dH := dH.below j28
  clear dH
  go_wp2_with fail
  go_at_call 50
  refine (two_any _).mono ?_
  rintro e w29 ⟨⟨aI, cI, rfl, dI⟩, b29⟩
  have j29 : Below w28.heap.size w28 w29 := by (repeat (first | exact Below.refl _ _ | refine Below.alloc ?_ (by first | omega | (simp; done) | (simp; omega)) _ | refine Below.drew ?_ | refine Below.setCell ?_ (by first | omega | (simp; done) | (simp; omega)) _ | refine Below.trans ?_ (Below.mono (by assumption) (by first | omega | (simp; done) | (simp; omega)))))
  have t29 : Below w.heap.size w w29 := t28.trans (j29.mono t28.size)
  go_wp2_with fail
  go_at_call 29
  refine (nmWords aI cI _ (dI.below (by (repeat (first | exact Below.refl _ _ | refine Below.alloc ?_ (by first | omega | (simp; done) | (simp; omega)) _ | refine Below.drew ?_ | refine Below.setCell ?_ (by first | omega | (simp; done) | (simp; omega)) _ | refine Below.trans ?_ (Below.mono (by assumption) (by first | omega | (simp; done) | (simp; omega))))))) 2 14 11 (by decide +kernel)).mono ?_
  rintro e w30 ⟨⟨a14, n14, c14, rfl⟩, b30⟩
  have j30 : Below w29.heap.size w29 w30 := by (repeat (first | exact Below.refl _ _ | refine Below.alloc ?_ (by first | omega | (simp; done) | (simp; omega)) _ | refine Below.drew ?_ | refine Below.setCell ?_ (by first | omega | (simp; done) | (simp; omega)) _ | refine Below.trans ?_ (Below.mono (by assumption) (by first | omega | (simp; done) | (simp; omega)))))
  have t30 : Below w.heap.size w w30 := t29.trans (j30.mono t29.size)
  replace dI := dI.below j30
  clear dI
  go_wp2_with fail
  go_at_call 50
  refine (two_any _).mono ?_
  rintro e w31 ⟨⟨aJ, cJ, rfl, dJ⟩, b31⟩
  have j31 : Below w30.heap.size w30 w31 := by (repeat (first | exact Below.refl _ _ | refine Below.alloc ?_ (by first | omega | (simp; done) | (simp; omega)) _ | refine Below.drew ?_ | refine Below.setCell ?_ (by first | omega | (simp; done) | (simp; omega)) _ | refine Below.trans ?_ (Below.mono (by assumption) (by first | omega | (simp; done) | (simp; omega)))))
  have t31 : Below w.heap.size w w31 := t30.trans (j31.mono t30.size)
  go_wp2_with fail
  go_at_call 29
  refine (nmWordsOut aJ cJ _ (dJ.below (by (repeat (first | exact Below.refl _ _ | refine Below.alloc ?_ (by first | omega | (simp; done) | (simp; omega)) _ | refine Below.drew ?_ | refine Below.setCell ?_ (by first | omega | (simp; done) | (simp; omega)) _ | refine Below.trans ?_ (Below.mono (by assumption) (by first | omega | (simp; done) | (simp; omega)))))))).mono ?_
  rintro e w32 ⟨rfl, b32⟩
  have j32 : Below w31.heap.size w31 w32 := by (repeat (first | exact Below.refl _ _ | refine Below.alloc ?_ (by first | omega | (simp; done) | (simp; omega)) _ | refine Below.drew ?_ | refine Below.setCell ?_ (by first | omega | (simp; done) | (simp; omega)) _ | refine Below.trans ?_ (Below.mono (by assumption) (by first | omega | (simp; done) | (simp; omega)))))
  have t32 : Below w.heap.size w w32 := t31.trans (j32.mono t31.size)
  replace dJ := dJ.below j32
  clear dJ
  go_wp2_with fail
  go_at_call 31
  refine (nmSettleBad _ _ _ (ints_lit _ _ _ _ rfl)).mono ?_
  rintro e w33 ⟨rfl, b33⟩
  have j33 : Below w32.heap.size w32 w33 := by (repeat (first | exact Below.refl _ _ | refine Below.alloc ?_ (by first | omega | (simp; done) | (simp; omega)) _ | refine Below.drew ?_ | refine Below.setCell ?_ (by first | omega | (simp; done) | (simp; omega)) _ | refine Below.trans ?_ (Below.mono (by assumption) (by first | omega | (simp; done) | (simp; omega)))))
  have t33 : Below w.heap.size w w33 := t32.trans (j33.mono t32.size)
  have mk8 : Sem.run Try.prog (Instr.makeSlice 25 (.int .i64 8) (.int .i64 8)) w33 = .ok (.slice (some ⟨w33.heap.size, 0, none⟩) 8 8) (w33.alloc (.cells #[.int .i64 0, .int .i64 0, .int .i64 0, .int .i64 0, .int .i64 0, .int .i64 0, .int .i64 0, .int .i64 0] 3)) := make_ints 8 (by decide) w33
  go_wp2_with fail
  go_at_call 45
  refine (nmGroupsBad _ _ _ (ints_lit _ _ _ _ rfl)).mono ?_
  rintro e w34 ⟨rfl, b34⟩
  have j34 : Below w33.heap.size w33 w34 := by (repeat (first | exact Below.refl _ _ | refine Below.alloc ?_ (by first | omega | (simp; done) | (simp; omega)) _ | refine Below.drew ?_ | refine Below.setCell ?_ (by first | omega | (simp; done) | (simp; omega)) _ | refine Below.trans ?_ (Below.mono (by assumption) (by first | omega | (simp; done) | (simp; omega)))))
  have t34 : Below w.heap.size w w34 := t33.trans (j34.mono t33.size)
  go_wp2_with fail
  go_at_call 31
  refine (nmSettleNil _).mono ?_
  rintro e w35 ⟨rfl, b35⟩
  have j35 : Below w34.heap.size w34 w35 := by (repeat (first | exact Below.refl _ _ | refine Below.alloc ?_ (by first | omega | (simp; done) | (simp; omega)) _ | refine Below.drew ?_ | refine Below.setCell ?_ (by first | omega | (simp; done) | (simp; omega)) _ | refine Below.trans ?_ (Below.mono (by assumption) (by first | omega | (simp; done) | (simp; omega)))))
  have t35 : Below w.heap.size w w35 := t34.trans (j35.mono t34.size)
  go_wp2_with fail
  go_at_call 50
  refine (twoI_any _).mono ?_
  rintro e w36 ⟨⟨p1, q1, g1, rfl, A1⟩, b36⟩
  have j36 : Below w35.heap.size w35 w36 := by (repeat (first | exact Below.refl _ _ | refine Below.alloc ?_ (by first | omega | (simp; done) | (simp; omega)) _ | refine Below.drew ?_ | refine Below.setCell ?_ (by first | omega | (simp; done) | (simp; omega)) _ | refine Below.trans ?_ (Below.mono (by assumption) (by first | omega | (simp; done) | (simp; omega)))))
  have t36 : Below w.heap.size w w36 := t35.trans (j36.mono t35.size)
  go_wp2_with fail
  go_at_call 50
  refine (twoI_any _).mono ?_
  rintro e w37 ⟨⟨p2, q2, g2, rfl, A2⟩, b37⟩
  have j37 : Below w36.heap.size w36 w37 := by (repeat (first | exact Below.refl _ _ | refine Below.alloc ?_ (by first | omega | (simp; done) | (simp; omega)) _ | refine Below.drew ?_ | refine Below.setCell ?_ (by first | omega | (simp; done) | (simp; omega)) _ | refine Below.trans ?_ (Below.mono (by assumption) (by first | omega | (simp; done) | (simp; omega)))))
  have t37 : Below w.heap.size w w37 := t36.trans (j37.mono t36.size)
  replace A1 := A1.below j37
  go_wp2_with fail
  go_at_call 50
  refine (twoI_any _).mono ?_
  rintro e w38 ⟨⟨p3, q3, g3, rfl, A3⟩, b38⟩
  have j38 : Below w37.heap.size w37 w38 := by (repeat (first | exact Below.refl _ _ | refine Below.alloc ?_ (by first | omega | (simp; done) | (simp; omega)) _ | refine Below.drew ?_ | refine Below.setCell ?_ (by first | omega | (simp; done) | (simp; omega)) _ | refine Below.trans ?_ (Below.mono (by assumption) (by first | omega | (simp; done) | (simp; omega)))))
  have t38 : Below w.heap.size w w38 := t37.trans (j38.mono t37.size)
  replace A1 := A1.below j38
  replace A2 := A2.below j38
  go_wp2_with fail
  go_at_call 50
  refine (twoI_any _).mono ?_
  rintro e w39 ⟨⟨p4, q4, g4, rfl, A4⟩, b39⟩
  have j39 : Below w38.heap.size w38 w39 := by (repeat (first | exact Below.refl _ _ | refine Below.alloc ?_ (by first | omega | (simp; done) | (simp; omega)) _ | refine Below.drew ?_ | refine Below.setCell ?_ (by first | omega | (simp; done) | (simp; omega)) _ | refine Below.trans ?_ (Below.mono (by assumption) (by first | omega | (simp; done) | (simp; omega)))))
  have t39 : Below w.heap.size w w39 := t38.trans (j39.mono t38.size)
  replace A1 := A1.below j39
  replace A2 := A2.below j39
  replace A3 := A3.below j39
  go_wp2_with fail
  go_at_call 50
  refine (twoI_any _).mono ?_
  rintro e w40 ⟨⟨p5, q5, g5, rfl, A5⟩, b40⟩
  have j40 : Below w39.heap.size w39 w40 := by (repeat (first | exact Below.refl _ _ | refine Below.alloc ?_ (by first | omega | (simp; done) | (simp; omega)) _ | refine Below.drew ?_ | refine Below.setCell ?_ (by first | omega | (simp; done) | (simp; omega)) _ | refine Below.trans ?_ (Below.mono (by assumption) (by first | omega | (simp; done) | (simp; omega)))))
  have t40 : Below w.heap.size w w40 := t39.trans (j40.mono t39.size)
  replace A1 := A1.below j40
  replace A2 := A2.below j40
  replace A3 := A3.below j40
  replace A4 := A4.below j40
  obtain ⟨X0, hX0⟩ : ∃ z : World, z = (((((w40.alloc (.cells #[.int .i64 4, .int .i64 3, .int .i64 10, .slice (some ⟨g1, 0, none⟩) 2 2] 32)).alloc (.cells #[.int .i64 4, .int .i64 3, .int .i64 10, .slice (some ⟨g2, 0, none⟩) 2 2] 32)).alloc (.cells #[.int .i64 4, .int .i64 3, .int .i64 10, .slice (some ⟨g3, 0, none⟩) 2 2] 32)).alloc (.cells #[.int .i64 4, .int .i64 3, .int .i64 10, .slice (some ⟨g4, 0, none⟩) 2 2] 32)).alloc (.cells #[.int .i64 4, .int .i64 3, .int .i64 10, .slice (some ⟨g5, 0, none⟩) 2 2] 32)) := ⟨_, rfl⟩
  have K1 : Cells X0 (w40.heap.size) #[.int .i64 4, .int .i64 3, .int .i64 10, .slice (some ⟨g1, 0, none⟩) 2 2] 32 := by rw [hX0]; exact ((((Cells.new _ _ _).alloc _).alloc _).alloc _).alloc _
  have K2 : Cells X0 (w40.heap.size + 1) #[.int .i64 4, .int .i64 3, .int .i64 10, .slice (some ⟨g2, 0, none⟩) 2 2] 32 := by rw [hX0]; exact (((Cells.new' _ _ _ _ (by simp)).alloc _).alloc _).alloc _
  have K3 : Cells X0 (w40.heap.size + 1 + 1) #[.int .i64 4, .int .i64 3, .int .i64 10, .slice (some ⟨g3, 0, none⟩) 2 2] 32 := by rw [hX0]; exact ((Cells.new' _ _ _ _ (by simp)).alloc _).alloc _
  have K4 : Cells X0 (w40.heap.size + 1 + 1 + 1) #[.int .i64 4, .int .i64 3, .int .i64 10, .slice (some ⟨g4, 0, none⟩) 2 2] 32 := by rw [hX0]; exact (Cells.new' _ _ _ _ (by simp)).alloc _
  have K5 : Cells X0 (w40.heap.size + 1 + 1 + 1 + 1) #[.int .i64 4, .int .i64 3, .int .i64 10, .slice (some ⟨g5, 0, none⟩) 2 2] 32 := by rw [hX0]; exact Cells.new' _ _ _ _ (by simp)
  have bX0 : Below w40.heap.size w40 X0 := by rw [hX0]; exact (((((Below.refl _ _).alloc (Nat.le_refl _) _).alloc (by simp) _).alloc (by simp <;> omega) _).alloc (by simp <;> omega) _).alloc (by simp <;> omega) _
  go_upto_region 18 with fail
  rw [← hX0]
  clear hX0
  replace A1 := A1.below bX0
  replace A2 := A2.below bX0
  replace A3 := A3.below bX0
  replace A4 := A4.below bX0
  replace A5 := A5.below bX0
  have z1 := j36.size
  have z2 := j37.size
  have z3 := j38.size
  have z4 := j39.size
  have z5 := j40.size
  have r1 := A1.r1
  have s1 := A1.r2
  have u1 := A1.r3
  have r2 := A2.r1
  have s2 := A2.r2
  have u2 := A2.r3
  have r3 := A3.r1
  have s3 := A3.r2
  have u3 := A3.r3
  have r4 := A4.r1
  have s4 := A4.r2
  have u4 := A4.r3
  have r5 := A5.r1
  have s5 := A5.r2
  have u5 := A5.r3
  have tX0 := t40.trans (bX0.mono t40.size)
  have zT := t35.size
  have k1 := K1.cell 3
  simp at k1
  have l1 := K1.lt
  have a3 := A1.c3.cell 3
  simp at a3
  have la := A1.c3.lt
  have p0 := A1.c1.cell 0
  simp at p0
  have lp := A1.c1.lt
  have fp := A1.c1.frozen 0
  obtain ⟨X1, hX1⟩ : ∃ z : World, z = X0.setCell ⟨p1, 0, none⟩ (.int .i64 2) := ⟨_, rfl⟩
  have M1 : Cells X1 p1 #[.int .i64 2, .int .i64 2, .int .i64 3] 3 := by rw [hX1]; exact A1.c1.set 0 _
  have M2 : Cells X1 q1 #[.int .i64 2] 3 := by rw [hX1]; exact A1.c2.other (Ne.symm A1.n12) 0 _
  have M3 : Cells X1 g1 #[.int .i64 0, .int .i64 10, .int .i64 14, .slice (some ⟨p1, 0, none⟩) 3 3, .int .i64 3, .int .i64 7, .int .i64 7, .slice (some ⟨q1, 0, none⟩) 1 1] 93 := by rw [hX1]; exact A1.c3.other (Ne.symm A1.n13) 0 _
  replace A2 := A2.other (x := p1) (by omega) 0 (.int .i64 2)
  replace A3 := A3.other (x := p1) (by omega) 0 (.int .i64 2)
  replace A4 := A4.other (x := p1) (by omega) 0 (.int .i64 2)
  replace A5 := A5.other (x := p1) (by omega) 0 (.int .i64 2)
  replace K1 := K1.other (g' := p1) (by omega) 0 (.int .i64 2)
  replace K2 := K2.other (g' := p1) (by omega) 0 (.int .i64 2)
  replace K3 := K3.other (g' := p1) (by omega) 0 (.int .i64 2)
  replace K4 := K4.other (g' := p1) (by omega) 0 (.int .i64 2)
  replace K5 := K5.other (g' := p1) (by omega) 0 (.int .i64 2)
  replace tX0 := tX0.setCell (p := ⟨p1, 0, none⟩) (by show w.heap.size ≤ p1; omega) (.int .i64 2)
  go_upto_region 19 with fail
  rw [← hX1]
  rw [← hX1] at tX0 A2 A3 A4 A5 K1 K2 K3 K4 K5
  clear hX1 A1 k1 a3 p0 fp la lp l1
  have k2 := K2.cell 3
  simp at k2
  have l2 := K2.lt
  have a3 := A2.c3.cell 3
  simp at a3
  have la := A2.c3.lt
  have fp := A2.c3.frozen 3
  obtain ⟨X2, hX2⟩ : ∃ z : World, z = X1.setCell ⟨g2, 3, none⟩ (.slice none 0 0) := ⟨_, rfl⟩
  have O2 : Cells X2 q2 #[.int .i64 2] 3 := by rw [hX2]; exact A2.c2.other A2.n23 3 _
  have O3 : Cells X2 g2 #[.int .i64 0, .int .i64 10, .int .i64 14, .slice none 0 0, .int .i64 3, .int .i64 7, .int .i64 7, .slice (some ⟨q2, 0, none⟩) 1 1] 93 := by rw [hX2]; exact A2.c3.set 3 _
  replace A3 := A3.other (x := g2) (by omega) 3 (.slice none 0 0)
  replace A4 := A4.other (x := g2) (by omega) 3 (.slice none 0 0)
  replace A5 := A5.other (x := g2) (by omega) 3 (.slice none 0 0)
  replace K1 := K1.other (g' := g2) (by omega) 3 (.slice none 0 0)
  replace K2 := K2.other (g' := g2) (by omega) 3 (.slice none 0 0)
  replace K3 := K3.other (g' := g2) (by omega) 3 (.slice none 0 0)
  replace K4 := K4.other (g' := g2) (by omega) 3 (.slice none 0 0)
  replace K5 := K5.other (g' := g2) (by omega) 3 (.slice none 0 0)
  replace M1 := M1.other (g' := g2) (by omega) 3 (.slice none 0 0)
  replace M2 := M2.other (g' := g2) (by omega) 3 (.slice none 0 0)
  replace M3 := M3.other (g' := g2) (by omega) 3 (.slice none 0 0)
  replace tX0 := tX0.setCell (p := ⟨g2, 3, none⟩) (by show w.heap.size ≤ g2; omega) (.slice none 0 0)
  go_upto_region 20 with fail
  rw [← hX2]
  rw [← hX2] at tX0 A3 A4 A5 K1 K2 K3 K4 K5 M1 M2 M3
  clear hX2 A2 k2 a3 fp la l2
  have k3 := K3.cell 3
  simp at k3
  have l3 := K3.lt
  have a3 := A3.c3.cell 1
  simp at a3
  have la := A3.c3.lt
  have fp := A3.c3.frozen 1
  obtain ⟨X3, hX3⟩ : ∃ z : World, z = X2.setCell ⟨g3, 1, none⟩ (.int .i64 0) := ⟨_, rfl⟩
  have Q1 : Cells X3 p3 #[.int .i64 1, .int .i64 2, .int .i64 3] 3 := by rw [hX3]; exact A3.c1.other A3.n13 1 _
  have Q2 : Cells X3 q3 #[.int .i64 2] 3 := by rw [hX3]; exact A3.c2.other A3.n23 1 _
  have Q3 : Cells X3 g3 #[.int .i64 0, .int .i64 0, .int .i64 14, .slice (some ⟨p3, 0, none⟩) 3 3, .int .i64 3, .int .i64 7, .int .i64 7, .slice (some ⟨q3, 0, none⟩) 1 1] 93 := by rw [hX3]; exact A3.c3.set 1 _
  replace A4 := A4.other (x := g3) (by omega) 1 (.int .i64 0)
  replace A5 := A5.other (x := g3) (by omega) 1 (.int .i64 0)
  replace K1 := K1.other (g' := g3) (by omega) 1 (.int .i64 0)
  replace K2 := K2.other (g' := g3) (by omega) 1 (.int .i64 0)
  replace K3 := K3.other (g' := g3) (by omega) 1 (.int .i64 0)
  replace K4 := K4.other (g' := g3) (by omega) 1 (.int .i64 0)
  replace K5 := K5.other (g' := g3) (by omega) 1 (.int .i64 0)
  replace M1 := M1.other (g' := g3) (by omega) 1 (.int .i64 0)
  replace M2 := M2.other (g' := g3) (by omega) 1 (.int .i64 0)
  replace M3 := M3.other (g' := g3) (by omega) 1 (.int .i64 0)
  replace O2 := O2.other (g' := g3) (by omega) 1 (.int .i64 0)
  replace O3 := O3.other (g' := g3) (by omega) 1 (.int .i64 0)
  replace tX0 := tX0.setCell (p := ⟨g3, 1, none⟩) (by show w.heap.size ≤ g3; omega) (.int .i64 0)
  go_upto_region 21 with fail
  rw [← hX3]
  rw [← hX3] at tX0 A4 A5 K1 K2 K3 K4 K5 M1 M2 M3 O2 O3
  clear hX3 A3 k3 a3 fp la l3
  have k4 := K4.cell 0
  simp at k4
  have l4 := K4.lt
  have f4 := K4.frozen 0
  obtain ⟨n4, hn4⟩ : ∃ n, n = w40.heap.size + 1 + 1 + 1 := ⟨_, rfl⟩
  obtain ⟨X4, hX4⟩ : ∃ z : World, z = X3.setCell ⟨w40.heap.size + 1 + 1 + 1, 0, none⟩ (.int .i64 8) := ⟨_, rfl⟩
  replace K4 := K4.set 0 (.int .i64 8)
  replace A4 := A4.other (x := w40.heap.size + 1 + 1 + 1) (by omega) 0 (.int .i64 8)
  replace A5 := A5.other (x := w40.heap.size + 1 + 1 + 1) (by omega) 0 (.int .i64 8)
  replace K1 := K1.other (g' := w40.heap.size + 1 + 1 + 1) (by omega) 0 (.int .i64 8)
  replace K2 := K2.other (g' := w40.heap.size + 1 + 1 + 1) (by omega) 0 (.int .i64 8)
  replace K3 := K3.other (g' := w40.heap.size + 1 + 1 + 1) (by omega) 0 (.int .i64 8)
  replace K5 := K5.other (g' := w40.heap.size + 1 + 1 + 1) (by omega) 0 (.int .i64 8)
  replace M1 := M1.other (g' := w40.heap.size + 1 + 1 + 1) (by omega) 0 (.int .i64 8)
  replace M2 := M2.other (g' := w40.heap.size + 1 + 1 + 1) (by omega) 0 (.int .i64 8)
  replace M3 := M3.other (g' := w40.heap.size + 1 + 1 + 1) (by omega) 0 (.int .i64 8)
  replace O2 := O2.other (g' := w40.heap.size + 1 + 1 + 1) (by omega) 0 (.int .i64 8)
  replace O3 := O3.other (g' := w40.heap.size + 1 + 1 + 1) (by omega) 0 (.int .i64 8)
  replace Q1 := Q1.other (g' := w40.heap.size + 1 + 1 + 1) (by omega) 0 (.int .i64 8)
  replace Q2 := Q2.other (g' := w40.heap.size + 1 + 1 + 1) (by omega) 0 (.int .i64 8)
  replace Q3 := Q3.other (g' := w40.heap.size + 1 + 1 + 1) (by omega) 0 (.int .i64 8)
  replace tX0 := tX0.setCell (p := ⟨w40.heap.size + 1 + 1 + 1, 0, none⟩) (by show w.heap.size ≤ w40.heap.size + 1 + 1 + 1; omega) (.int .i64 8)
  go_upto_region 22 with fail
  rw [← hX4]
  rw [← hX4] at tX0 A4 A5 K1 K2 K3 K4 K5 M1 M2 M3 O2 O3 Q1 Q2 Q3
  clear hX4 k4 l4 f4 hn4
  obtain ⟨X5, hX5⟩ : ∃ z : World, z = X4.alloc (.cells #[.int .i64 0, .int .i64 1, .int .i64 2, .int .i64 3, .int .i64 0, .int .i64 1] 3) := ⟨_, rfl⟩
  have R1 : Cells X5 X4.heap.size #[.int .i64 0, .int .i64 1, .int .i64 2, .int .i64 3, .int .i64 0, .int .i64 1] 3 := by rw [hX5]; exact Cells.new _ _ _
  have b5 : Below X4.heap.size X4 X5 := by rw [hX5]; exact (Below.refl _ _).alloc (Nat.le_refl _) _
  have z6 := tX0.size
  have lg5 := A5.c3.lt
  have f10 := K1.cell 0
  simp at f10
  have f11 := K1.cell 1
  simp at f11
  have f12 := K1.cell 2
  simp at f12
  have f13 := K1.cell 3
  simp at f13
  have me := K1.lt
  have ng : ¬ w40.heap.size = g5 := by omega
  have ng2 : ¬ g5 = w40.heap.size := by omega
  have k5 := K5.cell 3
  simp at k5
  have l5 := K5.lt
  have a3 := A5.c3.cell 3
  simp at a3
  have la := A5.c3.lt
  have fp := A5.c3.frozen 3
  replace K1 := K1.below b5
  replace K2 := K2.below b5
  replace K3 := K3.below b5
  replace K4 := K4.below b5
  replace K5 := K5.below b5
  replace M1 := M1.below b5
  replace M2 := M2.below b5
  replace M3 := M3.below b5
  replace O2 := O2.below b5
  replace O3 := O3.below b5
  replace Q1 := Q1.below b5
  replace Q2 := Q2.below b5
  replace Q3 := Q3.below b5
  replace A4 := A4.below b5
  replace A5 := A5.below b5
  replace tX0 := tX0.trans (b5.mono tX0.size)
  have a35 := A5.c3.cell 3
  simp at a35
  have la5 := A5.c3.lt
  have fp5 := A5.c3.frozen 3
  obtain ⟨h6, hh6⟩ : ∃ h, X4.heap.size = h := ⟨_, rfl⟩
  obtain ⟨X6, hX6⟩ : ∃ z : World, z = X5.setCell ⟨g5, 3, none⟩ (.slice (some ⟨h6, 0, none⟩) 6 6) := ⟨_, rfl⟩
  rw [hh6] at R1
  have g56 : g5 ≠ h6 := by omega
  have V2 : Cells X6 q5 #[.int .i64 2] 3 := by rw [hX6]; exact A5.c2.other A5.n23 3 _
  have V3 : Cells X6 g5 #[.int .i64 0, .int .i64 10, .int .i64 14, .slice (some ⟨h6, 0, none⟩) 6 6, .int .i64 3, .int .i64 7, .int .i64 7, .slice (some ⟨q5, 0, none⟩) 1 1] 93 := by rw [hX6]; exact A5.c3.set 3 _
  replace A4 := A4.other (x := g5) (by omega) 3 (.slice (some ⟨h6, 0, none⟩) 6 6)
  replace R1 := R1.other (g' := g5) (Ne.symm g56) 3 (.slice (some ⟨h6, 0, none⟩) 6 6)
  replace tX0 := tX0.setCell (p := ⟨g5, 3, none⟩) (by show w.heap.size ≤ g5; omega) (.slice (some ⟨h6, 0, none⟩) 6 6)
  replace K1 := K1.other (g' := g5) (by omega) 3 (.slice (some ⟨h6, 0, none⟩) 6 6)
  replace K2 := K2.other (g' := g5) (by omega) 3 (.slice (some ⟨h6, 0, none⟩) 6 6)
  replace K3 := K3.other (g' := g5) (by omega) 3 (.slice (some ⟨h6, 0, none⟩) 6 6)
  replace K4 := K4.other (g' := g5) (by omega) 3 (.slice (some ⟨h6, 0, none⟩) 6 6)
  replace K5 := K5.other (g' := g5) (by omega) 3 (.slice (some ⟨h6, 0, none⟩) 6 6)
  replace M1 := M1.other (g' := g5) (by omega) 3 (.slice (some ⟨h6, 0, none⟩) 6 6)
  replace M2 := M2.other (g' := g5) (by omega) 3 (.slice (some ⟨h6, 0, none⟩) 6 6)
  replace M3 := M3.other (g' := g5) (by omega) 3 (.slice (some ⟨h6, 0, none⟩) 6 6)
  replace O2 := O2.other (g' := g5) (by omega) 3 (.slice (some ⟨h6, 0, none⟩) 6 6)
  replace O3 := O3.other (g' := g5) (by omega) 3 (.slice (some ⟨h6, 0, none⟩) 6 6)
  replace Q1 := Q1.other (g' := g5) (by omega) 3 (.slice (some ⟨h6, 0, none⟩) 6 6)
  replace Q2 := Q2.other (g' := g5) (by omega) 3 (.slice (some ⟨h6, 0, none⟩) 6 6)
  replace Q3 := Q3.other (g' := g5) (by omega) 3 (.slice (some ⟨h6, 0, none⟩) 6 6)
  rw [← hX6] at tX0 A4 R1 K1 K2 K3 K4 K5 M1 M2 M3 O2 O3 Q1 Q2 Q3
  have d1 := dis_two (l := [2, 2, 3]) ⟨M1.ints [2, 2, 3] rfl, Nat.le_refl _, fun h => by cases h⟩ M2 M3
  have d2 := dis_two (l := []) ⟨IntsAt.nil _ none, Nat.le_refl _, fun h => rfl⟩ O2 O3
  have d3 := dis_two (l := [1, 2, 3]) ⟨Q1.ints [1, 2, 3] rfl, Nat.le_refl _, fun h => by cases h⟩ Q2 Q3
  have d4 := A4.dis
  have d5 := dis_two (l := [0, 1, 2, 3, 0, 1]) ⟨R1.ints [0, 1, 2, 3, 0, 1] rfl, Nat.le_refl _, fun h => by cases h⟩ V2 V3
  clear A4 A5 R1 M1 M2 M3 O2 O3 Q1 Q2 Q3 V2 V3
  have y10 := K1.cell 0
  simp at y10
  have y11 := K1.cell 1
  simp at y11
  have y12 := K1.cell 2
  simp at y12
  have y13 := K1.cell 3
  simp at y13
  have m1 := K1.lt
  have y20 := K2.cell 0
  simp at y20
  have y21 := K2.cell 1
  simp at y21
  have y22 := K2.cell 2
  simp at y22
  have y23 := K2.cell 3
  simp at y23
  have m2 := K2.lt
  have y30 := K3.cell 0
  simp at y30
  have y31 := K3.cell 1
  simp at y31
  have y32 := K3.cell 2
  simp at y32
  have y33 := K3.cell 3
  simp at y33
  have m3 := K3.lt
  have y40 := K4.cell 0
  simp at y40
  have y41 := K4.cell 1
  simp at y41
  have y42 := K4.cell 2
  simp at y42
  have y43 := K4.cell 3
  simp at y43
  have m4 := K4.lt
  have y50 := K5.cell 0
  simp at y50
  have y51 := K5.cell 1
  simp at y51
  have y52 := K5.cell 2
  simp at y52
  have y53 := K5.cell 3
  simp at y53
  have m5 := K5.lt
  clear K1 K2 K3 K4 K5 z1 r1 s1 u1 z2 r2 s2 u2 z3 r3 s3 u3 z4 r4 s4 u4 z5 r5 s5 u5
  rw [hX5] at a35 la5 fp5
  have h10 := y10
  have h11 := y11
  have h12 := y12
  have h13 := y13
  have hm1 := m1
  rw [hX6, hX5] at h10 h11 h12 h13 hm1
  go_wp2_with fail
  rw [← hX5, ← hX6]
  clear hX5 hX6 hh6 a3 fp la k5 l5 a35 la5 fp5 f10 f11 f12 f13 me ng ng2 h10 h11 h12 h13 hm1
  go_at_call 18
  refine (nmCheck 4 3 10 [⟨0, 10, 14, [2, 2, 3]⟩, ⟨3, 7, 7, [2]⟩] 2 rfl 1 (by decide +kernel) (by decide) (by decide +kernel) (some ⟨g1, 0, none⟩) 2 _ d1).mono ?_
  rintro e y1 ⟨rfl, e1⟩
  have x1 : Below X6.heap.size X6 y1 := by (repeat (first | exact Below.refl _ _ | refine Below.alloc ?_ (by first | omega | (simp; done) | (simp; omega)) _ | refine Below.drew ?_ | refine Below.setCell ?_ (by first | omega | (simp; done) | (simp; omega)) _ | refine Below.trans ?_ (Below.mono (by assumption) (by first | omega | (simp; done) | (simp; omega)))))
  replace d1 := d1.below x1
  replace y10 := below_cell x1 y10
  replace y11 := below_cell x1 y11
  replace y12 := below_cell x1 y12
  replace y13 := below_cell x1 y13
  replace m1 := Nat.lt_of_lt_of_le m1 x1.size
  replace d2 := d2.below x1
  replace y20 := below_cell x1 y20
  replace y21 := below_cell x1 y21
  replace y22 := below_cell x1 y22
  replace y23 := below_cell x1 y23
  replace m2 := Nat.lt_of_lt_of_le m2 x1.size
  replace d3 := d3.below x1
  replace y30 := below_cell x1 y30
  replace y31 := below_cell x1 y31
  replace y32 := below_cell x1 y32
  replace y33 := below_cell x1 y33
  replace m3 := Nat.lt_of_lt_of_le m3 x1.size
  replace d4 := d4.below x1
  replace y40 := below_cell x1 y40
  replace y41 := below_cell x1 y41
  replace y42 := below_cell x1 y42
  replace y43 := below_cell x1 y43
  replace m4 := Nat.lt_of_lt_of_le m4 x1.size
  replace d5 := d5.below x1
  replace y50 := below_cell x1 y50
  replace y51 := below_cell x1 y51
  replace y52 := below_cell x1 y52
  replace y53 := below_cell x1 y53
  replace m5 := Nat.lt_of_lt_of_le m5 x1.size
  clear d1 y10 y11 y12 y13 m1
  go_wp2_with fail
  go_at_call 18
  refine (nmCheck 4 3 10 [⟨0, 10, 14, []⟩, ⟨3, 7, 7, [2]⟩] 2 rfl 1 (by decide +kernel) (by decide) (by decide +kernel) (some ⟨g2, 0, none⟩) 2 _ d2).mono ?_
  rintro e y2 ⟨rfl, e2⟩
  have v2 : Below y1.heap.size y1 y2 := by (repeat (first | exact Below.refl _ _ | refine Below.alloc ?_ (by first | omega | (simp; done) | (simp; omega)) _ | refine Below.drew ?_ | refine Below.setCell ?_ (by first | omega | (simp; done) | (simp; omega)) _ | refine Below.trans ?_ (Below.mono (by assumption) (by first | omega | (simp; done) | (simp; omega)))))
  have x2 : Below X6.heap.size X6 y2 := x1.trans (v2.mono x1.size)
  replace d2 := d2.below v2
  replace y20 := below_cell v2 y20
  replace y21 := below_cell v2 y21
  replace y22 := below_cell v2 y22
  replace y23 := below_cell v2 y23
  replace m2 := Nat.lt_of_lt_of_le m2 v2.size
  replace d3 := d3.below v2
  replace y30 := below_cell v2 y30
  replace y31 := below_cell v2 y31
  replace y32 := below_cell v2 y32
  replace y33 := below_cell v2 y33
  replace m3 := Nat.lt_of_lt_of_le m3 v2.size
  replace d4 := d4.below v2
  replace y40 := below_cell v2 y40
  replace y41 := below_cell v2 y41
  replace y42 := below_cell v2 y42
  replace y43 := below_cell v2 y43
  replace m4 := Nat.lt_of_lt_of_le m4 v2.size
  replace d5 := d5.below v2
  replace y50 := below_cell v2 y50
  replace y51 := below_cell v2 y51
  replace y52 := below_cell v2 y52
  replace y53 := below_cell v2 y53
  replace m5 := Nat.lt_of_lt_of_le m5 v2.size
  clear d2 y20 y21 y22 y23 m2
  go_wp2_with fail
  go_at_call 18
  refine (nmCheck 4 3 10 [⟨0, 0, 14, [1, 2, 3]⟩, ⟨3, 7, 7, [2]⟩] 2 rfl 1 (by decide +kernel) (by decide) (by decide +kernel) (some ⟨g3, 0, none⟩) 2 _ d3).mono ?_
  rintro e y3 ⟨rfl, e3⟩
  have v3 : Below y2.heap.size y2 y3 := by (repeat (first | exact Below.refl _ _ | refine Below.alloc ?_ (by first | omega | (simp; done) | (simp; omega)) _ | refine Below.drew ?_ | refine Below.setCell ?_ (by first | omega | (simp; done) | (simp; omega)) _ | refine Below.trans ?_ (Below.mono (by assumption) (by first | omega | (simp; done) | (simp; omega)))))
  have x3 : Below X6.heap.size X6 y3 := x2.trans (v3.mono x2.size)
  replace d3 := d3.below v3
  replace y30 := below_cell v3 y30
  replace y31 := below_cell v3 y31
  replace y32 := below_cell v3 y32
  replace y33 := below_cell v3 y33
  replace m3 := Nat.lt_of_lt_of_le m3 v3.size
  replace d4 := d4.below v3
  replace y40 := below_cell v3 y40
  replace y41 := below_cell v3 y41
  replace y42 := below_cell v3 y42
  replace y43 := below_cell v3 y43
  replace m4 := Nat.lt_of_lt_of_le m4 v3.size
  replace d5 := d5.below v3
  replace y50 := below_cell v3 y50
  replace y51 := below_cell v3 y51
  replace y52 := below_cell v3 y52
  replace y53 := below_cell v3 y53
  replace m5 := Nat.lt_of_lt_of_le m5 v3.size
  clear d3 y30 y31 y32 y33 m3
  go_wp2_with fail
  go_at_call 18
  refine (nmCheck 8 3 10 exDs 2 rfl 3 (by decide +kernel) (by decide) (by decide +kernel) (some ⟨g4, 0, none⟩) 2 _ d4).mono ?_
  rintro e y4 ⟨rfl, e4⟩
  have v4 : Below y3.heap.size y3 y4 := by (repeat (first | exact Below.refl _ _ | refine Below.alloc ?_ (by first | omega | (simp; done) | (simp; omega)) _ | refine Below.drew ?_ | refine Below.setCell ?_ (by first | omega | (simp; done) | (simp; omega)) _ | refine Below.trans ?_ (Below.mono (by assumption) (by first | omega | (simp; done) | (simp; omega)))))
  have x4 : Below X6.heap.size X6 y4 := x3.trans (v4.mono x3.size)
  replace d4 := d4.below v4
  replace y40 := below_cell v4 y40
  replace y41 := below_cell v4 y41
  replace y42 := below_cell v4 y42
  replace y43 := below_cell v4 y43
  replace m4 := Nat.lt_of_lt_of_le m4 v4.size
  replace d5 := d5.below v4
  replace y50 := below_cell v4 y50
  replace y51 := below_cell v4 y51
  replace y52 := below_cell v4 y52
  replace y53 := below_cell v4 y53
  replace m5 := Nat.lt_of_lt_of_le m5 v4.size
  clear d4 y40 y41 y42 y43 m4
  go_wp2_with fail
  go_at_call 18
  refine (nmCheck 4 3 10 [⟨0, 10, 14, [0, 1, 2, 3, 0, 1]⟩, ⟨3, 7, 7, [2]⟩] 2 rfl 3 (by decide +kernel) (by decide) (by decide +kernel) (some ⟨g5, 0, none⟩) 2 _ d5).mono ?_
  rintro e y5 ⟨rfl, e5⟩
  have v5 : Below y4.heap.size y4 y5 := by (repeat (first | exact Below.refl _ _ | refine Below.alloc ?_ (by first | omega | (simp; done) | (simp; omega)) _ | refine Below.drew ?_ | refine Below.setCell ?_ (by first | omega | (simp; done) | (simp; omega)) _ | refine Below.trans ?_ (Below.mono (by assumption) (by first | omega | (simp; done) | (simp; omega)))))
  have x5 : Below X6.heap.size X6 y5 := x4.trans (v5.mono x4.size)
  replace d5 := d5.below v5
  replace y50 := below_cell v5 y50
  replace y51 := below_cell v5 y51
  replace y52 := below_cell v5 y52
  replace y53 := below_cell v5 y53
  replace m5 := Nat.lt_of_lt_of_le m5 v5.size
  clear d5 y50 y51 y52 y53 m5
  go_wp2_with fail
  go_at_call 18
  refine (nmCheck 0 0 0 [] 0 rfl 1 (by decide +kernel) (by decide) (by decide +kernel) none 0 _ (DisAt.nil _ _)).mono ?_
  rintro e y6 ⟨rfl, e6⟩
  have v6 : Below y5.heap.size y5 y6 := by (repeat (first | exact Below.refl _ _ | refine Below.alloc ?_ (by first | omega | (simp; done) | (simp; omega)) _ | refine Below.drew ?_ | refine Below.setCell ?_ (by first | omega | (simp; done) | (simp; omega)) _ | refine Below.trans ?_ (Below.mono (by assumption) (by first | omega | (simp; done) | (simp; omega)))))
  have x6 : Below X6.heap.size X6 y6 := x5.trans (v6.mono x5.size)
  go_wp2_with fail
  go_at_call 17
  refine (awake_any _).mono ?_
  rintro e y7 ⟨rfl, e7⟩
  have v7 : Below y6.heap.size y6 y7 := by (repeat (first | exact Below.refl _ _ | refine Below.alloc ?_ (by first | omega | (simp; done) | (simp; omega)) _ | refine Below.drew ?_ | refine Below.setCell ?_ (by first | omega | (simp; done) | (simp; omega)) _ | refine Below.trans ?_ (Below.mono (by assumption) (by first | omega | (simp; done) | (simp; omega)))))
  have x7 : Below X6.heap.size X6 y7 := x6.trans (v7.mono x6.size)
  go_wp2_with fail
  go_ret
  exact ⟨rfl, tX0.trans (x7.mono tX0.size)⟩
end Go.Proofs.Ytomjlmhnjgohdaa
