/- book, laws: tells -/
import Derived.Test.YticjeianiahppaaGreatDoorVi
namespace Go.Proofs.YticjeianiahppaaGreatDoor
set_option linter.unusedVariables false
set_option linter.unusedSimpArgs false
set_option linter.unnecessarySimpa false
open Go.RowKit Go.Flow
/-- What tells hands back, as one value. -/
def ToldV (E F G : Int) (X Y : List Int) (Z U : List (Int × Int)) (v : Value) (w : World) : Prop :=
  ∃ a1 c1 a2 c2 a3 c3 a4 c4, v = .agg #[.slice a1 X.length c1, .slice a2 Y.length c2, .slice a3 Z.length c3, .slice a4 U.length c4, .int .i64 E, .int .i64 F, .int .i64 G] ∧
    OwnL 3 1 0 w a1 c1 X.length (X.map (Value.int .i64)) ∧ OwnL 3 1 0 w a2 c2 Y.length (Y.map (Value.int .i64)) ∧ OwnL 70 2 0 w a3 c3 Z.length (Cps.flat2 Z) ∧ OwnL 103 2 0 w a4 c4 U.length (Pay.flat2 U)
theorem ToldV.kept {E F G : Int} {X Y : List Int} {Z U : List (Int × Int)} {v : Value} {w w' : World} (h : ToldV E F G X Y Z U v w) (hb : Below w.heap.size w w') : ToldV E F G X Y Z U v w' :=
  let ⟨a1, c1, a2, c2, a3, c3, a4, c4, h0, h1, h2, h3, h4⟩ := h
  ⟨a1, c1, a2, c2, a3, c3, a4, c4, h0, h1.kept hb, h2.kept hb, h3.kept hb, h4.kept hb⟩
/-- An own list lies in another block than cells of another type. -/
theorem OwnL.set {E T : TypeId} {size base : Nat} {w : World} {a : Option Addr} {c n : Nat} {xs : List Value} (h : OwnL E size base w a c n xs) {g : Nat} {cs : Array Value} (hc : Cells w g cs T) (hT : T ≠ E) (k : Nat) (u : Value) : OwnL E size base (w.setCell ⟨g, k, none⟩ u) a c n xs := by
  refine ownsRow_setCell_other h (fun e => ?_) u
  rcases h.2 with ⟨h1, _⟩ | ⟨g', cap, cur, hv, _, hg, _⟩
  · rw [h1] at e; simp [Value.ownBlock] at e
  · rw [hv] at e
    simp [Value.ownBlock] at e
    subst e
    have := (show w.heap[g']? = _ from hc).symm.trans hg
    simp at this
    exact hT this.2
theorem load_told {w : World} {b : Nat} {v0 v1 v2 v3 v4 v5 v6 : Value} {T : TypeId} (h : Cells w b #[v0, v1, v2, v3, v4, v5, v6] T) : (loadVar 117 ⟨b, 0, none⟩).run Tryz.prog w = .ok (.agg #[v0, v1, v2, v3, v4, v5, v6]) w := by
  have hi := Tryz.isAgg117
  have hz := Tryz.sizeOf117
  have k0 := h.cell 0
  have k1 := h.cell 1
  have k2 := h.cell 2
  have k3 := h.cell 3
  have k4 := h.cell 4
  have k5 := h.cell 5
  have k6 := h.cell 6
  simp at k0 k1 k2 k3 k4 k5 k6
  unfold loadVar
  go_simp
/-- .. laid in a block of its own. -/
def ToldAt (E F G : Int) (X Y : List Int) (Z U : List (Int × Int)) (w : World) (x : Nat) : Prop :=
  ∃ a1 c1 a2 c2 a3 c3 a4 c4, Cells w x #[.slice a1 X.length c1, .slice a2 Y.length c2, .slice a3 Z.length c3, .slice a4 U.length c4, .int .i64 E, .int .i64 F, .int .i64 G] 117 ∧
    OwnL 3 1 0 w a1 c1 X.length (X.map (Value.int .i64)) ∧ OwnL 3 1 0 w a2 c2 Y.length (Y.map (Value.int .i64)) ∧ OwnL 70 2 0 w a3 c3 Z.length (Cps.flat2 Z) ∧ OwnL 103 2 0 w a4 c4 U.length (Pay.flat2 U)
theorem set7 {w : World} {g : Nat} {T : TypeId} {z0 z1 z2 z3 z4 z5 z6 : Value} (h : Cells w g #[z0, z1, z2, z3, z4, z5, z6] T) (v0 v1 v2 v3 v4 v5 v6 : Value) : Cells (((((((w.setCell ⟨g, 0, none⟩ v0).setCell ⟨g, 1, none⟩ v1).setCell ⟨g, 2, none⟩ v2).setCell ⟨g, 3, none⟩ v3).setCell ⟨g, 4, none⟩ v4).setCell ⟨g, 5, none⟩ v5).setCell ⟨g, 6, none⟩ v6) g #[v0, v1, v2, v3, v4, v5, v6] T := by
  have := ((((((h.set 0 v0).set 1 v1).set 2 v2).set 3 v3).set 4 v4).set 5 v5).set 6 v6
  simpa using this
theorem other7 {w : World} {g g' : Nat} {T : TypeId} {cs : Array Value} (h : Cells w g cs T) (hne : g ≠ g') (v0 v1 v2 v3 v4 v5 v6 : Value) : Cells (((((((w.setCell ⟨g', 0, none⟩ v0).setCell ⟨g', 1, none⟩ v1).setCell ⟨g', 2, none⟩ v2).setCell ⟨g', 3, none⟩ v3).setCell ⟨g', 4, none⟩ v4).setCell ⟨g', 5, none⟩ v5).setCell ⟨g', 6, none⟩ v6) g cs T :=
  ((((((h.other hne 0 v0).other hne 1 v1).other hne 2 v2).other hne 3 v3).other hne 4 v4).other hne 5 v5).other hne 6 v6
theorem below7 {n g : Nat} {w0 w : World} (h : Below n w0 w) (hg : n ≤ g) (v0 v1 v2 v3 v4 v5 v6 : Value) : Below n w0 (((((((w.setCell ⟨g, 0, none⟩ v0).setCell ⟨g, 1, none⟩ v1).setCell ⟨g, 2, none⟩ v2).setCell ⟨g, 3, none⟩ v3).setCell ⟨g, 4, none⟩ v4).setCell ⟨g, 5, none⟩ v5).setCell ⟨g, 6, none⟩ v6) :=
  ((((((h.setCell (p := ⟨g, 0, none⟩) hg v0).setCell (p := ⟨g, 1, none⟩) hg v1).setCell (p := ⟨g, 2, none⟩) hg v2).setCell (p := ⟨g, 3, none⟩) hg v3).setCell (p := ⟨g, 4, none⟩) hg v4).setCell (p := ⟨g, 5, none⟩) hg v5).setCell (p := ⟨g, 6, none⟩) hg v6
theorem own7 {E T : TypeId} {size base : Nat} {w : World} {a : Option Addr} {c n : Nat} {xs : List Value} (h : OwnL E size base w a c n xs) {g : Nat} {cs : Array Value} (hc : Cells w g cs T) (hT : T ≠ E) (v0 v1 v2 v3 v4 v5 v6 : Value) : OwnL E size base (((((((w.setCell ⟨g, 0, none⟩ v0).setCell ⟨g, 1, none⟩ v1).setCell ⟨g, 2, none⟩ v2).setCell ⟨g, 3, none⟩ v3).setCell ⟨g, 4, none⟩ v4).setCell ⟨g, 5, none⟩ v5).setCell ⟨g, 6, none⟩ v6) a c n xs :=
  ((((((h.set hc hT 0 v0).set (hc.set 0 v0) hT 1 v1).set ((hc.set 0 v0).set 1 v1) hT 2 v2).set (((hc.set 0 v0).set 1 v1).set 2 v2) hT 3 v3).set ((((hc.set 0 v0).set 1 v1).set 2 v2).set 3 v3) hT 4 v4).set (((((hc.set 0 v0).set 1 v1).set 2 v2).set 3 v3).set 4 v4) hT 5 v5).set ((((((hc.set 0 v0).set 1 v1).set 2 v2).set 3 v3).set 4 v4).set 5 v5) hT 6 v6
set_option maxRecDepth 100000 in
set_option maxHeartbeats 4000000 in
theorem tells_any {E F G : Int} {X Y : List Int} {Z U : List (Int × Int)} (a : Option Addr) (c n : Nat) (l : List ByteArray) (w : World) (hE : exposedE l = E) (hF : copiesE l = F) (hG : owedE l = G) (hX : exposedL l = X) (hY : sureL l = Y) (hZ : spansL l = Z) (hU : owedL l = U) (en : l.length = n) (hl : StrsAt w a l) (hn : a = none → c = 0) (h50 : l.length ≤ 1000) (hv : Vars w) :
    Calls Tryz.prog 59 #[.slice a n c] w fun e w' => (∃ v, e = .returned v ∧ ToldV E F G X Y Z U v w') ∧ Below w.heap.size w w' := by
  subst en
  have ls := fun W (b : Below w.heap.size w W) => list_any a c l W (hl.below b) hn (by omega)
  have ex := fun W (b : Below w.heap.size w W) a' c' h => Exposed_new a' c' l W h (by omega) (hv.below b)
  have co := fun W (b : Below w.heap.size w W) a' c' h => Copies_new a' c' l W h (by omega) (hv.below b)
  have ow := fun W (b : Below w.heap.size w W) a' c' h => Owed_new a' c' l W h (by omega) (hv.below b)
  rw [hE, hX] at ex
  rw [hF, hZ, hY] at co
  rw [hG, hU] at ow
  clear hE hF hG hX hY hZ hU
  unfold RetIN at ex
  unfold CopPostN at co
  unfold RetRN at ow
  obtain ⟨Z0, hZ0⟩ : ∃ z : Array Value, z = #[.slice none 0 0, .slice none 0 0, .slice none 0 0, .slice none 0 0, .int .i64 0, .int .i64 0, .int .i64 0] := ⟨_, rfl⟩
  go_enter Tryz.func59, Tryz.ntmps59
  go_upto_region 2 with fail
  obtain ⟨W0, hW0⟩ : ∃ z : World, z = (w.alloc (.cells #[.slice none 0 0, .slice none 0 0, .slice none 0 0, .slice none 0 0, .int .i64 0, .int .i64 0, .int .i64 0] 117)).alloc (.cells #[.slice none 0 0, .slice none 0 0, .slice none 0 0, .slice none 0 0, .int .i64 0, .int .i64 0, .int .i64 0] 117) := ⟨_, rfl⟩
  have b0 : Below w.heap.size w W0 := by rw [hW0]; exact ((Below.refl _ _).alloc (Nat.le_refl _) _).alloc (by simp) _
  have R0 : Cells W0 w.heap.size #[.slice none 0 0, .slice none 0 0, .slice none 0 0, .slice none 0 0, .int .i64 0, .int .i64 0, .int .i64 0] 117 := by rw [hW0]; exact (Cells.new _ _ _).alloc _
  have C0 : Cells W0 (w.heap.size + 1) #[.slice none 0 0, .slice none 0 0, .slice none 0 0, .slice none 0 0, .int .i64 0, .int .i64 0, .int .i64 0] 117 := by rw [hW0]; exact Cells.new' _ _ _ _ (by simp)
  rw [← hW0]
  clear hW0 hZ0
  obtain ⟨g, hg⟩ : ∃ g, g = w.heap.size + 1 := ⟨_, rfl⟩
  rw [← hg] at C0 ⊢
  have hgw : w.heap.size ≤ g := by omega
  have hne : w.heap.size ≠ g := by omega
  clear hg
  have k0 := C0.cell 0
  have k4 := C0.cell 4
  simp at k0 k4
  have lC := C0.lt
  go_wp2_with fail
  go_at_call 38
  refine (ls W0 b0).mono ?_
  rintro e W1 ⟨⟨a1, c1, rfl, o1⟩, b1⟩
  have t1 := b0.trans (b1.mono b0.size)
  replace C0 := C0.below b1
  replace R0 := R0.below b1
  go_wp2_with fail
  go_at_call 45
  refine (ex W1 t1 a1 c1 o1.strs).mono ?_
  rintro e W2 ⟨⟨a2, c2, rfl, o2⟩, b2⟩
  replace o2 := o2.base_le (Nat.zero_le _)
  have t2 := t1.trans (b2.mono t1.size)
  replace C0 := C0.below b2
  replace R0 := R0.below b2
  clear k0 k4 lC o1
  have k0 := C0.cell 0
  have k4 := C0.cell 4
  simp at k0 k4
  have lC := C0.lt
  have f0 := C0.frozen 0
  have f4 := C0.frozen 4
  go_upto_region 3 with fail
  obtain ⟨W3, hW3⟩ : ∃ z : World, z = (W2.setCell ⟨g, 0, none⟩ (.slice a2 X.length c2)).setCell ⟨g, 4, none⟩ (.int .i64 E) := ⟨_, rfl⟩
  have C3 : Cells W3 g #[.slice a2 X.length c2, .slice none 0 0, .slice none 0 0, .slice none 0 0, .int .i64 E, .int .i64 0, .int .i64 0] 117 := by rw [hW3]; simpa using (C0.set 0 (.slice a2 X.length c2)).set 4 (.int .i64 E)
  have R3 := by simpa using (R0.other hne 0 (.slice a2 X.length c2)).other hne 4 (.int .i64 E)
  replace o2 := (o2.set C0 (by decide) 0 (.slice a2 X.length c2)).set (C0.set 0 (.slice a2 X.length c2)) (by decide) 4 (.int .i64 E)
  have t3 := (t2.setCell (p := ⟨g, 0, none⟩) hgw (.slice a2 X.length c2)).setCell (p := ⟨g, 4, none⟩) hgw (.int .i64 E)
  rw [← hW3] at R3 o2 t3 ⊢
  clear hW3 C0 R0 t1 t2 b0 b1 b2 k0 k4 lC f0 f4 ex W0 W1 W2
  have k1 := C3.cell 1
  have k2 := C3.cell 2
  have k5 := C3.cell 5
  simp at k1 k2 k5
  have lC := C3.lt
  go_wp2_with fail
  go_at_call 38
  refine (ls W3 t3).mono ?_
  rintro e W4 ⟨⟨a4, c4, rfl, o4⟩, b4⟩
  have t4 := t3.trans (b4.mono t3.size)
  replace C3 := C3.below b4
  replace R3 := R3.below b4
  replace o2 := o2.kept b4
  go_wp2_with fail
  go_at_call 29
  refine (co W4 t4 a4 c4 o4.strs).mono ?_
  rintro e W5 ⟨⟨a5, c5, a6, c6, rfl, o5, o6⟩, b5⟩
  replace o5 := o5.base_le (Nat.zero_le _)
  replace o6 := o6.base_le (Nat.zero_le _)
  have t5 := t4.trans (b5.mono t4.size)
  replace C3 := C3.below b5
  replace R3 := R3.below b5
  replace o2 := o2.kept b5
  clear k1 k2 k5 lC o4 b4 b5 t3 t4
  have k1 := C3.cell 1
  have k2 := C3.cell 2
  have k5 := C3.cell 5
  simp at k1 k2 k5
  have lC := C3.lt
  have f0 := C3.frozen 2
  have f1 := C3.frozen 1
  have f4 := C3.frozen 5
  go_upto_region 4 with fail
  obtain ⟨W6, hW6⟩ : ∃ z : World, z = ((W5.setCell ⟨g, 2, none⟩ (.slice a5 Z.length c5)).setCell ⟨g, 1, none⟩ (.slice a6 Y.length c6)).setCell ⟨g, 5, none⟩ (.int .i64 F) := ⟨_, rfl⟩
  have C6 : Cells W6 g #[.slice a2 X.length c2, .slice a6 Y.length c6, .slice a5 Z.length c5, .slice none 0 0, .int .i64 E, .int .i64 F, .int .i64 0] 117 := by rw [hW6]; simpa using ((C3.set 2 (.slice a5 Z.length c5)).set 1 (.slice a6 Y.length c6)).set 5 (.int .i64 F)
  have R6 := ((R3.other hne 2 (.slice a5 Z.length c5)).other hne 1 (.slice a6 Y.length c6)).other hne 5 (.int .i64 F)
  have own3 : ∀ {T : TypeId} {size base : Nat} {a : Option Addr} {c n : Nat} {xs : List Value}, OwnL T size base W5 a c n xs → 117 ≠ T → OwnL T size base (((W5.setCell ⟨g, 2, none⟩ (.slice a5 Z.length c5)).setCell ⟨g, 1, none⟩ (.slice a6 Y.length c6)).setCell ⟨g, 5, none⟩ (.int .i64 F)) a c n xs := fun h hT => ((h.set C3 hT _ _).set (C3.set 2 (.slice a5 Z.length c5)) hT _ _).set ((C3.set 2 (.slice a5 Z.length c5)).set 1 (.slice a6 Y.length c6)) hT _ _
  replace o2 := own3 o2 (by decide)
  replace o5 := own3 o5 (by decide)
  replace o6 := own3 o6 (by decide)
  have t6 := ((t5.setCell (p := ⟨g, 2, none⟩) hgw (.slice a5 Z.length c5)).setCell (p := ⟨g, 1, none⟩) hgw (.slice a6 Y.length c6)).setCell (p := ⟨g, 5, none⟩) hgw (.int .i64 F)
  rw [← hW6] at R6 o2 o5 o6 t6 ⊢
  clear hW6 own3 C3 R3 t5 k1 k2 k5 lC f0 f1 f4 co W5 W4 W3
  have k3 := C6.cell 3
  have k6 := C6.cell 6
  simp at k3 k6
  have lC := C6.lt
  go_wp2_with fail
  go_at_call 38
  refine (ls W6 t6).mono ?_
  rintro e W7 ⟨⟨a7, c7, rfl, o7⟩, b7⟩
  have t7 := t6.trans (b7.mono t6.size)
  replace C6 := C6.below b7
  replace R6 := R6.below b7
  replace o2 := o2.kept b7
  replace o5 := o5.kept b7
  replace o6 := o6.kept b7
  go_wp2_with fail
  go_at_call 50
  refine (ow W7 t7 a7 c7 o7.strs).mono ?_
  rintro e W8 ⟨⟨a8, c8, rfl, o8⟩, b8⟩
  replace o8 := o8.base_le (Nat.zero_le _)
  have t8 := t7.trans (b8.mono t7.size)
  replace C6 := C6.below b8
  replace R6 := R6.below b8
  replace o2 := o2.kept b8
  replace o5 := o5.kept b8
  replace o6 := o6.kept b8
  clear k3 k6 lC o7 b7 b8 t6 t7
  have k3 := C6.cell 3
  have k6 := C6.cell 6
  simp at k3 k6
  have lC := C6.lt
  have f0 := C6.frozen 3
  have f4 := C6.frozen 6
  go_upto_region 5 with fail
  obtain ⟨W9, hW9⟩ : ∃ z : World, z = (W8.setCell ⟨g, 3, none⟩ (.slice a8 U.length c8)).setCell ⟨g, 6, none⟩ (.int .i64 G) := ⟨_, rfl⟩
  have C9 : Cells W9 g #[.slice a2 X.length c2, .slice a6 Y.length c6, .slice a5 Z.length c5, .slice a8 U.length c8, .int .i64 E, .int .i64 F, .int .i64 G] 117 := by rw [hW9]; simpa using (C6.set 3 (.slice a8 U.length c8)).set 6 (.int .i64 G)
  have R9 := (R6.other hne 3 (.slice a8 U.length c8)).other hne 6 (.int .i64 G)
  have own2 : ∀ {T : TypeId} {size base : Nat} {a : Option Addr} {c n : Nat} {xs : List Value}, OwnL T size base W8 a c n xs → 117 ≠ T → OwnL T size base ((W8.setCell ⟨g, 3, none⟩ (.slice a8 U.length c8)).setCell ⟨g, 6, none⟩ (.int .i64 G)) a c n xs := fun h hT => (h.set C6 hT _ _).set (C6.set 3 (.slice a8 U.length c8)) hT _ _
  replace o2 := own2 o2 (by decide)
  replace o5 := own2 o5 (by decide)
  replace o6 := own2 o6 (by decide)
  replace o8 := own2 o8 (by decide)
  have t9 := (t8.setCell (p := ⟨g, 3, none⟩) hgw (.slice a8 U.length c8)).setCell (p := ⟨g, 6, none⟩) hgw (.int .i64 G)
  rw [← hW9] at R9 o2 o5 o6 o8 t9 ⊢
  clear hW9 own2 C6 R6 t8 k3 k6 lC f0 f4 ow W8 W7 W6
  have k0 := C9.cell 0
  have k1 := C9.cell 1
  have k2 := C9.cell 2
  have k3 := C9.cell 3
  have k4 := C9.cell 4
  have k5 := C9.cell 5
  have k6 := C9.cell 6
  have m0 := R9.cell 0
  have m1 := R9.cell 1
  have m2 := R9.cell 2
  have m3 := R9.cell 3
  have m4 := R9.cell 4
  have m5 := R9.cell 5
  have m6 := R9.cell 6
  simp at k0 k1 k2 k3 k4 k5 k6 m0 m1 m2 m3 m4 m5 m6
  have lC := C9.lt
  have lR := R9.lt
  have f0 := R9.frozen 0
  have f1 := R9.frozen 1
  have f2 := R9.frozen 2
  have f3 := R9.frozen 3
  have f4 := R9.frozen 4
  have f5 := R9.frozen 5
  have f6 := R9.frozen 6
  go_wp2_with fail
  have lf := load_told (set7 R9 (.slice a2 X.length c2) (.slice a6 Y.length c6) (.slice a5 Z.length c5) (.slice a8 U.length c8) (.int .i64 E) (.int .i64 F) (.int .i64 G))
  refine bodyPost_ret (results_cell1 rfl rfl lf) rfl ⟨⟨_, rfl, _, _, _, _, _, _, _, _, rfl, own7 o2 R9 (by decide) _ _ _ _ _ _ _, own7 o6 R9 (by decide) _ _ _ _ _ _ _, own7 o5 R9 (by decide) _ _ _ _ _ _ _, own7 o8 R9 (by decide) _ _ _ _ _ _ _⟩, below7 t9 (Nat.le_refl _) _ _ _ _ _ _ _⟩
end Go.Proofs.YticjeianiahppaaGreatDoor
