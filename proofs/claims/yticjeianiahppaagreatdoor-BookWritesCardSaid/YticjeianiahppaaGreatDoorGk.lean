/- book: headIn; bytes as strings -/
import Derived.Test.YticjeianiahppaaGreatDoorGj
import Derived.Test.YticjeianiahppaaGreatDoorGe
import Derived.Laws.BytesArg
namespace Go.Proofs.YticjeianiahppaaGreatDoor
set_option linter.unusedVariables false
set_option linter.unusedSimpArgs false
set_option linter.unnecessarySimpa false
open Go.RowKit Go.Flow
theorem conv_str (w : World) (a : Option Addr) (c n : Nat) (L : List UInt8) (en : L.length = n) (h : SrcAt w a (zDB L)) : (convert 128 9 (.slice a n c)).run Tryz.prog w = .ok (.string ⟨L.toArray⟩) w := by
  subst en
  cases a with
  | none =>
    cases L with
    | nil => exact run_convert_bytes_nil w 128 5 Tryz.underlying128 Tryz.underlying5 _ _ 9 Tryz.underlying9
    | cons x l =>
      obtain ⟨b, off, e, _⟩ := h 0 (.int .u8 (x.toNat : Int)) rfl
      cases e
  | some p =>
    refine run_convert_bytes_back w 128 9 5 p c L Tryz.underlying128 Tryz.underlying5 Tryz.underlying9 fun j hj => ?_
    obtain ⟨b, off, e, hc⟩ := h j (.int .u8 (L[j].toNat : Int)) (by unfold zDB; rw [List.getElem?_map, List.getElem?_eq_getElem hj]; rfl)
    obtain rfl := Option.some.inj e
    rw [addr_add]; exact hc
theorem src_sub {w : World} {b off : Nat} {L : List UInt8} (h : SrcAt w (some ⟨b, off, none⟩) (zDB L)) (i j : Nat) : SrcAt w (some ⟨b, off + i, none⟩) (zDB ((L.drop i).take j)) := fun k u hu => by
  have hk : k < ((L.drop i).take j).length := by have := (List.getElem?_eq_some_iff.1 hu).1; simpa [zDB] using this
  rw [List.length_take, List.length_drop] at hk
  obtain ⟨b', off', e, hc⟩ := h (i + k) u (by
    rw [← hu]
    unfold zDB
    rw [List.getElem?_map, List.getElem?_map, List.getElem?_take_of_lt (by omega), List.getElem?_drop])
  simp only [Option.some.injEq, Addr.mk.injEq, and_true] at e
  obtain ⟨rfl, rfl⟩ := e
  exact ⟨b, off + i, rfl, by rw [Nat.add_assoc]; exact hc⟩
theorem src_addr {w : World} {a : Option Addr} {L : List UInt8} (h : SrcAt w a (zDB L)) (hL : 0 < L.length) : ∃ b off, a = some ⟨b, off, none⟩ ∧ b < w.heap.size := by
  obtain ⟨b, off, e, hc⟩ := src_byte h 0 hL
  exact ⟨b, off, e, zBl hc⟩
/-- What Atoi hands back. -/
def AtoV (x : Lib.NumEnd Int) (v : Value) (_ : World) : Prop := (∃ n, x = .ok n ∧ v = .tuple #[.int .i64 n, .nilIface]) ∨ ((∀ n, x ≠ .ok n) ∧ ∃ n N, v = .tuple #[.int .i64 n, .iface 389 (.pointer (some ⟨N, 0, none⟩))])
def AtoN (x : Lib.NumEnd Int) (v : Value) (_ : World) : Prop := (∃ n, x = .ok n ∧ v = .int .i64 n) ∨ ((∀ n, x ≠ .ok n) ∧ ∃ n, v = .int .i64 n)
def AtoE (x : Lib.NumEnd Int) (v : Value) (_ : World) : Prop := (∃ n, x = .ok n ∧ v = .nilIface) ∨ ((∀ n, x ≠ .ok n) ∧ ∃ N, v = .iface 389 (.pointer (some ⟨N, 0, none⟩)))
theorem atoi_any (s : ByteArray) (hs : s.size < 4294967281) (x : Lib.NumEnd Int) (hx : Hid (Lib.atoiAll s.data.toList = x)) (w : World) (hv : Vars w) : Calls Tryz.prog 235 #[.string s] w fun e w' => (∃ v, e = .returned v ∧ AtoV x v w') ∧ Below w.heap.size w w' := by
  rcases x with v | _ | _
  · refine (zPf s v hs hx w).mono ?_
    rintro e w' ⟨rfl, b⟩
    exact ⟨⟨_, rfl, .inl ⟨v, rfl, rfl⟩⟩, b⟩
  all_goals
    refine (zO3 s hs (fun v h => by rw [hx.out] at h; cases h) w hv).mono ?_
    rintro e w' ⟨⟨n, N, rfl⟩, b⟩
    exact ⟨⟨_, rfl, .inr ⟨(fun n h => by cases h), n, N, rfl⟩⟩, b⟩
set_option maxRecDepth 100000 in
set_option maxHeartbeats 4000000 in
theorem headIn_any (a : Option Addr) (c n : Nat) (L : List UInt8) (w : World) (en : L.length = n) (ha : SrcAt w a (zDB L)) (h9 : 9 ≤ n) (hm : n ≤ 100000) (hc : n ≤ c) (hv : Vars w) :
    Calls Tryz.prog 180 #[.slice a n c] w fun e w' => e = .returned (.agg #[.int .i64 (headF L).1, .int .i64 (headF L).2]) ∧ Below w.heap.size w w' := by
  obtain ⟨b, off, rfl, lb⟩ := src_addr ha (by omega)
  have s1 : ∀ W, Below w.heap.size w W → SrcAt W (some ⟨b, off, none⟩) (zDB (L.take 2)) := fun W h => zAO (by have := src_sub ha 0 2; simpa using this) h
  have s2 : ∀ W, Below w.heap.size w W → SrcAt W (some ⟨b, off + 3, none⟩) (zDB ((L.drop 3).take 5)) := fun W h => zAO (src_sub ha 3 5) h
  have e1 : (L.take 2).length = 2 := by rw [List.length_take]; omega
  have e2 : ((L.drop 3).take 5).length = 5 := by rw [List.length_take, List.length_drop]; omega
  have v1 := fun W h c => conv_str W (some ⟨b, off, none⟩) c 2 (L.take 2) e1 (s1 W h)
  have v2 := fun W h c => conv_str W (some ⟨b, off + 3, none⟩) c 5 ((L.drop 3).take 5) e2 (s2 W h)
  have hF : headF L = match Lib.atoiAll (L.take 2), Lib.atoiAll ((L.drop 3).take 5) with
    | .ok n, .ok c => (n, c)
    | _, _ => (-1, 0) := rfl
  obtain ⟨x1, hx1⟩ : ∃ x : ByteArray, x = ⟨(L.take 2).toArray⟩ := ⟨_, rfl⟩
  obtain ⟨x2, hx2⟩ : ∃ x : ByteArray, x = ⟨((L.drop 3).take 5).toArray⟩ := ⟨_, rfl⟩
  rw [← hx1] at v1
  rw [← hx2] at v2
  have q1 : x1.data.toList = L.take 2 := by rw [hx1]
  have q2 : x2.data.toList = (L.drop 3).take 5 := by rw [hx2]
  have z1 : x1.size < 4294967281 := by rw [hx1]; show (L.take 2).toArray.size < _; simp; omega
  have z2 : x2.size < 4294967281 := by rw [hx2]; show ((L.drop 3).take 5).toArray.size < _; simp; omega
  rw [← q1, ← q2] at hF
  obtain ⟨y1, hy1⟩ : ∃ x, Lib.atoiAll x1.data.toList = x := ⟨_, rfl⟩
  obtain ⟨y2, hy2⟩ : ∃ x, Lib.atoiAll x2.data.toList = x := ⟨_, rfl⟩
  rw [hy1, hy2] at hF
  have a1 := fun W (h : Below w.heap.size w W) => atoi_any x1 z1 y1 (Lib.hid hy1) W (hv.below h)
  have a2 := fun W (h : Below w.heap.size w W) => atoi_any x2 z2 y2 (Lib.hid hy2) W (hv.below h)
  replace hF := Lib.hid hF
  clear hx1 hx2 q1 q2 z1 z2 hy1 hy2 s1 s2 e1 e2 ha
  go_enter Tryz.func180, Tryz.ntmps180
  go_wp2_with fail
  go_at_call 232
  refine (zGR _).mono ?_
  rintro e W1 ⟨rfl, b1⟩
  go_upto_region 2 with fail
  obtain ⟨W2, hW2⟩ : ∃ z : World, z = W1.alloc (.cells #[.int .i64 2, .int .i64 5] 332) := ⟨_, rfl⟩
  have b0 : Below w.heap.size w (w.alloc (.cells #[.int .i64 0, .int .i64 0] 296)) := Joins.below_alloc1 _ _
  have b2 : Below W1.heap.size W1 W2 := by rw [hW2]; exact Joins.below_alloc1 _ _
  have t1 := b0.trans (b1.mono b0.size)
  have t2 := t1.trans (b2.mono t1.size)
  have R2 : Cells W2 w.heap.size #[.int .i64 0, .int .i64 0] 296 := ((Cells.new _ _ _).below b1).below b2
  have C2 : Cells W2 W1.heap.size #[.int .i64 2, .int .i64 5] 332 := by rw [hW2]; exact Cells.new _ _ _
  rw [← hW2]
  clear hW2 b0 b1 b2 t1
  generalize W1.heap.size = g at C2 ⊢
  have k0 := C2.cell 0
  simp at k0
  have lC := C2.lt
  have u1 := v1 W2 t2
  have hc2 : (2 : Int) ≤ (c : Int) := by omega
  go_wp2_with fail
  go_at_call 235
  refine (a1 W2 t2).mono ?_
  rintro e W3 ⟨⟨v, rfl, hA⟩, b3⟩
  have t3 := t2.trans (b3.mono t2.size)
  have R3 := R2.below b3
  have C3 := C2.below b3
  clear u1 k0 lC R2 C2 b3 t2 a1 v1
  have k0 := C3.cell 0
  simp at k0
  have lC := C3.lt
  have lR := R3.lt
  have u2 := fun (e : Ext W3) c => v2 e.to (t3.trans (e.below.mono t3.size)) c
  have a3 := fun W (b : Below W3.heap.size W3 W) => a2 W (t3.trans (b.mono t3.size))
  have h8 : (8 : Int) ≤ (c : Int) := by omega
  have w8 : IntKind.i64.wrap 8 = 8 := by decide
  have w3 : IntKind.i64.wrap 3 = 3 := by decide
  have c3 : ¬ c = 3 := by omega
  rcases hA with ⟨n1, rfl, rfl⟩ | ⟨hbad, n1, N1, rfl⟩
  · go_upto_region 3 with fail
    (refine zAD 13 [] [13] 40 [true, true, true, true, true, true, true, true, false, false, false, false, false] [AtoV y2, AtoV y2, AtoN y2, AtoE y2, AtoN y2] (by kernel_rfl) (by kernel_rfl) rfl (zAB (fun v w w' h hb => h) (zAB (fun v w w' h hb => h) (zAB (fun v w w' h hb => h) (zAB (fun v w w' h hb => h) (zAB (fun v w w' h hb => h) zAR))))) ?_; simp only [zAU, List.filterMap_cons, List.filterMap_nil, List.getElem?_toArray, List.getElem?_cons_succ, List.getElem?_cons_zero]; (repeat (refine zAM _ rfl (fun w => (by go_simp; rfl)) ?_)); refine zAS ?_; simp only [zAF, zAt, Act.put, List.setIfInBounds_toArray, List.set_cons_zero, List.set_cons_succ, List.take_succ_cons, List.take_zero, List.drop_succ_cons, List.drop_zero]; (repeat (refine zAL (fun K hK => ?_); go_simp; first | (refine hK _ ?_; clear hK K) | (apply Exists.intro; refine ⟨fun ex => ?_, hK _ ?_⟩; ((go_at_call 179; exact zGo _)); clear hK K))); refine zAQ ?_; simp only [zAT, under, zAZ, and_true, List.nil_append, List.cons_append])
    refine ⟨⟨?_, ?_, ?_, ?_, ?_⟩, ?_⟩
    · intro e
      go_simp
      refine (a3 e.to e.below).mono ?_
      rintro _ _ ⟨⟨v, rfl, hT⟩, b⟩
      exact ⟨b, hT⟩
    · intro e v1 h1
      have h := h1 (by kernel_rfl)
      go_simp
      first | exact Below.refl _ _ | exact ⟨Below.refl _ _, h⟩
    · intro e v1 h1 v2 h2
      rcases h2 (by kernel_rfl) with ⟨n, e1, rfl⟩ | ⟨hb, n, N, rfl⟩
      · go_simp
        exact ⟨Below.refl _ _, .inl ⟨n, by first | exact e1 | rfl, rfl⟩⟩
      · go_simp
        exact ⟨Below.refl _ _, .inr ⟨hb, n, rfl⟩⟩
    · intro e v1 h1 v2 h2 v3 h3
      rcases h2 (by kernel_rfl) with ⟨n, e1, rfl⟩ | ⟨hb, n, N, rfl⟩
      · go_simp
        exact ⟨Below.refl _ _, .inl ⟨n, by first | exact e1 | rfl, rfl⟩⟩
      · go_simp
        exact ⟨Below.refl _ _, .inr ⟨hb, N, rfl⟩⟩
    · intro e v1 h1 v2 h2 v3 h3 v4 h4
      have h := h3 (by kernel_rfl)
      go_simp
      first | exact Below.refl _ _ | exact ⟨Below.refl _ _, h⟩
    intro e
    rintro v1 - v2 - v5 - v4 h4 v3 h3
    replace h3 : AtoN y2 v3 w := h3
    replace h4 : AtoE y2 v4 w := h4
    simp only [Act.put, List.setIfInBounds_toArray, List.set_cons_zero, List.set_cons_succ]
    have heb := e.below
    obtain ⟨W5, hW5⟩ : ∃ x : World, x = e.to := ⟨_, rfl⟩
    rw [← hW5] at heb ⊢
    clear hW5 e a3 u2
    have R5 := R3.below heb
    have t5 := t3.trans (heb.mono t3.size)
    have m0 := R5.cell 0
    have m1 := R5.cell 1
    simp at m0 m1
    have lR5 := R5.lt
    have f0 := R5.frozen 0
    have f1 := R5.frozen 1
    rcases h3 with ⟨n2, e2, rfl⟩ | ⟨hb, n2, rfl⟩
    · rcases h4 with ⟨n3, e3, rfl⟩ | ⟨hb, N3, rfl⟩
      rotate_left
      · exact absurd e2 (hb _)
      subst e2
      go_wp2_with fail
      have lf := zMW (v0 := .int .i64 n1) (v1 := .int .i64 n2) (T := 296) (by simpa using (R5.set 0 (.int .i64 n1)).set 1 (.int .i64 n2))
      exact bodyPost_ret (zBR rfl rfl lf) rfl ⟨by rw [hF.out], (t5.setCell (p := ⟨w.heap.size, 0, none⟩) (Nat.le_refl _) _).setCell (p := ⟨w.heap.size, 1, none⟩) (Nat.le_refl _) _⟩
    · rcases h4 with ⟨n3, e3, rfl⟩ | ⟨hb, N3, rfl⟩
      · exact absurd e3 (hb _)
      have hF2 : Hid (headF L = (-1, 0)) := Lib.hid (by rw [hF.out]; cases y2 with | ok v => exact absurd rfl (hb v) | _ => rfl)
      go_wp2_with fail
      have lf := zMW (v0 := .int .i64 (-1)) (v1 := .int .i64 0) (T := 296) (by simpa using (R5.set 0 (.int .i64 (-1))).set 1 (.int .i64 0))
      exact bodyPost_ret (zBR rfl rfl lf) rfl ⟨by rw [hF2.out], (t5.setCell (p := ⟨w.heap.size, 0, none⟩) (Nat.le_refl _) _).setCell (p := ⟨w.heap.size, 1, none⟩) (Nat.le_refl _) _⟩
  · have hF2 : Hid (headF L = (-1, 0)) := Lib.hid (by rw [hF.out]; cases y1 with | ok v => exact absurd rfl (hbad v) | _ => rfl)
    go_upto_region 3 with fail
    (refine zAD 13 [] [13] 40 [true, true, true, true, true, true, true, true, false, false, false, false, false] [AtoV y2, AtoV y2, AtoN y2, AtoE y2, AtoN y2] (by kernel_rfl) (by kernel_rfl) rfl (zAB (fun v w w' h hb => h) (zAB (fun v w w' h hb => h) (zAB (fun v w w' h hb => h) (zAB (fun v w w' h hb => h) (zAB (fun v w w' h hb => h) zAR))))) ?_; simp only [zAU, List.filterMap_cons, List.filterMap_nil, List.getElem?_toArray, List.getElem?_cons_succ, List.getElem?_cons_zero]; (repeat (refine zAM _ rfl (fun w => (by go_simp; rfl)) ?_)); refine zAS ?_; simp only [zAF, zAt, Act.put, List.setIfInBounds_toArray, List.set_cons_zero, List.set_cons_succ, List.take_succ_cons, List.take_zero, List.drop_succ_cons, List.drop_zero]; (repeat (refine zAL (fun K hK => ?_); go_simp; first | (refine hK _ ?_; clear hK K) | (apply Exists.intro; refine ⟨fun ex => ?_, hK _ ?_⟩; ((go_at_call 179; exact zGo _)); clear hK K))); refine zAQ ?_; simp only [zAT, under, zAZ, and_true, List.nil_append, List.cons_append])
    refine ⟨⟨?_, ?_, ?_, ?_, ?_⟩, ?_⟩
    · intro e
      go_simp
      refine (a3 e.to e.below).mono ?_
      rintro _ _ ⟨⟨v, rfl, hT⟩, b⟩
      exact ⟨b, hT⟩
    · intro e v1 h1
      have h := h1 (by kernel_rfl)
      go_simp
      first | exact Below.refl _ _ | exact ⟨Below.refl _ _, h⟩
    · intro e v1 h1 v2 h2
      rcases h2 (by kernel_rfl) with ⟨n, e1, rfl⟩ | ⟨hb, n, N, rfl⟩
      · go_simp
        exact ⟨Below.refl _ _, .inl ⟨n, by first | exact e1 | rfl, rfl⟩⟩
      · go_simp
        exact ⟨Below.refl _ _, .inr ⟨hb, n, rfl⟩⟩
    · intro e v1 h1 v2 h2 v3 h3
      rcases h2 (by kernel_rfl) with ⟨n, e1, rfl⟩ | ⟨hb, n, N, rfl⟩
      · go_simp
        exact ⟨Below.refl _ _, .inl ⟨n, by first | exact e1 | rfl, rfl⟩⟩
      · go_simp
        exact ⟨Below.refl _ _, .inr ⟨hb, N, rfl⟩⟩
    · intro e v1 h1 v2 h2 v3 h3 v4 h4
      have h := h3 (by kernel_rfl)
      go_simp
      first | exact Below.refl _ _ | exact ⟨Below.refl _ _, h⟩
    intro e
    rintro v1 - v2 - v5 - v4 h4 v3 h3
    replace h3 : AtoN y2 v3 w := h3
    replace h4 : AtoE y2 v4 w := h4
    simp only [Act.put, List.setIfInBounds_toArray, List.set_cons_zero, List.set_cons_succ]
    have heb := e.below
    obtain ⟨W5, hW5⟩ : ∃ x : World, x = e.to := ⟨_, rfl⟩
    rw [← hW5] at heb ⊢
    clear hW5 e a3 u2
    have R5 := R3.below heb
    have t5 := t3.trans (heb.mono t3.size)
    have m0 := R5.cell 0
    have m1 := R5.cell 1
    simp at m0 m1
    have lR5 := R5.lt
    have f0 := R5.frozen 0
    have f1 := R5.frozen 1
    have hx : (∃ n2, v3 = .int .i64 n2) ∧ (v4 = .nilIface ∨ ∃ N, v4 = .iface 389 (.pointer (some ⟨N, 0, none⟩))) := by
      constructor
      · rcases h3 with ⟨n2, _, rfl⟩ | ⟨_, n2, rfl⟩ <;> exact ⟨_, rfl⟩
      · rcases h4 with ⟨n2, _, rfl⟩ | ⟨_, N2, rfl⟩
        · exact .inl rfl
        · exact .inr ⟨_, rfl⟩
    clear h3 h4
    obtain ⟨⟨n2, rfl⟩, rfl | ⟨N2, rfl⟩⟩ := hx
    all_goals
      go_wp2_with fail
      have lf := zMW (v0 := .int .i64 (-1)) (v1 := .int .i64 0) (T := 296) (by simpa using (R5.set 0 (.int .i64 (-1))).set 1 (.int .i64 0))
      exact bodyPost_ret (zBR rfl rfl lf) rfl ⟨by rw [hF2.out], (t5.setCell (p := ⟨w.heap.size, 0, none⟩) (Nat.le_refl _) _).setCell (p := ⟨w.heap.size, 1, none⟩) (Nat.le_refl _) _⟩
end Go.Proofs.YticjeianiahppaaGreatDoor
