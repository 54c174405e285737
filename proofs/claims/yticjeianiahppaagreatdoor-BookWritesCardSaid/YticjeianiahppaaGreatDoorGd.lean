/- book, laws: equal results are found equal (texts, days, spans, owed) -/
import Derived.Test.YticjeianiahppaaGreatDoorVi
namespace Go.Proofs.YticjeianiahppaaGreatDoor
set_option linter.unusedVariables false
set_option linter.unusedSimpArgs false
set_option linter.unnecessarySimpa false
open Go.RowKit Go.Flow
set_option maxRecDepth 100000 in
set_option maxHeartbeats 4000000 in
theorem texts_same (a b : Option Addr) (c d : Nat) (x : List ByteArray) (w : World) (hx : zAs w a x) (hy : zAs w b x) (h : x.length ≤ 1000) :
    Calls Tryz.prog 69 #[.slice a x.length c, .slice b x.length d] w fun e w' => e = .returned (.bool true) ∧ Below w.heap.size w w' := by
  go_enter Tryz.func69, Tryz.ntmps69
  go_wp2_with fail
  go_loopw [5] (fun i X => ∃ k : Nat, k ≤ x.length ∧ i = .int .i64 k ∧ Below w.heap.size w X) (fun i _ => x.length - (intOf i).toNat)
  case atStart => exact ⟨0, Nat.zero_le _, rfl, Below.refl _ _⟩
  case round =>
    obtain ⟨k, hk, rfl, hb⟩ := hrel
    by_cases hlt : k < x.length
    · have hkI : (k : Int) < (x.length : Int) := by omega
      have hk0 : (0 : Int) ≤ (k : Int) := by omega
      have iw : IntKind.i64.wrap ((k : Int) + 1) = (k : Int) + 1 := IntWalk.i64_in _ (by omega)
      obtain ⟨b1, f1, rfl, l1, c1⟩ := (hx.below hb) k hlt
      obtain ⟨b2, f2, rfl, l2, c2⟩ := (hy.below hb) k hlt
      generalize x[k] = u at c1 c2
      go_upto_region 6 with fail
      (refine zAC 9 (by kernel_rfl) (by kernel_rfl) ?_; simp only [List.take_succ_cons, List.take_zero, List.drop_succ_cons, List.drop_zero]; (repeat (go_big_quiet_step ((fail)))); refine wpQuiet_nil ?_; rintro _ ⟨ex, rfl⟩; have hex := ex.below; have hexz := ex.size; (try simp at hexz); (try (have hy0 : w.heap.size < ex.to.heap.size := by omega)); (try (have hy1 : w.heap.size + 1 < ex.to.heap.size := by omega)); (try (have hy2 : w.heap.size + 2 < ex.to.heap.size := by omega)))
      obtain ⟨w1, hX⟩ : ∃ z : World, z = ex.to := ⟨_, rfl⟩
      rw [← hX] at hex ⊢
      clear hX hexz
      go_wp2_with fail
      go_round
      case rel => exact ⟨k + 1, by omega, by go_num, hb.trans (hex.mono hb.size)⟩
      case measure => simp [intOf]; omega
    · obtain rfl : k = x.length := by omega
      go_wp2
      go_ret
      exact ⟨rfl, hb⟩
set_option maxRecDepth 100000 in
set_option maxHeartbeats 4000000 in
theorem days_same (a1 : Option Addr) (a2 : Nat) (a3 : Option Addr) (a4 : Nat) (a5 : Option Addr) (a6 : Nat) (a7 : Option Addr) (a8 : Nat) (b1 : Option Addr) (b2 : Nat) (b3 : Option Addr) (b4 : Nat) (b5 : Option Addr) (b6 : Nat) (b7 : Option Addr) (b8 : Nat) (X : List Int) (y1 y2 z1 z2 u1 u2 : Nat) (E F1 F2 G1 G2 : Int) (w : World) (hx : IntsAt w a1 X) (hy : IntsAt w b1 X) (h : X.length ≤ 1000) :
    Calls Tryz.prog 60 #[.agg #[.slice a1 X.length a2, .slice a3 y1 a4, .slice a5 z1 a6, .slice a7 u1 a8, .int .i64 E, .int .i64 F1, .int .i64 G1], .agg #[.slice b1 X.length b2, .slice b3 y2 b4, .slice b5 z2 b6, .slice b7 u2 b8, .int .i64 E, .int .i64 F2, .int .i64 G2]] w fun e w' => e = .returned (.bool true) ∧ Below w.heap.size w w' := by
  have si := fun (W : World) (b : Below w.heap.size w W) => zJo a1 b1 a2 b2 X X W (hx.below b) (hy.below b) h
  simp only [decide_true] at si
  obtain ⟨W0, hW0⟩ : ∃ z : World, z = (w.alloc (.cells #[.slice a1 X.length a2, .slice a3 y1 a4, .slice a5 z1 a6, .slice a7 u1 a8, .int .i64 E, .int .i64 F1, .int .i64 G1] 117)).alloc (.cells #[.slice b1 X.length b2, .slice b3 y2 b4, .slice b5 z2 b6, .slice b7 u2 b8, .int .i64 E, .int .i64 F2, .int .i64 G2] 117) := ⟨_, rfl⟩
  have t0 : Below w.heap.size w W0 := by rw [hW0]; exact ((Below.refl _ _).alloc (Nat.le_refl _) _).alloc (by simp) _
  have C0 : Cells W0 w.heap.size #[.slice a1 X.length a2, .slice a3 y1 a4, .slice a5 z1 a6, .slice a7 u1 a8, .int .i64 E, .int .i64 F1, .int .i64 G1] 117 := by rw [hW0]; exact (Cells.new _ _ _).alloc _
  have D0 : Cells W0 (w.heap.size + 1) #[.slice b1 X.length b2, .slice b3 y2 b4, .slice b5 z2 b6, .slice b7 u2 b8, .int .i64 E, .int .i64 F2, .int .i64 G2] 117 := by rw [hW0]; exact Cells.new' _ _ _ _ (by simp)
  go_enter Tryz.func60, Tryz.ntmps60
  go_upto_region 1 with fail
  rw [← hW0]
  clear hW0
  have k0 := (C0).cell 0
  have m0 := (D0).cell 0
  have k4 := (C0).cell 4
  have m4 := (D0).cell 4
  simp at k0 m0 k4 m4
  have lC := (C0).lt
  have lD := (D0).lt
  go_wp2_with fail
  go_at_call 48
  refine (si W0 t0).mono ?_
  rintro e W1 ⟨rfl, b1⟩
  go_wp2_with fail
  go_ret
  exact ⟨rfl, t0.trans (b1.mono t0.size)⟩
set_option maxRecDepth 100000 in
set_option maxHeartbeats 4000000 in
theorem spans_same (a1 : Option Addr) (a2 : Nat) (a3 : Option Addr) (a4 : Nat) (a5 : Option Addr) (a6 : Nat) (a7 : Option Addr) (a8 : Nat) (b1 : Option Addr) (b2 : Nat) (b3 : Option Addr) (b4 : Nat) (b5 : Option Addr) (b6 : Nat) (b7 : Option Addr) (b8 : Nat) (Y : List Int) (Z : List (Int × Int)) (x1 x2 u1 u2 : Nat) (F E1 E2 G1 G2 : Int) (w : World) (hx : IntsAt w a3 Y) (hy : IntsAt w b3 Y) (h : Y.length ≤ 1000) (hp : zAX w a5 Z) (hq : zAX w b5 Z) (hz : Z.length ≤ 1000) :
    Calls Tryz.prog 61 #[.agg #[.slice a1 x1 a2, .slice a3 Y.length a4, .slice a5 Z.length a6, .slice a7 u1 a8, .int .i64 E1, .int .i64 F, .int .i64 G1], .agg #[.slice b1 x2 b2, .slice b3 Y.length b4, .slice b5 Z.length b6, .slice b7 u2 b8, .int .i64 E2, .int .i64 F, .int .i64 G2]] w fun e w' => e = .returned (.bool true) ∧ Below w.heap.size w w' := by
  have si := fun (W : World) (b : Below w.heap.size w W) => zJo a3 b3 a4 b4 Y Y W (hx.below b) (hy.below b) h
  simp only [decide_true] at si
  obtain ⟨W0, hW0⟩ : ∃ z : World, z = (w.alloc (.cells #[.slice a1 x1 a2, .slice a3 Y.length a4, .slice a5 Z.length a6, .slice a7 u1 a8, .int .i64 E1, .int .i64 F, .int .i64 G1] 117)).alloc (.cells #[.slice b1 x2 b2, .slice b3 Y.length b4, .slice b5 Z.length b6, .slice b7 u2 b8, .int .i64 E2, .int .i64 F, .int .i64 G2] 117) := ⟨_, rfl⟩
  have t0 : Below w.heap.size w W0 := by rw [hW0]; exact ((Below.refl _ _).alloc (Nat.le_refl _) _).alloc (by simp) _
  have C0 : Cells W0 w.heap.size #[.slice a1 x1 a2, .slice a3 Y.length a4, .slice a5 Z.length a6, .slice a7 u1 a8, .int .i64 E1, .int .i64 F, .int .i64 G1] 117 := by rw [hW0]; exact (Cells.new _ _ _).alloc _
  have D0 : Cells W0 (w.heap.size + 1) #[.slice b1 x2 b2, .slice b3 Y.length b4, .slice b5 Z.length b6, .slice b7 u2 b8, .int .i64 E2, .int .i64 F, .int .i64 G2] 117 := by rw [hW0]; exact Cells.new' _ _ _ _ (by simp)
  go_enter Tryz.func61, Tryz.ntmps61
  go_upto_region 1 with fail
  rw [← hW0]
  clear hW0
  have k1 := (C0).cell 1
  have m1 := (D0).cell 1
  have k2 := (C0).cell 2
  have m2 := (D0).cell 2
  have k5 := (C0).cell 5
  have m5 := (D0).cell 5
  simp at k1 m1 k2 m2 k5 m5
  have lC := (C0).lt
  have lD := (D0).lt
  go_wp2_with fail
  go_at_call 48
  refine (si W0 t0).mono ?_
  rintro e W1 ⟨rfl, b1⟩
  have t1 := t0.trans (b1.mono t0.size)
  have C1 := C0.below b1
  have D1 := D0.below b1
  clear k1 m1 k2 m2 k5 m5 lC lD C0 D0 t0 b1 si
  have k2 := (C1).cell 2
  have m2 := (D1).cell 2
  simp at k2 m2
  have lC := (C1).lt
  have lD := (D1).lt
  go_wp2_with fail
  clear k2 m2 lC lD
  go_loopw [5] (fun i V => ∃ k : Nat, k ≤ Z.length ∧ i = .int .i64 k ∧ Below W1.heap.size W1 V) (fun i _ => Z.length - (intOf i).toNat)
  case atStart => exact ⟨0, Nat.zero_le _, rfl, Below.refl _ _⟩
  case round =>
    obtain ⟨k, hk, rfl, hb⟩ := hrel
    have tb := t1.trans (hb.mono t1.size)
    have k2 := (C1.below hb).cell 2
    have m2 := (D1.below hb).cell 2
    simp at k2 m2
    have lC := (C1.below hb).lt
    have lD := (D1.below hb).lt
    by_cases hlt : k < Z.length
    · have hkI : (k : Int) < (Z.length : Int) := by omega
      have hk0 : (0 : Int) ≤ (k : Int) := by omega
      have iw : IntKind.i64.wrap ((k : Int) + 1) = (k : Int) + 1 := IntWalk.i64_in _ (by omega)
      obtain ⟨b1, f1, cs1, rr1, lb1, _, rfl, c1⟩ := (zNw (hp.below tb)).cell hlt (by omega)
      have p0 := c1 0 _ rfl
      have p1 := c1 1 _ rfl
      obtain ⟨b2, f2, cs2, rr2, lb2, _, rfl, c2⟩ := (zNw (hq.below tb)).cell hlt (by omega)
      have q0 := c2 0 _ rfl
      have q1 := c2 1 _ rfl
      clear c1 c2
      simp only [Nat.add_zero] at p0 q0
      generalize Z[k] = u at *
      go_upto_region 6 with fail
      (refine zAC 11 (by kernel_rfl) (by kernel_rfl) ?_; simp only [List.take_succ_cons, List.take_zero, List.drop_succ_cons, List.drop_zero]; (repeat (go_big_quiet_step ((fail)))); refine wpQuiet_nil ?_; rintro _ ⟨ex, rfl⟩; have hex := ex.below; have hexz := ex.size; (try simp at hexz); (try (have hy0 : w.heap.size < ex.to.heap.size := by omega)); (try (have hy1 : w.heap.size + 1 < ex.to.heap.size := by omega)); (try (have hy2 : w.heap.size + 2 < ex.to.heap.size := by omega)))
      obtain ⟨w1, hX⟩ : ∃ z : World, z = ex.to := ⟨_, rfl⟩
      rw [← hX] at hex ⊢
      clear hX hexz
      go_wp2_with fail
      go_round
      case rel => exact ⟨k + 1, by omega, by go_num, hb.trans (hex.mono hb.size)⟩
      case measure => simp [intOf]; omega
    · obtain rfl : k = Z.length := by omega
      go_wp2_with fail
      go_ret
      exact ⟨rfl, tb⟩
set_option maxRecDepth 100000 in
set_option maxHeartbeats 4000000 in
theorem owed_same (a1 : Option Addr) (a2 : Nat) (a3 : Option Addr) (a4 : Nat) (a5 : Option Addr) (a6 : Nat) (a7 : Option Addr) (a8 : Nat) (b1 : Option Addr) (b2 : Nat) (b3 : Option Addr) (b4 : Nat) (b5 : Option Addr) (b6 : Nat) (b7 : Option Addr) (b8 : Nat) (U : List (Int × Int)) (x1 x2 y1 y2 z1 z2 : Nat) (G E1 E2 F1 F2 : Int) (w : World) (hp : zAX w a7 U) (hq : zAX w b7 U) (hz : U.length ≤ 1000) :
    Calls Tryz.prog 62 #[.agg #[.slice a1 x1 a2, .slice a3 y1 a4, .slice a5 z1 a6, .slice a7 U.length a8, .int .i64 E1, .int .i64 F1, .int .i64 G], .agg #[.slice b1 x2 b2, .slice b3 y2 b4, .slice b5 z2 b6, .slice b7 U.length b8, .int .i64 E2, .int .i64 F2, .int .i64 G]] w fun e w' => e = .returned (.bool true) ∧ Below w.heap.size w w' := by
  obtain ⟨W0, hW0⟩ : ∃ z : World, z = (w.alloc (.cells #[.slice a1 x1 a2, .slice a3 y1 a4, .slice a5 z1 a6, .slice a7 U.length a8, .int .i64 E1, .int .i64 F1, .int .i64 G] 117)).alloc (.cells #[.slice b1 x2 b2, .slice b3 y2 b4, .slice b5 z2 b6, .slice b7 U.length b8, .int .i64 E2, .int .i64 F2, .int .i64 G] 117) := ⟨_, rfl⟩
  have t0 : Below w.heap.size w W0 := by rw [hW0]; exact ((Below.refl _ _).alloc (Nat.le_refl _) _).alloc (by simp) _
  have C0 : Cells W0 w.heap.size #[.slice a1 x1 a2, .slice a3 y1 a4, .slice a5 z1 a6, .slice a7 U.length a8, .int .i64 E1, .int .i64 F1, .int .i64 G] 117 := by rw [hW0]; exact (Cells.new _ _ _).alloc _
  have D0 : Cells W0 (w.heap.size + 1) #[.slice b1 x2 b2, .slice b3 y2 b4, .slice b5 z2 b6, .slice b7 U.length b8, .int .i64 E2, .int .i64 F2, .int .i64 G] 117 := by rw [hW0]; exact Cells.new' _ _ _ _ (by simp)
  go_enter Tryz.func62, Tryz.ntmps62
  go_upto_region 1 with fail
  rw [← hW0]
  clear hW0
  have k3 := (C0).cell 3
  have m3 := (D0).cell 3
  have k6 := (C0).cell 6
  have m6 := (D0).cell 6
  simp at k3 m3 k6 m6
  have lC := (C0).lt
  have lD := (D0).lt
  go_wp2_with fail
  clear k3 m3 k6 m6 lC lD
  have C1 := C0
  have D1 := D0
  have t1 := t0
  clear C0 D0 t0
  go_loopw [5] (fun i V => ∃ k : Nat, k ≤ U.length ∧ i = .int .i64 k ∧ Below W0.heap.size W0 V) (fun i _ => U.length - (intOf i).toNat)
  case atStart => exact ⟨0, Nat.zero_le _, rfl, Below.refl _ _⟩
  case round =>
    obtain ⟨k, hk, rfl, hb⟩ := hrel
    have tb := t1.trans (hb.mono t1.size)
    have k3 := (C1.below hb).cell 3
    have m3 := (D1.below hb).cell 3
    simp at k3 m3
    have lC := (C1.below hb).lt
    have lD := (D1.below hb).lt
    by_cases hlt : k < U.length
    · have hkI : (k : Int) < (U.length : Int) := by omega
      have hk0 : (0 : Int) ≤ (k : Int) := by omega
      have iw : IntKind.i64.wrap ((k : Int) + 1) = (k : Int) + 1 := IntWalk.i64_in _ (by omega)
      obtain ⟨b1, f1, cs1, rr1, lb1, _, rfl, c1⟩ := (zNw (hp.below tb)).cell hlt (by omega)
      have p0 := c1 0 _ rfl
      have p1 := c1 1 _ rfl
      obtain ⟨b2, f2, cs2, rr2, lb2, _, rfl, c2⟩ := (zNw (hq.below tb)).cell hlt (by omega)
      have q0 := c2 0 _ rfl
      have q1 := c2 1 _ rfl
      clear c1 c2
      simp only [Nat.add_zero] at p0 q0
      generalize U[k] = u at *
      go_upto_region 6 with fail
      (refine zAC 11 (by kernel_rfl) (by kernel_rfl) ?_; simp only [List.take_succ_cons, List.take_zero, List.drop_succ_cons, List.drop_zero]; (repeat (go_big_quiet_step ((fail)))); refine wpQuiet_nil ?_; rintro _ ⟨ex, rfl⟩; have hex := ex.below; have hexz := ex.size; (try simp at hexz); (try (have hy0 : w.heap.size < ex.to.heap.size := by omega)); (try (have hy1 : w.heap.size + 1 < ex.to.heap.size := by omega)); (try (have hy2 : w.heap.size + 2 < ex.to.heap.size := by omega)))
      obtain ⟨w1, hX⟩ : ∃ z : World, z = ex.to := ⟨_, rfl⟩
      rw [← hX] at hex ⊢
      clear hX hexz
      go_wp2_with fail
      go_round
      case rel => exact ⟨k + 1, by omega, by go_num, hb.trans (hex.mono hb.size)⟩
      case measure => simp [intOf]; omega
    · obtain rfl : k = U.length := by omega
      go_wp2_with fail
      go_ret
      exact ⟨rfl, tb⟩
end Go.Proofs.YticjeianiahppaaGreatDoor
