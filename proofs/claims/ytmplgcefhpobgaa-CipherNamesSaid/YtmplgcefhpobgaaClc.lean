/- cipher: may, key 3 -/
import Derived.Test.YtmplgcefhpobgaaCl
namespace Go.Proofs.Ytmplgcefhpobgaa
set_option linter.unusedVariables false
set_option linter.unusedSimpArgs false
set_option linter.unnecessarySimpa false
open Go.RowKit Go.Flow

set_option maxRecDepth 100000 in
set_option maxHeartbeats 4000000 in
theorem may_3 (b0 : Nat) (al : Option Addr) (lost : List (Int × Int)) (cl : Nat) (m : Int) (d la u0 u1 u2 u3 u4 : Int) (w : World) (hb0 : b0 < w.heap.size)
    (h4 : w.cell? ⟨b0, 4, none⟩ = some (.slice al lost.length cl)) (h5 : w.cell? ⟨b0, 5, none⟩ = some (.int .i64 m)) (hl : Recs2At w al lost) (ll : lost.length ≤ 1000)
    (hd : 0 ≤ d ∧ d ≤ 1000000) (hu : 0 ≤ u3 ∧ u3 ≤ 1000000) :
    Calls Try.prog 77 #[Value.pointer (some ⟨b0, 0, none⟩), .agg #[.int .i64 d, .int .i64 la, .int .i64 u0, .int .i64 u1, .int .i64 u2, .int .i64 u3, .int .i64 u4], .int .i64 3] w
      fun e w' => e = .returned (mayRes (hadN lost 3) m ⟨d, la, u0, u1, u2, u3, u4⟩ 3) ∧ Below w.heap.size w w' := by
  obtain ⟨f, hf⟩ : ∃ f, hadN lost 3 = f := ⟨_, rfl⟩
  rw [hf]
  have Hf := Lib.hid hf
  clear hf
  have x1 : IntKind.i64.wrap (d + 1) = d + 1 := IntWalk.i64_in _ (by omega)
  have x2 : IntKind.i64.wrap (u3 + 1) = u3 + 1 := IntWalk.i64_in _ (by omega)
  cases c1 : (f != -1)
  · cases c3 : decide (m ≤ u3)
    · cases c4 : decide (0 < d)
      · have hr : mayRes f m ⟨d, la, u0, u1, u2, u3, u4⟩ 3 = .tuple #[.agg #[.int .i64 (d + 1), .int .i64 3, .int .i64 u0, .int .i64 u1, .int .i64 u2, .int .i64 (u3 + 1), .int .i64 u4], .int .i64 0, .bool true] := by simp_all [mayRes, mayB, mayC, Spot.use, Spot.bump, Spot.val]; omega
        rw [hr]
        clear hr
        go_enter Try.func77, Try.ntmps77
        go_wp2_with (go_at_call 72; refine (had_any al lost cl 3 _ (hl.below (by (repeat (first | exact Below.refl _ _ | refine Below.alloc ?_ (by first | omega | (simp; done) | (simp; omega)) _ | refine Below.drew ?_ | refine Below.setCell ?_ (by first | omega | (simp; done) | (simp; omega)) _ | refine Below.trans ?_ (Below.mono (by assumption) (by first | omega | (simp; done) | (simp; omega))))))) ll).mono ?_; rintro e w1 ⟨rfl, hb1⟩; obtain ⟨hc1, hf1, hz1⟩ := bcell hb1; (try simp at hz1); (try (have hy0 : w.heap.size < w1.heap.size := by omega)); (try (have hy1 : w.heap.size + 1 < w1.heap.size := by omega)); (try (have hy2 : w.heap.size + 2 < w1.heap.size := by omega)); rw [Hf.out])
        have hbx : Below (w.heap.size + 1) (w.alloc (.cells #[.int .i64 d, .int .i64 la, .int .i64 u0, .int .i64 u1, .int .i64 u2, .int .i64 u3, .int .i64 u4] 121)) w1 := by (repeat (first | exact Below.refl _ _ | refine Below.alloc ?_ (by first | omega | (simp; done) | (simp; omega)) _ | refine Below.drew ?_ | refine Below.setCell ?_ (by first | omega | (simp; done) | (simp; omega)) _ | refine Below.trans ?_ (Below.mono (by assumption) (by first | omega | (simp; done) | (simp; omega)))))
        have hbz := box_spot (w := w.alloc (.cells #[.int .i64 d, .int .i64 la, .int .i64 u0, .int .i64 u1, .int .i64 u2, .int .i64 u3, .int .i64 u4] 121)) (hb1.mono (by simp))
        simp only [World.size_alloc] at hbz
        obtain ⟨k0, k1, k2, k3, k4, k5, k6⟩ := box_spot hbx
        obtain ⟨n0, n1, n2, n3, n4, n5, n6⟩ := hbz
        have hwB : Below w.heap.size w w1 := by (repeat (first | exact Below.refl _ _ | refine Below.alloc ?_ (by first | omega | (simp; done) | (simp; omega)) _ | refine Below.drew ?_ | refine Below.setCell ?_ (by first | omega | (simp; done) | (simp; omega)) _ | refine Below.trans ?_ (Below.mono (by assumption) (by first | omega | (simp; done) | (simp; omega)))))
        have hbb : b0 < w1.heap.size := by omega
        have h51 : w1.cell? ⟨b0, 5, none⟩ = some (.int .i64 m) := (hwB.cell (p := ⟨b0, 5, none⟩) hb0).trans h5
        (refine wp_region_ext 19 (by kernel_rfl) (by kernel_rfl) ?_; simp only [List.take_succ_cons, List.take_zero, List.drop_succ_cons, List.drop_zero]; (repeat (go_big_quiet_step ((fail)))); refine wpQuiet_nil ?_; rintro _ ⟨ex, rfl⟩; have hex := ex.below; have hexz := ex.size; (try simp at hexz); (try (have hy0 : w.heap.size < ex.to.heap.size := by omega)); (try (have hy1 : w.heap.size + 1 < ex.to.heap.size := by omega)); (try (have hy2 : w.heap.size + 2 < ex.to.heap.size := by omega)))
        obtain ⟨l0, l1, l2, l3, l4, l5, l6⟩ := box_ext ex (by omega) k0 k1 k2 k3 k4 k5 k6
        obtain ⟨o0, o1, o2, o3, o4, o5, o6⟩ := box_ext ex (by omega) n0 n1 n2 n3 n4 n5 n6
        go_wp2
        refine bodyPost_ret (v := .tuple #[.agg #[.int .i64 (d + 1), .int .i64 3, .int .i64 u0, .int .i64 u1, .int .i64 u2, .int .i64 (u3 + 1), .int .i64 u4], .int .i64 0, .bool true]) (results_cell3 (c := 6) (t := 7) (u := 8) (T := 121) (a := ⟨w.heap.size + 1, 0, none⟩) (by rfl) (by rfl) (by rfl) (by rfl) (load_spot ?_ ?_ ?_ ?_ ?_ ?_ ?_)) (by rfl) ?_
        rotate_right
        · refine ⟨rfl, ?_⟩
          iterate 8 refine Below.setCell ?_ (by simp) _
          exact hwB.trans (hex.mono hwB.size)
        all_goals go_simp
      · cases c5 : ((3 : Int) != la)
        · have hr : mayRes f m ⟨d, la, u0, u1, u2, u3, u4⟩ 3 = .tuple #[.agg #[.int .i64 (d + 1), .int .i64 3, .int .i64 u0, .int .i64 u1, .int .i64 u2, .int .i64 (u3 + 1), .int .i64 u4], .int .i64 0, .bool true] := by simp_all [mayRes, mayB, mayC, Spot.use, Spot.bump, Spot.val]
          rw [hr]
          clear hr
          go_enter Try.func77, Try.ntmps77
          go_wp2_with (go_at_call 72; refine (had_any al lost cl 3 _ (hl.below (by (repeat (first | exact Below.refl _ _ | refine Below.alloc ?_ (by first | omega | (simp; done) | (simp; omega)) _ | refine Below.drew ?_ | refine Below.setCell ?_ (by first | omega | (simp; done) | (simp; omega)) _ | refine Below.trans ?_ (Below.mono (by assumption) (by first | omega | (simp; done) | (simp; omega))))))) ll).mono ?_; rintro e w1 ⟨rfl, hb1⟩; obtain ⟨hc1, hf1, hz1⟩ := bcell hb1; (try simp at hz1); (try (have hy0 : w.heap.size < w1.heap.size := by omega)); (try (have hy1 : w.heap.size + 1 < w1.heap.size := by omega)); (try (have hy2 : w.heap.size + 2 < w1.heap.size := by omega)); rw [Hf.out])
          have hbx : Below (w.heap.size + 1) (w.alloc (.cells #[.int .i64 d, .int .i64 la, .int .i64 u0, .int .i64 u1, .int .i64 u2, .int .i64 u3, .int .i64 u4] 121)) w1 := by (repeat (first | exact Below.refl _ _ | refine Below.alloc ?_ (by first | omega | (simp; done) | (simp; omega)) _ | refine Below.drew ?_ | refine Below.setCell ?_ (by first | omega | (simp; done) | (simp; omega)) _ | refine Below.trans ?_ (Below.mono (by assumption) (by first | omega | (simp; done) | (simp; omega)))))
          have hbz := box_spot (w := w.alloc (.cells #[.int .i64 d, .int .i64 la, .int .i64 u0, .int .i64 u1, .int .i64 u2, .int .i64 u3, .int .i64 u4] 121)) (hb1.mono (by simp))
          simp only [World.size_alloc] at hbz
          obtain ⟨k0, k1, k2, k3, k4, k5, k6⟩ := box_spot hbx
          obtain ⟨n0, n1, n2, n3, n4, n5, n6⟩ := hbz
          have hwB : Below w.heap.size w w1 := by (repeat (first | exact Below.refl _ _ | refine Below.alloc ?_ (by first | omega | (simp; done) | (simp; omega)) _ | refine Below.drew ?_ | refine Below.setCell ?_ (by first | omega | (simp; done) | (simp; omega)) _ | refine Below.trans ?_ (Below.mono (by assumption) (by first | omega | (simp; done) | (simp; omega)))))
          have hbb : b0 < w1.heap.size := by omega
          have h51 : w1.cell? ⟨b0, 5, none⟩ = some (.int .i64 m) := (hwB.cell (p := ⟨b0, 5, none⟩) hb0).trans h5
          (refine wp_region_ext 19 (by kernel_rfl) (by kernel_rfl) ?_; simp only [List.take_succ_cons, List.take_zero, List.drop_succ_cons, List.drop_zero]; (repeat (go_big_quiet_step ((fail)))); refine wpQuiet_nil ?_; rintro _ ⟨ex, rfl⟩; have hex := ex.below; have hexz := ex.size; (try simp at hexz); (try (have hy0 : w.heap.size < ex.to.heap.size := by omega)); (try (have hy1 : w.heap.size + 1 < ex.to.heap.size := by omega)); (try (have hy2 : w.heap.size + 2 < ex.to.heap.size := by omega)))
          obtain ⟨l0, l1, l2, l3, l4, l5, l6⟩ := box_ext ex (by omega) k0 k1 k2 k3 k4 k5 k6
          obtain ⟨o0, o1, o2, o3, o4, o5, o6⟩ := box_ext ex (by omega) n0 n1 n2 n3 n4 n5 n6
          go_wp2
          refine bodyPost_ret (v := .tuple #[.agg #[.int .i64 (d + 1), .int .i64 3, .int .i64 u0, .int .i64 u1, .int .i64 u2, .int .i64 (u3 + 1), .int .i64 u4], .int .i64 0, .bool true]) (results_cell3 (c := 6) (t := 7) (u := 8) (T := 121) (a := ⟨w.heap.size + 1, 0, none⟩) (by rfl) (by rfl) (by rfl) (by rfl) (load_spot ?_ ?_ ?_ ?_ ?_ ?_ ?_)) (by rfl) ?_
          rotate_right
          · refine ⟨rfl, ?_⟩
            iterate 8 refine Below.setCell ?_ (by simp) _
            exact hwB.trans (hex.mono hwB.size)
          all_goals go_simp
        · have hr : mayRes f m ⟨d, la, u0, u1, u2, u3, u4⟩ 3 = .tuple #[.agg #[.int .i64 (d + 1), .int .i64 3, .int .i64 u0, .int .i64 u1, .int .i64 u2, .int .i64 (u3 + 1), .int .i64 u4], .int .i64 1, .bool true] := by simp_all [mayRes, mayB, mayC, Spot.use, Spot.bump, Spot.val]
          rw [hr]
          clear hr
          go_enter Try.func77, Try.ntmps77
          go_wp2_with (go_at_call 72; refine (had_any al lost cl 3 _ (hl.below (by (repeat (first | exact Below.refl _ _ | refine Below.alloc ?_ (by first | omega | (simp; done) | (simp; omega)) _ | refine Below.drew ?_ | refine Below.setCell ?_ (by first | omega | (simp; done) | (simp; omega)) _ | refine Below.trans ?_ (Below.mono (by assumption) (by first | omega | (simp; done) | (simp; omega))))))) ll).mono ?_; rintro e w1 ⟨rfl, hb1⟩; obtain ⟨hc1, hf1, hz1⟩ := bcell hb1; (try simp at hz1); (try (have hy0 : w.heap.size < w1.heap.size := by omega)); (try (have hy1 : w.heap.size + 1 < w1.heap.size := by omega)); (try (have hy2 : w.heap.size + 2 < w1.heap.size := by omega)); rw [Hf.out])
          have hbx : Below (w.heap.size + 1) (w.alloc (.cells #[.int .i64 d, .int .i64 la, .int .i64 u0, .int .i64 u1, .int .i64 u2, .int .i64 u3, .int .i64 u4] 121)) w1 := by (repeat (first | exact Below.refl _ _ | refine Below.alloc ?_ (by first | omega | (simp; done) | (simp; omega)) _ | refine Below.drew ?_ | refine Below.setCell ?_ (by first | omega | (simp; done) | (simp; omega)) _ | refine Below.trans ?_ (Below.mono (by assumption) (by first | omega | (simp; done) | (simp; omega)))))
          have hbz := box_spot (w := w.alloc (.cells #[.int .i64 d, .int .i64 la, .int .i64 u0, .int .i64 u1, .int .i64 u2, .int .i64 u3, .int .i64 u4] 121)) (hb1.mono (by simp))
          simp only [World.size_alloc] at hbz
          obtain ⟨k0, k1, k2, k3, k4, k5, k6⟩ := box_spot hbx
          obtain ⟨n0, n1, n2, n3, n4, n5, n6⟩ := hbz
          have hwB : Below w.heap.size w w1 := by (repeat (first | exact Below.refl _ _ | refine Below.alloc ?_ (by first | omega | (simp; done) | (simp; omega)) _ | refine Below.drew ?_ | refine Below.setCell ?_ (by first | omega | (simp; done) | (simp; omega)) _ | refine Below.trans ?_ (Below.mono (by assumption) (by first | omega | (simp; done) | (simp; omega)))))
          have hbb : b0 < w1.heap.size := by omega
          have h51 : w1.cell? ⟨b0, 5, none⟩ = some (.int .i64 m) := (hwB.cell (p := ⟨b0, 5, none⟩) hb0).trans h5
          (refine wp_region_ext 19 (by kernel_rfl) (by kernel_rfl) ?_; simp only [List.take_succ_cons, List.take_zero, List.drop_succ_cons, List.drop_zero]; (repeat (go_big_quiet_step ((fail)))); refine wpQuiet_nil ?_; rintro _ ⟨ex, rfl⟩; have hex := ex.below; have hexz := ex.size; (try simp at hexz); (try (have hy0 : w.heap.size < ex.to.heap.size := by omega)); (try (have hy1 : w.heap.size + 1 < ex.to.heap.size := by omega)); (try (have hy2 : w.heap.size + 2 < ex.to.heap.size := by omega)))
          obtain ⟨l0, l1, l2, l3, l4, l5, l6⟩ := box_ext ex (by omega) k0 k1 k2 k3 k4 k5 k6
          obtain ⟨o0, o1, o2, o3, o4, o5, o6⟩ := box_ext ex (by omega) n0 n1 n2 n3 n4 n5 n6
          go_wp2
          refine bodyPost_ret (v := .tuple #[.agg #[.int .i64 (d + 1), .int .i64 3, .int .i64 u0, .int .i64 u1, .int .i64 u2, .int .i64 (u3 + 1), .int .i64 u4], .int .i64 1, .bool true]) (results_cell3 (c := 6) (t := 7) (u := 8) (T := 121) (a := ⟨w.heap.size + 1, 0, none⟩) (by rfl) (by rfl) (by rfl) (by rfl) (load_spot ?_ ?_ ?_ ?_ ?_ ?_ ?_)) (by rfl) ?_
          rotate_right
          · refine ⟨rfl, ?_⟩
            iterate 8 refine Below.setCell ?_ (by simp) _
            exact hwB.trans (hex.mono hwB.size)
          all_goals go_simp
    · have hr : mayRes f m ⟨d, la, u0, u1, u2, u3, u4⟩ 3 = .tuple #[.agg #[.int .i64 d, .int .i64 la, .int .i64 u0, .int .i64 u1, .int .i64 u2, .int .i64 u3, .int .i64 u4], .int .i64 0, .bool false] := by simp_all [mayRes, mayB, mayC, Spot.use, Spot.bump, Spot.val]
      rw [hr]
      clear hr
      go_enter Try.func77, Try.ntmps77
      go_wp2_with (go_at_call 72; refine (had_any al lost cl 3 _ (hl.below (by (repeat (first | exact Below.refl _ _ | refine Below.alloc ?_ (by first | omega | (simp; done) | (simp; omega)) _ | refine Below.drew ?_ | refine Below.setCell ?_ (by first | omega | (simp; done) | (simp; omega)) _ | refine Below.trans ?_ (Below.mono (by assumption) (by first | omega | (simp; done) | (simp; omega))))))) ll).mono ?_; rintro e w1 ⟨rfl, hb1⟩; obtain ⟨hc1, hf1, hz1⟩ := bcell hb1; (try simp at hz1); (try (have hy0 : w.heap.size < w1.heap.size := by omega)); (try (have hy1 : w.heap.size + 1 < w1.heap.size := by omega)); (try (have hy2 : w.heap.size + 2 < w1.heap.size := by omega)); rw [Hf.out])
      have hbx : Below (w.heap.size + 1) (w.alloc (.cells #[.int .i64 d, .int .i64 la, .int .i64 u0, .int .i64 u1, .int .i64 u2, .int .i64 u3, .int .i64 u4] 121)) w1 := by (repeat (first | exact Below.refl _ _ | refine Below.alloc ?_ (by first | omega | (simp; done) | (simp; omega)) _ | refine Below.drew ?_ | refine Below.setCell ?_ (by first | omega | (simp; done) | (simp; omega)) _ | refine Below.trans ?_ (Below.mono (by assumption) (by first | omega | (simp; done) | (simp; omega)))))
      have hbz := box_spot (w := w.alloc (.cells #[.int .i64 d, .int .i64 la, .int .i64 u0, .int .i64 u1, .int .i64 u2, .int .i64 u3, .int .i64 u4] 121)) (hb1.mono (by simp))
      simp only [World.size_alloc] at hbz
      obtain ⟨k0, k1, k2, k3, k4, k5, k6⟩ := box_spot hbx
      obtain ⟨n0, n1, n2, n3, n4, n5, n6⟩ := hbz
      have hwB : Below w.heap.size w w1 := by (repeat (first | exact Below.refl _ _ | refine Below.alloc ?_ (by first | omega | (simp; done) | (simp; omega)) _ | refine Below.drew ?_ | refine Below.setCell ?_ (by first | omega | (simp; done) | (simp; omega)) _ | refine Below.trans ?_ (Below.mono (by assumption) (by first | omega | (simp; done) | (simp; omega)))))
      have hbb : b0 < w1.heap.size := by omega
      have h51 : w1.cell? ⟨b0, 5, none⟩ = some (.int .i64 m) := (hwB.cell (p := ⟨b0, 5, none⟩) hb0).trans h5
      (refine wp_region_ext 19 (by kernel_rfl) (by kernel_rfl) ?_; simp only [List.take_succ_cons, List.take_zero, List.drop_succ_cons, List.drop_zero]; (repeat (go_big_quiet_step ((fail)))); refine wpQuiet_nil ?_; rintro _ ⟨ex, rfl⟩; have hex := ex.below; have hexz := ex.size; (try simp at hexz); (try (have hy0 : w.heap.size < ex.to.heap.size := by omega)); (try (have hy1 : w.heap.size + 1 < ex.to.heap.size := by omega)); (try (have hy2 : w.heap.size + 2 < ex.to.heap.size := by omega)))
      obtain ⟨l0, l1, l2, l3, l4, l5, l6⟩ := box_ext ex (by omega) k0 k1 k2 k3 k4 k5 k6
      obtain ⟨o0, o1, o2, o3, o4, o5, o6⟩ := box_ext ex (by omega) n0 n1 n2 n3 n4 n5 n6
      go_wp2
      refine bodyPost_ret (v := .tuple #[.agg #[.int .i64 d, .int .i64 la, .int .i64 u0, .int .i64 u1, .int .i64 u2, .int .i64 u3, .int .i64 u4], .int .i64 0, .bool false]) (results_cell3 (c := 6) (t := 7) (u := 8) (T := 121) (a := ⟨w.heap.size + 1, 0, none⟩) (by rfl) (by rfl) (by rfl) (by rfl) (load_spot ?_ ?_ ?_ ?_ ?_ ?_ ?_)) (by rfl) ?_
      rotate_right
      · refine ⟨rfl, ?_⟩
        iterate 7 refine Below.setCell ?_ (by simp) _
        exact hwB.trans (hex.mono hwB.size)
      all_goals go_simp
  · cases c2 : decide (f ≤ d)
    · cases c3 : decide (m ≤ u3)
      · cases c4 : decide (0 < d)
        · have hr : mayRes f m ⟨d, la, u0, u1, u2, u3, u4⟩ 3 = .tuple #[.agg #[.int .i64 (d + 1), .int .i64 3, .int .i64 u0, .int .i64 u1, .int .i64 u2, .int .i64 (u3 + 1), .int .i64 u4], .int .i64 0, .bool true] := by simp_all [mayRes, mayB, mayC, Spot.use, Spot.bump, Spot.val]; omega
          rw [hr]
          clear hr
          go_enter Try.func77, Try.ntmps77
          go_wp2_with (go_at_call 72; refine (had_any al lost cl 3 _ (hl.below (by (repeat (first | exact Below.refl _ _ | refine Below.alloc ?_ (by first | omega | (simp; done) | (simp; omega)) _ | refine Below.drew ?_ | refine Below.setCell ?_ (by first | omega | (simp; done) | (simp; omega)) _ | refine Below.trans ?_ (Below.mono (by assumption) (by first | omega | (simp; done) | (simp; omega))))))) ll).mono ?_; rintro e w1 ⟨rfl, hb1⟩; obtain ⟨hc1, hf1, hz1⟩ := bcell hb1; (try simp at hz1); (try (have hy0 : w.heap.size < w1.heap.size := by omega)); (try (have hy1 : w.heap.size + 1 < w1.heap.size := by omega)); (try (have hy2 : w.heap.size + 2 < w1.heap.size := by omega)); rw [Hf.out])
          have hbx : Below (w.heap.size + 1) (w.alloc (.cells #[.int .i64 d, .int .i64 la, .int .i64 u0, .int .i64 u1, .int .i64 u2, .int .i64 u3, .int .i64 u4] 121)) w1 := by (repeat (first | exact Below.refl _ _ | refine Below.alloc ?_ (by first | omega | (simp; done) | (simp; omega)) _ | refine Below.drew ?_ | refine Below.setCell ?_ (by first | omega | (simp; done) | (simp; omega)) _ | refine Below.trans ?_ (Below.mono (by assumption) (by first | omega | (simp; done) | (simp; omega)))))
          have hbz := box_spot (w := w.alloc (.cells #[.int .i64 d, .int .i64 la, .int .i64 u0, .int .i64 u1, .int .i64 u2, .int .i64 u3, .int .i64 u4] 121)) (hb1.mono (by simp))
          simp only [World.size_alloc] at hbz
          obtain ⟨k0, k1, k2, k3, k4, k5, k6⟩ := box_spot hbx
          obtain ⟨n0, n1, n2, n3, n4, n5, n6⟩ := hbz
          have hwB : Below w.heap.size w w1 := by (repeat (first | exact Below.refl _ _ | refine Below.alloc ?_ (by first | omega | (simp; done) | (simp; omega)) _ | refine Below.drew ?_ | refine Below.setCell ?_ (by first | omega | (simp; done) | (simp; omega)) _ | refine Below.trans ?_ (Below.mono (by assumption) (by first | omega | (simp; done) | (simp; omega)))))
          have hbb : b0 < w1.heap.size := by omega
          have h51 : w1.cell? ⟨b0, 5, none⟩ = some (.int .i64 m) := (hwB.cell (p := ⟨b0, 5, none⟩) hb0).trans h5
          (refine wp_region_ext 19 (by kernel_rfl) (by kernel_rfl) ?_; simp only [List.take_succ_cons, List.take_zero, List.drop_succ_cons, List.drop_zero]; (repeat (go_big_quiet_step ((fail)))); refine wpQuiet_nil ?_; rintro _ ⟨ex, rfl⟩; have hex := ex.below; have hexz := ex.size; (try simp at hexz); (try (have hy0 : w.heap.size < ex.to.heap.size := by omega)); (try (have hy1 : w.heap.size + 1 < ex.to.heap.size := by omega)); (try (have hy2 : w.heap.size + 2 < ex.to.heap.size := by omega)))
          obtain ⟨l0, l1, l2, l3, l4, l5, l6⟩ := box_ext ex (by omega) k0 k1 k2 k3 k4 k5 k6
          obtain ⟨o0, o1, o2, o3, o4, o5, o6⟩ := box_ext ex (by omega) n0 n1 n2 n3 n4 n5 n6
          go_wp2
          refine bodyPost_ret (v := .tuple #[.agg #[.int .i64 (d + 1), .int .i64 3, .int .i64 u0, .int .i64 u1, .int .i64 u2, .int .i64 (u3 + 1), .int .i64 u4], .int .i64 0, .bool true]) (results_cell3 (c := 6) (t := 7) (u := 8) (T := 121) (a := ⟨w.heap.size + 1, 0, none⟩) (by rfl) (by rfl) (by rfl) (by rfl) (load_spot ?_ ?_ ?_ ?_ ?_ ?_ ?_)) (by rfl) ?_
          rotate_right
          · refine ⟨rfl, ?_⟩
            iterate 8 refine Below.setCell ?_ (by simp) _
            exact hwB.trans (hex.mono hwB.size)
          all_goals go_simp
        · cases c5 : ((3 : Int) != la)
          · have hr : mayRes f m ⟨d, la, u0, u1, u2, u3, u4⟩ 3 = .tuple #[.agg #[.int .i64 (d + 1), .int .i64 3, .int .i64 u0, .int .i64 u1, .int .i64 u2, .int .i64 (u3 + 1), .int .i64 u4], .int .i64 0, .bool true] := by simp_all [mayRes, mayB, mayC, Spot.use, Spot.bump, Spot.val]
            rw [hr]
            clear hr
            go_enter Try.func77, Try.ntmps77
            go_wp2_with (go_at_call 72; refine (had_any al lost cl 3 _ (hl.below (by (repeat (first | exact Below.refl _ _ | refine Below.alloc ?_ (by first | omega | (simp; done) | (simp; omega)) _ | refine Below.drew ?_ | refine Below.setCell ?_ (by first | omega | (simp; done) | (simp; omega)) _ | refine Below.trans ?_ (Below.mono (by assumption) (by first | omega | (simp; done) | (simp; omega))))))) ll).mono ?_; rintro e w1 ⟨rfl, hb1⟩; obtain ⟨hc1, hf1, hz1⟩ := bcell hb1; (try simp at hz1); (try (have hy0 : w.heap.size < w1.heap.size := by omega)); (try (have hy1 : w.heap.size + 1 < w1.heap.size := by omega)); (try (have hy2 : w.heap.size + 2 < w1.heap.size := by omega)); rw [Hf.out])
            have hbx : Below (w.heap.size + 1) (w.alloc (.cells #[.int .i64 d, .int .i64 la, .int .i64 u0, .int .i64 u1, .int .i64 u2, .int .i64 u3, .int .i64 u4] 121)) w1 := by (repeat (first | exact Below.refl _ _ | refine Below.alloc ?_ (by first | omega | (simp; done) | (simp; omega)) _ | refine Below.drew ?_ | refine Below.setCell ?_ (by first | omega | (simp; done) | (simp; omega)) _ | refine Below.trans ?_ (Below.mono (by assumption) (by first | omega | (simp; done) | (simp; omega)))))
            have hbz := box_spot (w := w.alloc (.cells #[.int .i64 d, .int .i64 la, .int .i64 u0, .int .i64 u1, .int .i64 u2, .int .i64 u3, .int .i64 u4] 121)) (hb1.mono (by simp))
            simp only [World.size_alloc] at hbz
            obtain ⟨k0, k1, k2, k3, k4, k5, k6⟩ := box_spot hbx
            obtain ⟨n0, n1, n2, n3, n4, n5, n6⟩ := hbz
            have hwB : Below w.heap.size w w1 := by (repeat (first | exact Below.refl _ _ | refine Below.alloc ?_ (by first | omega | (simp; done) | (simp; omega)) _ | refine Below.drew ?_ | refine Below.setCell ?_ (by first | omega | (simp; done) | (simp; omega)) _ | refine Below.trans ?_ (Below.mono (by assumption) (by first | omega | (simp; done) | (simp; omega)))))
            have hbb : b0 < w1.heap.size := by omega
            have h51 : w1.cell? ⟨b0, 5, none⟩ = some (.int .i64 m) := (hwB.cell (p := ⟨b0, 5, none⟩) hb0).trans h5
            (refine wp_region_ext 19 (by kernel_rfl) (by kernel_rfl) ?_; simp only [List.take_succ_cons, List.take_zero, List.drop_succ_cons, List.drop_zero]; (repeat (go_big_quiet_step ((fail)))); refine wpQuiet_nil ?_; rintro _ ⟨ex, rfl⟩; have hex := ex.below; have hexz := ex.size; (try simp at hexz); (try (have hy0 : w.heap.size < ex.to.heap.size := by omega)); (try (have hy1 : w.heap.size + 1 < ex.to.heap.size := by omega)); (try (have hy2 : w.heap.size + 2 < ex.to.heap.size := by omega)))
            obtain ⟨l0, l1, l2, l3, l4, l5, l6⟩ := box_ext ex (by omega) k0 k1 k2 k3 k4 k5 k6
            obtain ⟨o0, o1, o2, o3, o4, o5, o6⟩ := box_ext ex (by omega) n0 n1 n2 n3 n4 n5 n6
            go_wp2
            refine bodyPost_ret (v := .tuple #[.agg #[.int .i64 (d + 1), .int .i64 3, .int .i64 u0, .int .i64 u1, .int .i64 u2, .int .i64 (u3 + 1), .int .i64 u4], .int .i64 0, .bool true]) (results_cell3 (c := 6) (t := 7) (u := 8) (T := 121) (a := ⟨w.heap.size + 1, 0, none⟩) (by rfl) (by rfl) (by rfl) (by rfl) (load_spot ?_ ?_ ?_ ?_ ?_ ?_ ?_)) (by rfl) ?_
            rotate_right
            · refine ⟨rfl, ?_⟩
              iterate 8 refine Below.setCell ?_ (by simp) _
              exact hwB.trans (hex.mono hwB.size)
            all_goals go_simp
          · have hr : mayRes f m ⟨d, la, u0, u1, u2, u3, u4⟩ 3 = .tuple #[.agg #[.int .i64 (d + 1), .int .i64 3, .int .i64 u0, .int .i64 u1, .int .i64 u2, .int .i64 (u3 + 1), .int .i64 u4], .int .i64 1, .bool true] := by simp_all [mayRes, mayB, mayC, Spot.use, Spot.bump, Spot.val]
            rw [hr]
            clear hr
            go_enter Try.func77, Try.ntmps77
            go_wp2_with (go_at_call 72; refine (had_any al lost cl 3 _ (hl.below (by (repeat (first | exact Below.refl _ _ | refine Below.alloc ?_ (by first | omega | (simp; done) | (simp; omega)) _ | refine Below.drew ?_ | refine Below.setCell ?_ (by first | omega | (simp; done) | (simp; omega)) _ | refine Below.trans ?_ (Below.mono (by assumption) (by first | omega | (simp; done) | (simp; omega))))))) ll).mono ?_; rintro e w1 ⟨rfl, hb1⟩; obtain ⟨hc1, hf1, hz1⟩ := bcell hb1; (try simp at hz1); (try (have hy0 : w.heap.size < w1.heap.size := by omega)); (try (have hy1 : w.heap.size + 1 < w1.heap.size := by omega)); (try (have hy2 : w.heap.size + 2 < w1.heap.size := by omega)); rw [Hf.out])
            have hbx : Below (w.heap.size + 1) (w.alloc (.cells #[.int .i64 d, .int .i64 la, .int .i64 u0, .int .i64 u1, .int .i64 u2, .int .i64 u3, .int .i64 u4] 121)) w1 := by (repeat (first | exact Below.refl _ _ | refine Below.alloc ?_ (by first | omega | (simp; done) | (simp; omega)) _ | refine Below.drew ?_ | refine Below.setCell ?_ (by first | omega | (simp; done) | (simp; omega)) _ | refine Below.trans ?_ (Below.mono (by assumption) (by first | omega | (simp; done) | (simp; omega)))))
            have hbz := box_spot (w := w.alloc (.cells #[.int .i64 d, .int .i64 la, .int .i64 u0, .int .i64 u1, .int .i64 u2, .int .i64 u3, .int .i64 u4] 121)) (hb1.mono (by simp))
            simp only [World.size_alloc] at hbz
            obtain ⟨k0, k1, k2, k3, k4, k5, k6⟩ := box_spot hbx
            obtain ⟨n0, n1, n2, n3, n4, n5, n6⟩ := hbz
            have hwB : Below w.heap.size w w1 := by (repeat (first | exact Below.refl _ _ | refine Below.alloc ?_ (by first | omega | (simp; done) | (simp; omega)) _ | refine Below.drew ?_ | refine Below.setCell ?_ (by first | omega | (simp; done) | (simp; omega)) _ | refine Below.trans ?_ (Below.mono (by assumption) (by first | omega | (simp; done) | (simp; omega)))))
            have hbb : b0 < w1.heap.size := by omega
            have h51 : w1.cell? ⟨b0, 5, none⟩ = some (.int .i64 m) := (hwB.cell (p := ⟨b0, 5, none⟩) hb0).trans h5
            (refine wp_region_ext 19 (by kernel_rfl) (by kernel_rfl) ?_; simp only [List.take_succ_cons, List.take_zero, List.drop_succ_cons, List.drop_zero]; (repeat (go_big_quiet_step ((fail)))); refine wpQuiet_nil ?_; rintro _ ⟨ex, rfl⟩; have hex := ex.below; have hexz := ex.size; (try simp at hexz); (try (have hy0 : w.heap.size < ex.to.heap.size := by omega)); (try (have hy1 : w.heap.size + 1 < ex.to.heap.size := by omega)); (try (have hy2 : w.heap.size + 2 < ex.to.heap.size := by omega)))
            obtain ⟨l0, l1, l2, l3, l4, l5, l6⟩ := box_ext ex (by omega) k0 k1 k2 k3 k4 k5 k6
            obtain ⟨o0, o1, o2, o3, o4, o5, o6⟩ := box_ext ex (by omega) n0 n1 n2 n3 n4 n5 n6
            go_wp2
            refine bodyPost_ret (v := .tuple #[.agg #[.int .i64 (d + 1), .int .i64 3, .int .i64 u0, .int .i64 u1, .int .i64 u2, .int .i64 (u3 + 1), .int .i64 u4], .int .i64 1, .bool true]) (results_cell3 (c := 6) (t := 7) (u := 8) (T := 121) (a := ⟨w.heap.size + 1, 0, none⟩) (by rfl) (by rfl) (by rfl) (by rfl) (load_spot ?_ ?_ ?_ ?_ ?_ ?_ ?_)) (by rfl) ?_
            rotate_right
            · refine ⟨rfl, ?_⟩
              iterate 8 refine Below.setCell ?_ (by simp) _
              exact hwB.trans (hex.mono hwB.size)
            all_goals go_simp
      · have hr : mayRes f m ⟨d, la, u0, u1, u2, u3, u4⟩ 3 = .tuple #[.agg #[.int .i64 d, .int .i64 la, .int .i64 u0, .int .i64 u1, .int .i64 u2, .int .i64 u3, .int .i64 u4], .int .i64 0, .bool false] := by simp_all [mayRes, mayB, mayC, Spot.use, Spot.bump, Spot.val]
        rw [hr]
        clear hr
        go_enter Try.func77, Try.ntmps77
        go_wp2_with (go_at_call 72; refine (had_any al lost cl 3 _ (hl.below (by (repeat (first | exact Below.refl _ _ | refine Below.alloc ?_ (by first | omega | (simp; done) | (simp; omega)) _ | refine Below.drew ?_ | refine Below.setCell ?_ (by first | omega | (simp; done) | (simp; omega)) _ | refine Below.trans ?_ (Below.mono (by assumption) (by first | omega | (simp; done) | (simp; omega))))))) ll).mono ?_; rintro e w1 ⟨rfl, hb1⟩; obtain ⟨hc1, hf1, hz1⟩ := bcell hb1; (try simp at hz1); (try (have hy0 : w.heap.size < w1.heap.size := by omega)); (try (have hy1 : w.heap.size + 1 < w1.heap.size := by omega)); (try (have hy2 : w.heap.size + 2 < w1.heap.size := by omega)); rw [Hf.out])
        have hbx : Below (w.heap.size + 1) (w.alloc (.cells #[.int .i64 d, .int .i64 la, .int .i64 u0, .int .i64 u1, .int .i64 u2, .int .i64 u3, .int .i64 u4] 121)) w1 := by (repeat (first | exact Below.refl _ _ | refine Below.alloc ?_ (by first | omega | (simp; done) | (simp; omega)) _ | refine Below.drew ?_ | refine Below.setCell ?_ (by first | omega | (simp; done) | (simp; omega)) _ | refine Below.trans ?_ (Below.mono (by assumption) (by first | omega | (simp; done) | (simp; omega)))))
        have hbz := box_spot (w := w.alloc (.cells #[.int .i64 d, .int .i64 la, .int .i64 u0, .int .i64 u1, .int .i64 u2, .int .i64 u3, .int .i64 u4] 121)) (hb1.mono (by simp))
        simp only [World.size_alloc] at hbz
        obtain ⟨k0, k1, k2, k3, k4, k5, k6⟩ := box_spot hbx
        obtain ⟨n0, n1, n2, n3, n4, n5, n6⟩ := hbz
        have hwB : Below w.heap.size w w1 := by (repeat (first | exact Below.refl _ _ | refine Below.alloc ?_ (by first | omega | (simp; done) | (simp; omega)) _ | refine Below.drew ?_ | refine Below.setCell ?_ (by first | omega | (simp; done) | (simp; omega)) _ | refine Below.trans ?_ (Below.mono (by assumption) (by first | omega | (simp; done) | (simp; omega)))))
        have hbb : b0 < w1.heap.size := by omega
        have h51 : w1.cell? ⟨b0, 5, none⟩ = some (.int .i64 m) := (hwB.cell (p := ⟨b0, 5, none⟩) hb0).trans h5
        (refine wp_region_ext 19 (by kernel_rfl) (by kernel_rfl) ?_; simp only [List.take_succ_cons, List.take_zero, List.drop_succ_cons, List.drop_zero]; (repeat (go_big_quiet_step ((fail)))); refine wpQuiet_nil ?_; rintro _ ⟨ex, rfl⟩; have hex := ex.below; have hexz := ex.size; (try simp at hexz); (try (have hy0 : w.heap.size < ex.to.heap.size := by omega)); (try (have hy1 : w.heap.size + 1 < ex.to.heap.size := by omega)); (try (have hy2 : w.heap.size + 2 < ex.to.heap.size := by omega)))
        obtain ⟨l0, l1, l2, l3, l4, l5, l6⟩ := box_ext ex (by omega) k0 k1 k2 k3 k4 k5 k6
        obtain ⟨o0, o1, o2, o3, o4, o5, o6⟩ := box_ext ex (by omega) n0 n1 n2 n3 n4 n5 n6
        go_wp2
        refine bodyPost_ret (v := .tuple #[.agg #[.int .i64 d, .int .i64 la, .int .i64 u0, .int .i64 u1, .int .i64 u2, .int .i64 u3, .int .i64 u4], .int .i64 0, .bool false]) (results_cell3 (c := 6) (t := 7) (u := 8) (T := 121) (a := ⟨w.heap.size + 1, 0, none⟩) (by rfl) (by rfl) (by rfl) (by rfl) (load_spot ?_ ?_ ?_ ?_ ?_ ?_ ?_)) (by rfl) ?_
        rotate_right
        · refine ⟨rfl, ?_⟩
          iterate 7 refine Below.setCell ?_ (by simp) _
          exact hwB.trans (hex.mono hwB.size)
        all_goals go_simp
    · have hr : mayRes f m ⟨d, la, u0, u1, u2, u3, u4⟩ 3 = .tuple #[.agg #[.int .i64 d, .int .i64 la, .int .i64 u0, .int .i64 u1, .int .i64 u2, .int .i64 u3, .int .i64 u4], .int .i64 0, .bool false] := by simp_all [mayRes, mayB, mayC, Spot.use, Spot.bump, Spot.val]
      rw [hr]
      clear hr
      go_enter Try.func77, Try.ntmps77
      go_wp2_with (go_at_call 72; refine (had_any al lost cl 3 _ (hl.below (by (repeat (first | exact Below.refl _ _ | refine Below.alloc ?_ (by first | omega | (simp; done) | (simp; omega)) _ | refine Below.drew ?_ | refine Below.setCell ?_ (by first | omega | (simp; done) | (simp; omega)) _ | refine Below.trans ?_ (Below.mono (by assumption) (by first | omega | (simp; done) | (simp; omega))))))) ll).mono ?_; rintro e w1 ⟨rfl, hb1⟩; obtain ⟨hc1, hf1, hz1⟩ := bcell hb1; (try simp at hz1); (try (have hy0 : w.heap.size < w1.heap.size := by omega)); (try (have hy1 : w.heap.size + 1 < w1.heap.size := by omega)); (try (have hy2 : w.heap.size + 2 < w1.heap.size := by omega)); rw [Hf.out])
      have hbx : Below (w.heap.size + 1) (w.alloc (.cells #[.int .i64 d, .int .i64 la, .int .i64 u0, .int .i64 u1, .int .i64 u2, .int .i64 u3, .int .i64 u4] 121)) w1 := by (repeat (first | exact Below.refl _ _ | refine Below.alloc ?_ (by first | omega | (simp; done) | (simp; omega)) _ | refine Below.drew ?_ | refine Below.setCell ?_ (by first | omega | (simp; done) | (simp; omega)) _ | refine Below.trans ?_ (Below.mono (by assumption) (by first | omega | (simp; done) | (simp; omega)))))
      have hbz := box_spot (w := w.alloc (.cells #[.int .i64 d, .int .i64 la, .int .i64 u0, .int .i64 u1, .int .i64 u2, .int .i64 u3, .int .i64 u4] 121)) (hb1.mono (by simp))
      simp only [World.size_alloc] at hbz
      obtain ⟨k0, k1, k2, k3, k4, k5, k6⟩ := box_spot hbx
      obtain ⟨n0, n1, n2, n3, n4, n5, n6⟩ := hbz
      have hwB : Below w.heap.size w w1 := by (repeat (first | exact Below.refl _ _ | refine Below.alloc ?_ (by first | omega | (simp; done) | (simp; omega)) _ | refine Below.drew ?_ | refine Below.setCell ?_ (by first | omega | (simp; done) | (simp; omega)) _ | refine Below.trans ?_ (Below.mono (by assumption) (by first | omega | (simp; done) | (simp; omega)))))
      have hbb : b0 < w1.heap.size := by omega
      have h51 : w1.cell? ⟨b0, 5, none⟩ = some (.int .i64 m) := (hwB.cell (p := ⟨b0, 5, none⟩) hb0).trans h5
      (refine wp_region_ext 19 (by kernel_rfl) (by kernel_rfl) ?_; simp only [List.take_succ_cons, List.take_zero, List.drop_succ_cons, List.drop_zero]; (repeat (go_big_quiet_step ((fail)))); refine wpQuiet_nil ?_; rintro _ ⟨ex, rfl⟩; have hex := ex.below; have hexz := ex.size; (try simp at hexz); (try (have hy0 : w.heap.size < ex.to.heap.size := by omega)); (try (have hy1 : w.heap.size + 1 < ex.to.heap.size := by omega)); (try (have hy2 : w.heap.size + 2 < ex.to.heap.size := by omega)))
      obtain ⟨l0, l1, l2, l3, l4, l5, l6⟩ := box_ext ex (by omega) k0 k1 k2 k3 k4 k5 k6
      obtain ⟨o0, o1, o2, o3, o4, o5, o6⟩ := box_ext ex (by omega) n0 n1 n2 n3 n4 n5 n6
      go_wp2
      refine bodyPost_ret (v := .tuple #[.agg #[.int .i64 d, .int .i64 la, .int .i64 u0, .int .i64 u1, .int .i64 u2, .int .i64 u3, .int .i64 u4], .int .i64 0, .bool false]) (results_cell3 (c := 6) (t := 7) (u := 8) (T := 121) (a := ⟨w.heap.size + 1, 0, none⟩) (by rfl) (by rfl) (by rfl) (by rfl) (load_spot ?_ ?_ ?_ ?_ ?_ ?_ ?_)) (by rfl) ?_
      rotate_right
      · refine ⟨rfl, ?_⟩
        iterate 7 refine Below.setCell ?_ (by simp) _
        exact hwB.trans (hex.mono hwB.size)
      all_goals go_simp


end Go.Proofs.Ytmplgcefhpobgaa
