/- cipher: may -/
import Derived.Test.YtmplgcefhpobgaaCa
import Derived.Maps.OwnSet
namespace Go.Proofs.Ytmplgcefhpobgaa
set_option linter.unusedVariables false
set_option linter.unusedSimpArgs false
set_option linter.unnecessarySimpa false
open Go.RowKit Go.Flow

structure Spot where
  day : Int
  last : Int
  u0 : Int
  u1 : Int
  u2 : Int
  u3 : Int
  u4 : Int
  deriving DecidableEq

def Spot.val (s : Spot) : Value := .agg #[.int .i64 s.day, .int .i64 s.last, .int .i64 s.u0, .int .i64 s.u1, .int .i64 s.u2, .int .i64 s.u3, .int .i64 s.u4]
def Spot.use (s : Spot) : Nat → Int
  | 0 => s.u0 | 1 => s.u1 | 2 => s.u2 | 3 => s.u3 | _ => s.u4
def Spot.bump (s : Spot) : Nat → Spot
  | 0 => ⟨s.day + 1, 0, s.u0 + 1, s.u1, s.u2, s.u3, s.u4⟩
  | 1 => ⟨s.day + 1, 1, s.u0, s.u1 + 1, s.u2, s.u3, s.u4⟩
  | 2 => ⟨s.day + 1, 2, s.u0, s.u1, s.u2 + 1, s.u3, s.u4⟩
  | 3 => ⟨s.day + 1, 3, s.u0, s.u1, s.u2, s.u3 + 1, s.u4⟩
  | _ => ⟨s.day + 1, 4, s.u0, s.u1, s.u2, s.u3, s.u4 + 1⟩

/-- may: whether, the next spot, the changes -/
def mayB (f m : Int) (s : Spot) (k : Nat) : Bool := !((f != -1 && decide (f ≤ s.day)) || decide (m ≤ s.use k))
def mayC (s : Spot) (k : Nat) : Int := if 0 < s.day ∧ (k : Int) ≠ s.last then 1 else 0
def mayRes (f m : Int) (s : Spot) (k : Nat) : Value :=
  if mayB f m s k then .tuple #[(s.bump k).val, .int .i64 (mayC s k), .bool true] else .tuple #[s.val, .int .i64 0, .bool false]

structure Spot.Fine (s : Spot) : Prop where
  d0 : 0 ≤ s.day
  d1 : s.day ≤ 1000000
  l0 : 0 ≤ s.last
  l1 : s.last ≤ 1000000
  n0 : 0 ≤ s.u0 ∧ s.u0 ≤ 1000000
  n1 : 0 ≤ s.u1 ∧ s.u1 ≤ 1000000
  n2 : 0 ≤ s.u2 ∧ s.u2 ≤ 1000000
  n3 : 0 ≤ s.u3 ∧ s.u3 ≤ 1000000
  n4 : 0 ≤ s.u4 ∧ s.u4 ≤ 1000000

theorem box_spot {w w1 : World} {T : TypeId} {v0 v1 v2 v3 v4 v5 v6 : Value} (h : Below (w.heap.size + 1) (w.alloc (.cells #[v0, v1, v2, v3, v4, v5, v6] T)) w1) :
    w1.cell? ⟨w.heap.size, 0, none⟩ = some v0 ∧ w1.cell? ⟨w.heap.size, 1, none⟩ = some v1 ∧ w1.cell? ⟨w.heap.size, 2, none⟩ = some v2 ∧ w1.cell? ⟨w.heap.size, 3, none⟩ = some v3 ∧
    w1.cell? ⟨w.heap.size, 4, none⟩ = some v4 ∧ w1.cell? ⟨w.heap.size, 5, none⟩ = some v5 ∧ w1.cell? ⟨w.heap.size, 6, none⟩ = some v6 := by
  refine ⟨?_, ?_, ?_, ?_, ?_, ?_, ?_⟩ <;> (rw [h.cell (by simp)]; show (match (w.alloc (.cells #[v0, v1, v2, v3, v4, v5, v6] T)).heap[w.heap.size]? with | some (.cells c _ _) => c[_]? | _ => none) = _; rw [(MapKept.heap_alloc w _).1]; rfl)

theorem results_cell3 {fn : Func} {c t u : Tmp} {T : TypeId} {tmps : Array Value} {P : Program} {w : World} {a : Addr} {v x y : Value} (h : fn.results = #[.cell c T, .tmp t, .tmp u]) (ha : tmps.getD c undef = .pointer (some a))
    (hx : tmps.getD t undef = x) (hy : tmps.getD u undef = y) (hv : (loadVar T a).run P w = .ok v w) : (results fn tmps).run P w = .ok (.tuple #[v, x, y]) w := by
  subst hx hy
  rw [Array.getD_eq_getD_getElem?] at ha
  simp [results, h, ha, asAddr, hv]

theorem load_spot {w : World} {b : Nat} {v0 v1 v2 v3 v4 v5 v6 : Value} (k0 : w.cell? ⟨b, 0, none⟩ = some v0) (k1 : w.cell? ⟨b, 1, none⟩ = some v1) (k2 : w.cell? ⟨b, 2, none⟩ = some v2)
    (k3 : w.cell? ⟨b, 3, none⟩ = some v3) (k4 : w.cell? ⟨b, 4, none⟩ = some v4) (k5 : w.cell? ⟨b, 5, none⟩ = some v5) (k6 : w.cell? ⟨b, 6, none⟩ = some v6) :
    (loadVar 121 ⟨b, 0, none⟩).run Try.prog w = .ok (.agg #[v0, v1, v2, v3, v4, v5, v6]) w := by
  have hi := Try.isAgg121
  have hs := Try.sizeOf121
  unfold loadVar
  go_simp

theorem box_ext {w1 : World} {b : Nat} {v0 v1 v2 v3 v4 v5 v6 : Value} (e : Ext w1) (h : b < w1.heap.size) (k0 : w1.cell? ⟨b, 0, none⟩ = some v0) (k1 : w1.cell? ⟨b, 1, none⟩ = some v1) (k2 : w1.cell? ⟨b, 2, none⟩ = some v2)
    (k3 : w1.cell? ⟨b, 3, none⟩ = some v3) (k4 : w1.cell? ⟨b, 4, none⟩ = some v4) (k5 : w1.cell? ⟨b, 5, none⟩ = some v5) (k6 : w1.cell? ⟨b, 6, none⟩ = some v6) :
    e.to.cell? ⟨b, 0, none⟩ = some v0 ∧ e.to.cell? ⟨b, 1, none⟩ = some v1 ∧ e.to.cell? ⟨b, 2, none⟩ = some v2 ∧ e.to.cell? ⟨b, 3, none⟩ = some v3 ∧ e.to.cell? ⟨b, 4, none⟩ = some v4 ∧ e.to.cell? ⟨b, 5, none⟩ = some v5 ∧ e.to.cell? ⟨b, 6, none⟩ = some v6 :=
  ⟨(ext_cell e _ _ h).trans k0, (ext_cell e _ _ h).trans k1, (ext_cell e _ _ h).trans k2, (ext_cell e _ _ h).trans k3, (ext_cell e _ _ h).trans k4, (ext_cell e _ _ h).trans k5, (ext_cell e _ _ h).trans k6⟩

--MAY--
set_option maxRecDepth 100000 in
set_option maxHeartbeats 4000000 in
theorem may_0 (b0 : Nat) (al : Option Addr) (lost : List (Int × Int)) (cl : Nat) (m : Int) (d la u0 u1 u2 u3 u4 : Int) (w : World) (hb0 : b0 < w.heap.size)
    (h4 : w.cell? ⟨b0, 4, none⟩ = some (.slice al lost.length cl)) (h5 : w.cell? ⟨b0, 5, none⟩ = some (.int .i64 m)) (hl : Recs2At w al lost) (ll : lost.length ≤ 1000)
    (hd : 0 ≤ d ∧ d ≤ 1000000) (hu : 0 ≤ u0 ∧ u0 ≤ 1000000) :
    Calls Try.prog 77 #[Value.pointer (some ⟨b0, 0, none⟩), .agg #[.int .i64 d, .int .i64 la, .int .i64 u0, .int .i64 u1, .int .i64 u2, .int .i64 u3, .int .i64 u4], .int .i64 0] w
      fun e w' => e = .returned (mayRes (hadN lost 0) m ⟨d, la, u0, u1, u2, u3, u4⟩ 0) ∧ Below w.heap.size w w' := by
  obtain ⟨f, hf⟩ : ∃ f, hadN lost 0 = f := ⟨_, rfl⟩
  rw [hf]
  have Hf := Lib.hid hf
  clear hf
  have x1 : IntKind.i64.wrap (d + 1) = d + 1 := IntWalk.i64_in _ (by omega)
  have x2 : IntKind.i64.wrap (u0 + 1) = u0 + 1 := IntWalk.i64_in _ (by omega)
  cases c1 : (f != -1)
  · cases c3 : decide (m ≤ u0)
    · cases c4 : decide (0 < d)
      · have hr : mayRes f m ⟨d, la, u0, u1, u2, u3, u4⟩ 0 = .tuple #[.agg #[.int .i64 (d + 1), .int .i64 0, .int .i64 (u0 + 1), .int .i64 u1, .int .i64 u2, .int .i64 u3, .int .i64 u4], .int .i64 0, .bool true] := by simp_all [mayRes, mayB, mayC, Spot.use, Spot.bump, Spot.val]; omega
        rw [hr]
        clear hr
        go_enter Try.func77, Try.ntmps77
        go_wp2_with (go_at_call 72; refine (had_any al lost cl 0 _ (hl.below (by (repeat (first | exact Below.refl _ _ | refine Below.alloc ?_ (by first | omega | (simp; done) | (simp; omega)) _ | refine Below.drew ?_ | refine Below.setCell ?_ (by first | omega | (simp; done) | (simp; omega)) _ | refine Below.trans ?_ (Below.mono (by assumption) (by first | omega | (simp; done) | (simp; omega))))))) ll).mono ?_; rintro e w1 ⟨rfl, hb1⟩; obtain ⟨hc1, hf1, hz1⟩ := bcell hb1; (try simp at hz1); (try (have hy0 : w.heap.size < w1.heap.size := by omega)); (try (have hy1 : w.heap.size + 1 < w1.heap.size := by omega)); (try (have hy2 : w.heap.size + 2 < w1.heap.size := by omega)); rw [Hf.out])
        have hbx : Below (w.heap.size + 1) (w.alloc (.cells #[.int .i64 d, .int .i64 la, .int .i64 u0, .int .i64 u1, .int .i64 u2, .int .i64 u3, .int .i64 u4] 121)) w1 := by (repeat (first | exact Below.refl _ _ | refine Below.alloc ?_ (by first | omega | (simp; done) | (simp; omega)) _ | refine Below.drew ?_ | refine Below.setCell ?_ (by first | omega | (simp; done) | (simp; omega)) _ | refine Below.trans ?_ (Below.mono (by assumption) (by first | omega | (simp; done) | (simp; omega)))))
        have hbz := box_spot (w := w.alloc (.cells #[.int .i64 d, .int .i64 la, .int .i64 u0, .int .i64 u1, .int .i64 u2, .int .i64 u3, .int .i64 u4] 121)) (hb1.mono (by simp))
        simp only [World.size_alloc] at hbz
        obtain ⟨k0, k1, k2, k3, k4, k5, k6⟩ := box_spot hbx
        obtain ⟨n0, n1, n2, n3, n4, n5, n6⟩ := hbz
        have hwB : Below w.heap.size w w1 := by (repeat (first | exact Below.refl _ _ | refine Below.alloc ?_ (by first | omega | (simp; done) | (simp; omega)) _ | refine Below.drew ?_ | refine Below.setCell ?_ (by first | omega | (simp; done) | (simp; omega)) _ | refine Below.trans ?_ (Below.mono (by assumption) (by first | omega | (simp; done) | (simp; omega)))))
        have hbb : b0 < w1.heap.size := by omega
        have h51 : w1.cell? ⟨b0, 5, none⟩ = some (.int .i64 m) := (hwB.cell (p := ⟨b0, 5, none⟩) hb0).trans h5
        (refine wp_region_ext 19 (by kernel_rfl) (by kernel_rfl) ?_; simp only [List.take_succ_cons, List.take_zero, List.drop_succ_cons, List.drop_zero]; (repeat (go_big_quiet_step ((fail)))); refine wpQuiet_nil ?_; rintro _ ⟨ex, rfl⟩; have hex := ex.below; have hexz := ex.size; (try simp at hexz); (try (have hy0 : w.heap.size < ex.to.heap.size := by omega)); (try (have hy1 : w.heap.size + 1 < ex.to.heap.size := by omega)); (try (have hy2 : w.heap.size + 2 < ex.to.heap.size := by omega)))
        obtain ⟨l0, l1, l2, l3, l4, l5, l6⟩ := box_ext ex (by omega) k0 k1 k2 k3 k4 k5 k6
        obtain ⟨o0, o1, o2, o3, o4, o5, o6⟩ := box_ext ex (by omega) n0 n1 n2 n3 n4 n5 n6
        go_wp2
        refine bodyPost_ret (v := .tuple #[.agg #[.int .i64 (d + 1), .int .i64 0, .int .i64 (u0 + 1), .int .i64 u1, .int .i64 u2, .int .i64 u3, .int .i64 u4], .int .i64 0, .bool true]) (results_cell3 (c := 6) (t := 7) (u := 8) (T := 121) (a := ⟨w.heap.size + 1, 0, none⟩) (by rfl) (by rfl) (by rfl) (by rfl) (load_spot ?_ ?_ ?_ ?_ ?_ ?_ ?_)) (by rfl) ?_
        rotate_right
        · refine ⟨rfl, ?_⟩
          iterate 8 refine Below.setCell ?_ (by simp) _
          exact hwB.trans (hex.mono hwB.size)
        all_goals go_simp
      · cases c5 : ((0 : Int) != la)
        · have hr : mayRes f m ⟨d, la, u0, u1, u2, u3, u4⟩ 0 = .tuple #[.agg #[.int .i64 (d + 1), .int .i64 0, .int .i64 (u0 + 1), .int .i64 u1, .int .i64 u2, .int .i64 u3, .int .i64 u4], .int .i64 0, .bool true] := by simp_all [mayRes, mayB, mayC, Spot.use, Spot.bump, Spot.val]
          rw [hr]
          clear hr
          go_enter Try.func77, Try.ntmps77
          go_wp2_with (go_at_call 72; refine (had_any al lost cl 0 _ (hl.below (by (repeat (first | exact Below.refl _ _ | refine Below.alloc ?_ (by first | omega | (simp; done) | (simp; omega)) _ | refine Below.drew ?_ | refine Below.setCell ?_ (by first | omega | (simp; done) | (simp; omega)) _ | refine Below.trans ?_ (Below.mono (by assumption) (by first | omega | (simp; done) | (simp; omega))))))) ll).mono ?_; rintro e w1 ⟨rfl, hb1⟩; obtain ⟨hc1, hf1, hz1⟩ := bcell hb1; (try simp at hz1); (try (have hy0 : w.heap.size < w1.heap.size := by omega)); (try (have hy1 : w.heap.size + 1 < w1.heap.size := by omega)); (try (have hy2 : w.heap.size + 2 < w1.heap.size := by omega)); rw [Hf.out])
          have hbx : Below (w.heap.size + 1) (w.alloc (.cells #[.int .i64 d, .int .i64 la, .int .i64 u0, .int .i64 u1, .int .i64 u2, .int .i64 u3, .int .i64 u4] 121)) w1 := by (repeat (first | exact Below.refl _ _ | refine Below.alloc ?_ (by first | omega | (simp; done) | (simp; omega)) _ | refine Below.drew ?_ | refine Below.setCell ?_ (by first | omega | (simp; done) | (simp; omega)) _ | refine Below.trans ?_ (Below.mono (by assumption) (by first | omega | (simp; done) | (simp; omega)))))
          have hbz := box_spot (w := w.alloc (.cells #[.int .i64 d, .int .i64 la, .int .i64 u0, .int .i64 u1, .int .i64 u2, .int .i64 u3, .int .i64 u4] 121)) (hb1.mono (by simp))
          simp only [World.size_alloc] at hbz
          obtain ⟨k0, k1, k2, k3, k4, k5, k6⟩ := box_spot hbx
          obtain ⟨n0, n1, n2, n3, n4, n5, n6⟩ := hbz
          have hwB : Below w.heap.size w w1 := by (repeat (first | exact Below.refl _ _ | refine Below.alloc ?_ (by first | omega | (simp; done) | (simp; omega)) _ | refine Below.drew ?_ | refine Below.setCell ?_ (by first | omega | (simp; done) | (simp; omega)) _ | refine Below.trans ?_ (Below.mono (by assumption) (by first | omega | (simp; done) | (simp; omega)))))
          have hbb : b0 < w1.heap.size := by omega
          have h51 : w1.cell? ⟨b0, 5, none⟩ = some (.int .i64 m) := (hwB.cell (p := ⟨b0, 5, none⟩) hb0).trans h5
          (refine wp_region_ext 19 (by kernel_rfl) (by kernel_rfl) ?_; simp only [List.take_succ_cons, List.take_zero, List.drop_succ_cons, List.drop_zero]; (repeat (go_big_quiet_step ((fail)))); refine wpQuiet_nil ?_; rintro _ ⟨ex, rfl⟩; have hex := ex.below; have hexz := ex.size; (try simp at hexz); (try (have hy0 : w.heap.size < ex.to.heap.size := by omega)); (try (have hy1 : w.heap.size + 1 < ex.to.heap.size := by omega)); (try (have hy2 : w.heap.size + 2 < ex.to.heap.size := by omega)))
          obtain ⟨l0, l1, l2, l3, l4, l5, l6⟩ := box_ext ex (by omega) k0 k1 k2 k3 k4 k5 k6
          obtain ⟨o0, o1, o2, o3, o4, o5, o6⟩ := box_ext ex (by omega) n0 n1 n2 n3 n4 n5 n6
          go_wp2
          refine bodyPost_ret (v := .tuple #[.agg #[.int .i64 (d + 1), .int .i64 0, .int .i64 (u0 + 1), .int .i64 u1, .int .i64 u2, .int .i64 u3, .int .i64 u4], .int .i64 0, .bool true]) (results_cell3 (c := 6) (t := 7) (u := 8) (T := 121) (a := ⟨w.heap.size + 1, 0, none⟩) (by rfl) (by rfl) (by rfl) (by rfl) (load_spot ?_ ?_ ?_ ?_ ?_ ?_ ?_)) (by rfl) ?_
          rotate_right
          · refine ⟨rfl, ?_⟩
            iterate 8 refine Below.setCell ?_ (by simp) _
            exact hwB.trans (hex.mono hwB.size)
          all_goals go_simp
        · have hr : mayRes f m ⟨d, la, u0, u1, u2, u3, u4⟩ 0 = .tuple #[.agg #[.int .i64 (d + 1), .int .i64 0, .int .i64 (u0 + 1), .int .i64 u1, .int .i64 u2, .int .i64 u3, .int .i64 u4], .int .i64 1, .bool true] := by simp_all [mayRes, mayB, mayC, Spot.use, Spot.bump, Spot.val]
          rw [hr]
          clear hr
          go_enter Try.func77, Try.ntmps77
          go_wp2_with (go_at_call 72; refine (had_any al lost cl 0 _ (hl.below (by (repeat (first | exact Below.refl _ _ | refine Below.alloc ?_ (by first | omega | (simp; done) | (simp; omega)) _ | refine Below.drew ?_ | refine Below.setCell ?_ (by first | omega | (simp; done) | (simp; omega)) _ | refine Below.trans ?_ (Below.mono (by assumption) (by first | omega | (simp; done) | (simp; omega))))))) ll).mono ?_; rintro e w1 ⟨rfl, hb1⟩; obtain ⟨hc1, hf1, hz1⟩ := bcell hb1; (try simp at hz1); (try (have hy0 : w.heap.size < w1.heap.size := by omega)); (try (have hy1 : w.heap.size + 1 < w1.heap.size := by omega)); (try (have hy2 : w.heap.size + 2 < w1.heap.size := by omega)); rw [Hf.out])
          have hbx : Below (w.heap.size + 1) (w.alloc (.cells #[.int .i64 d, .int .i64 la, .int .i64 u0, .int .i64 u1, .int .i64 u2, .int .i64 u3, .int .i64 u4] 121)) w1 := by (repeat (first | exact Below.refl _ _ | refine Below.alloc ?_ (by first | omega | (simp; done) | (simp; omega)) _ | refine Below.drew ?_ | refine Below.setCell ?_ (by first | omega | (simp; done) | (simp; omega)) _ | refine Below.trans ?_ (Below.mono (by assumption) (by first | omega | (simp; done) | (simp; omega)))))
          have hbz := box_spot (w := w.alloc (.cells #[.int .i64 d, .int .i64 la, .int .i64 u0, .int .i64 u1, .int .i64 u2, .int .i64 u3, .int .i64 u4] 121)) (hb1.mono (by simp))
          simp only [World.size_alloc] at hbz
          obtain ⟨k0, k1, k2, k3, k4, k5, k6⟩ := box_spot hbx
          obtain ⟨n0, n1, n2, n3, n4, n5, n6⟩ := hbz
          have hwB : Below w.heap.size w w1 := by (repeat (first | exact Below.refl _ _ | refine Below.alloc ?_ (by first | omega | (simp; done) | (simp; omega)) _ | refine Below.drew ?_ | refine Below.setCell ?_ (by first | omega | (simp; done) | (simp; omega)) _ | refine Below.trans ?_ (Below.mono (by assumption) (by first | omega | (simp; done) | (simp; omega)))))
          have hbb : b0 < w1.heap.size := by omega
          have h51 : w1.cell? ⟨b0, 5, none⟩ = some (.int .i64 m) := (hwB.cell (p := ⟨b0, 5, none⟩) hb0).trans h5
          (refine wp_region_ext 19 (by kernel_rfl) (by kernel_rfl) ?_; simp only [List.take_succ_cons, List.take_zero, List.drop_succ_cons, List.drop_zero]; (repeat (go_big_quiet_step ((fail)))); refine wpQuiet_nil ?_; rintro _ ⟨ex, rfl⟩; have hex := ex.below; have hexz := ex.size; (try simp at hexz); (try (have hy0 : w.heap.size < ex.to.heap.size := by omega)); (try (have hy1 : w.heap.size + 1 < ex.to.heap.size := by omega)); (try (have hy2 : w.heap.size + 2 < ex.to.heap.size := by omega)))
          obtain ⟨l0, l1, l2, l3, l4, l5, l6⟩ := box_ext ex (by omega) k0 k1 k2 k3 k4 k5 k6
          obtain ⟨o0, o1, o2, o3, o4, o5, o6⟩ := box_ext ex (by omega) n0 n1 n2 n3 n4 n5 n6
          go_wp2
          refine bodyPost_ret (v := .tuple #[.agg #[.int .i64 (d + 1), .int .i64 0, .int .i64 (u0 + 1), .int .i64 u1, .int .i64 u2, .int .i64 u3, .int .i64 u4], .int .i64 1, .bool true]) (results_cell3 (c := 6) (t := 7) (u := 8) (T := 121) (a := ⟨w.heap.size + 1, 0, none⟩) (by rfl) (by rfl) (by rfl) (by rfl) (load_spot ?_ ?_ ?_ ?_ ?_ ?_ ?_)) (by rfl) ?_
          rotate_right
          · refine ⟨rfl, ?_⟩
            iterate 8 refine Below.setCell ?_ (by simp) _
            exact hwB.trans (hex.mono hwB.size)
          all_goals go_simp
    · have hr : mayRes f m ⟨d, la, u0, u1, u2, u3, u4⟩ 0 = .tuple #[.agg #[.int .i64 d, .int .i64 la, .int .i64 u0, .int .i64 u1, .int .i64 u2, .int .i64 u3, .int .i64 u4], .int .i64 0, .bool false] := by simp_all [mayRes, mayB, mayC, Spot.use, Spot.bump, Spot.val]
      rw [hr]
      clear hr
      go_enter Try.func77, Try.ntmps77
      go_wp2_with (go_at_call 72; refine (had_any al lost cl 0 _ (hl.below (by (repeat (first | exact Below.refl _ _ | refine Below.alloc ?_ (by first | omega | (simp; done) | (simp; omega)) _ | refine Below.drew ?_ | refine Below.setCell ?_ (by first | omega | (simp; done) | (simp; omega)) _ | refine Below.trans ?_ (Below.mono (by assumption) (by first | omega | (simp; done) | (simp; omega))))))) ll).mono ?_; rintro e w1 ⟨rfl, hb1⟩; obtain ⟨hc1, hf1, hz1⟩ := bcell hb1; (try simp at hz1); (try (have hy0 : w.heap.size < w1.heap.size := by omega)); (try (have hy1 : w.heap.size + 1 < w1.heap.size := by omega)); (try (have hy2 : w.heap.size + 2 < w1.heap.size := by omega)); rw [Hf.out])
      have hbx : Below (w.heap.size + 1) (w.alloc (.cells #[.int .i64 d, .int .i64 la, .int .i64 u0, .int .i64 u1, .int .i64 u2, .int .i64 u3, .int .i64 u4] 121)) w1 := by (repeat (first | exact Below.refl _ _ | refine Below.alloc ?_ (by first | omega | (simp; done) | (simp; omega)) _ | refine Below.drew ?_ | refine Below.setCell ?_ (by first | omega | (simp; done) | (simp; omega)) _ | refine Below.trans ?_ (Below.mono (by assumption) (by first | omega | (simp; done) | (simp; omega)))))
      have hbz := box_spot (w := w.alloc (.cells #[.int .i64 d, .int .i64 la, .int .i64 u0, .int .i64 u1, .int .i64 u2, .int .i64 u3, .int .i64 u4] 121)) (hb1.mono (by simp))
      simp only [World.size_alloc] at hbz
      obtain ⟨k0, k1, k2, k3, k4, k5, k6⟩ := box_spot hbx
      obtain ⟨n0, n1, n2, n3, n4, n5, n6⟩ := hbz
      have hwB : Below w.heap.size w w1 := by (repeat (first | exact Below.refl _ _ | refine Below.alloc ?_ (by first | omega | (simp; done) | (simp; omega)) _ | refine Below.drew ?_ | refine Below.setCell ?_ (by first | omega | (simp; done) | (simp; omega)) _ | refine Below.trans ?_ (Below.mono (by assumption) (by first | omega | (simp; done) | (simp; omega)))))
      have hbb : b0 < w1.heap.size := by omega
      have h51 : w1.cell? ⟨b0, 5, none⟩ = some (.int .i64 m) := (hwB.cell (p := ⟨b0, 5, none⟩) hb0).trans h5
      (refine wp_region_ext 19 (by kernel_rfl) (by kernel_rfl) ?_; simp only [List.take_succ_cons, List.take_zero, List.drop_succ_cons, List.drop_zero]; (repeat (go_big_quiet_step ((fail)))); refine wpQuiet_nil ?_; rintro _ ⟨ex, rfl⟩; have hex := ex.below; have hexz := ex.size; (try simp at hexz); (try (have hy0 : w.heap.size < ex.to.heap.size := by omega)); (try (have hy1 : w.heap.size + 1 < ex.to.heap.size := by omega)); (try (have hy2 : w.heap.size + 2 < ex.to.heap.size := by omega)))
      obtain ⟨l0, l1, l2, l3, l4, l5, l6⟩ := box_ext ex (by omega) k0 k1 k2 k3 k4 k5 k6
      obtain ⟨o0, o1, o2, o3, o4, o5, o6⟩ := box_ext ex (by omega) n0 n1 n2 n3 n4 n5 n6
      go_wp2
      refine bodyPost_ret (v := .tuple #[.agg #[.int .i64 d, .int .i64 la, .int .i64 u0, .int .i64 u1, .int .i64 u2, .int .i64 u3, .int .i64 u4], .int .i64 0, .bool false]) (results_cell3 (c := 6) (t := 7) (u := 8) (T := 121) (a := ⟨w.heap.size + 1, 0, none⟩) (by rfl) (by rfl) (by rfl) (by rfl) (load_spot ?_ ?_ ?_ ?_ ?_ ?_ ?_)) (by rfl) ?_
      rotate_right
      · refine ⟨rfl, ?_⟩
        iterate 7 refine Below.setCell ?_ (by simp) _
        exact hwB.trans (hex.mono hwB.size)
      all_goals go_simp
  · cases c2 : decide (f ≤ d)
    · cases c3 : decide (m ≤ u0)
      · cases c4 : decide (0 < d)
        · have hr : mayRes f m ⟨d, la, u0, u1, u2, u3, u4⟩ 0 = .tuple #[.agg #[.int .i64 (d + 1), .int .i64 0, .int .i64 (u0 + 1), .int .i64 u1, .int .i64 u2, .int .i64 u3, .int .i64 u4], .int .i64 0, .bool true] := by simp_all [mayRes, mayB, mayC, Spot.use, Spot.bump, Spot.val]; omega
          rw [hr]
          clear hr
          go_enter Try.func77, Try.ntmps77
          go_wp2_with (go_at_call 72; refine (had_any al lost cl 0 _ (hl.below (by (repeat (first | exact Below.refl _ _ | refine Below.alloc ?_ (by first | omega | (simp; done) | (simp; omega)) _ | refine Below.drew ?_ | refine Below.setCell ?_ (by first | omega | (simp; done) | (simp; omega)) _ | refine Below.trans ?_ (Below.mono (by assumption) (by first | omega | (simp; done) | (simp; omega))))))) ll).mono ?_; rintro e w1 ⟨rfl, hb1⟩; obtain ⟨hc1, hf1, hz1⟩ := bcell hb1; (try simp at hz1); (try (have hy0 : w.heap.size < w1.heap.size := by omega)); (try (have hy1 : w.heap.size + 1 < w1.heap.size := by omega)); (try (have hy2 : w.heap.size + 2 < w1.heap.size := by omega)); rw [Hf.out])
          have hbx : Below (w.heap.size + 1) (w.alloc (.cells #[.int .i64 d, .int .i64 la, .int .i64 u0, .int .i64 u1, .int .i64 u2, .int .i64 u3, .int .i64 u4] 121)) w1 := by (repeat (first | exact Below.refl _ _ | refine Below.alloc ?_ (by first | omega | (simp; done) | (simp; omega)) _ | refine Below.drew ?_ | refine Below.setCell ?_ (by first | omega | (simp; done) | (simp; omega)) _ | refine Below.trans ?_ (Below.mono (by assumption) (by first | omega | (simp; done) | (simp; omega)))))
          have hbz := box_spot (w := w.alloc (.cells #[.int .i64 d, .int .i64 la, .int .i64 u0, .int .i64 u1, .int .i64 u2, .int .i64 u3, .int .i64 u4] 121)) (hb1.mono (by simp))
          simp only [World.size_alloc] at hbz
          obtain ⟨k0, k1, k2, k3, k4, k5, k6⟩ := box_spot hbx
          obtain ⟨n0, n1, n2, n3, n4, n5, n6⟩ := hbz
          have hwB : Below w.heap.size w w1 := by (repeat (first | exact Below.refl _ _ | refine Below.alloc ?_ (by first | omega | (simp; done) | (simp; omega)) _ | refine Below.drew ?_ | refine Below.setCell ?_ (by first | omega | (simp; done) | (simp; omega)) _ | refine Below.trans ?_ (Below.mono (by assumption) (by first | omega | (simp; done) | (simp; omega)))))
          have hbb : b0 < w1.heap.size := by omega
          have h51 : w1.cell? ⟨b0, 5, none⟩ = some (.int .i64 m) := (hwB.cell (p := ⟨b0, 5, none⟩) hb0).trans h5
          (refine wp_region_ext 19 (by kernel_rfl) (by kernel_rfl) ?_; simp only [List.take_succ_cons, List.take_zero, List.drop_succ_cons, List.drop_zero]; (repeat (go_big_quiet_step ((fail)))); refine wpQuiet_nil ?_; rintro _ ⟨ex, rfl⟩; have hex := ex.below; have hexz := ex.size; (try simp at hexz); (try (have hy0 : w.heap.size < ex.to.heap.size := by omega)); (try (have hy1 : w.heap.size + 1 < ex.to.heap.size := by omega)); (try (have hy2 : w.heap.size + 2 < ex.to.heap.size := by omega)))
          obtain ⟨l0, l1, l2, l3, l4, l5, l6⟩ := box_ext ex (by omega) k0 k1 k2 k3 k4 k5 k6
          obtain ⟨o0, o1, o2, o3, o4, o5, o6⟩ := box_ext ex (by omega) n0 n1 n2 n3 n4 n5 n6
          go_wp2
          refine bodyPost_ret (v := .tuple #[.agg #[.int .i64 (d + 1), .int .i64 0, .int .i64 (u0 + 1), .int .i64 u1, .int .i64 u2, .int .i64 u3, .int .i64 u4], .int .i64 0, .bool true]) (results_cell3 (c := 6) (t := 7) (u := 8) (T := 121) (a := ⟨w.heap.size + 1, 0, none⟩) (by rfl) (by rfl) (by rfl) (by rfl) (load_spot ?_ ?_ ?_ ?_ ?_ ?_ ?_)) (by rfl) ?_
          rotate_right
          · refine ⟨rfl, ?_⟩
            iterate 8 refine Below.setCell ?_ (by simp) _
            exact hwB.trans (hex.mono hwB.size)
          all_goals go_simp
        · cases c5 : ((0 : Int) != la)
          · have hr : mayRes f m ⟨d, la, u0, u1, u2, u3, u4⟩ 0 = .tuple #[.agg #[.int .i64 (d + 1), .int .i64 0, .int .i64 (u0 + 1), .int .i64 u1, .int .i64 u2, .int .i64 u3, .int .i64 u4], .int .i64 0, .bool true] := by simp_all [mayRes, mayB, mayC, Spot.use, Spot.bump, Spot.val]
            rw [hr]
            clear hr
            go_enter Try.func77, Try.ntmps77
            go_wp2_with (go_at_call 72; refine (had_any al lost cl 0 _ (hl.below (by (repeat (first | exact Below.refl _ _ | refine Below.alloc ?_ (by first | omega | (simp; done) | (simp; omega)) _ | refine Below.drew ?_ | refine Below.setCell ?_ (by first | omega | (simp; done) | (simp; omega)) _ | refine Below.trans ?_ (Below.mono (by assumption) (by first | omega | (simp; done) | (simp; omega))))))) ll).mono ?_; rintro e w1 ⟨rfl, hb1⟩; obtain ⟨hc1, hf1, hz1⟩ := bcell hb1; (try simp at hz1); (try (have hy0 : w.heap.size < w1.heap.size := by omega)); (try (have hy1 : w.heap.size + 1 < w1.heap.size := by omega)); (try (have hy2 : w.heap.size + 2 < w1.heap.size := by omega)); rw [Hf.out])
            have hbx : Below (w.heap.size + 1) (w.alloc (.cells #[.int .i64 d, .int .i64 la, .int .i64 u0, .int .i64 u1, .int .i64 u2, .int .i64 u3, .int .i64 u4] 121)) w1 := by (repeat (first | exact Below.refl _ _ | refine Below.alloc ?_ (by first | omega | (simp; done) | (simp; omega)) _ | refine Below.drew ?_ | refine Below.setCell ?_ (by first | omega | (simp; done) | (simp; omega)) _ | refine Below.trans ?_ (Below.mono (by assumption) (by first | omega | (simp; done) | (simp; omega)))))
            have hbz := box_spot (w := w.alloc (.cells #[.int .i64 d, .int .i64 la, .int .i64 u0, .int .i64 u1, .int .i64 u2, .int .i64 u3, .int .i64 u4] 121)) (hb1.mono (by simp))
            simp only [World.size_alloc] at hbz
            obtain ⟨k0, k1, k2, k3, k4, k5, k6⟩ := box_spot hbx
            obtain ⟨n0, n1, n2, n3, n4, n5, n6⟩ := hbz
            have hwB : Below w.heap.size w w1 := by (repeat (first | exact Below.refl _ _ | refine Below.alloc ?_ (by first | omega | (simp; done) | (simp; omega)) _ | refine Below.drew ?_ | refine Below.setCell ?_ (by first | omega | (simp; done) | (simp; omega)) _ | refine Below.trans ?_ (Below.mono (by assumption) (by first | omega | (simp; done) | (simp; omega)))))
            have hbb : b0 < w1.heap.size := by omega
            have h51 : w1.cell? ⟨b0, 5, none⟩ = some (.int .i64 m) := (hwB.cell (p := ⟨b0, 5, none⟩) hb0).trans h5
            (refine wp_region_ext 19 (by kernel_rfl) (by kernel_rfl) ?_; simp only [List.take_succ_cons, List.take_zero, List.drop_succ_cons, List.drop_zero]; (repeat (go_big_quiet_step ((fail)))); refine wpQuiet_nil ?_; rintro _ ⟨ex, rfl⟩; have hex := ex.below; have hexz := ex.size; (try simp at hexz); (try (have hy0 : w.heap.size < ex.to.heap.size := by omega)); (try (have hy1 : w.heap.size + 1 < ex.to.heap.size := by omega)); (try (have hy2 : w.heap.size + 2 < ex.to.heap.size := by omega)))
            obtain ⟨l0, l1, l2, l3, l4, l5, l6⟩ := box_ext ex (by omega) k0 k1 k2 k3 k4 k5 k6
            obtain ⟨o0, o1, o2, o3, o4, o5, o6⟩ := box_ext ex (by omega) n0 n1 n2 n3 n4 n5 n6
            go_wp2
            refine bodyPost_ret (v := .tuple #[.agg #[.int .i64 (d + 1), .int .i64 0, .int .i64 (u0 + 1), .int .i64 u1, .int .i64 u2, .int .i64 u3, .int .i64 u4], .int .i64 0, .bool true]) (results_cell3 (c := 6) (t := 7) (u := 8) (T := 121) (a := ⟨w.heap.size + 1, 0, none⟩) (by rfl) (by rfl) (by rfl) (by rfl) (load_spot ?_ ?_ ?_ ?_ ?_ ?_ ?_)) (by rfl) ?_
            rotate_right
            · refine ⟨rfl, ?_⟩
              iterate 8 refine Below.setCell ?_ (by simp) _
              exact hwB.trans (hex.mono hwB.size)
            all_goals go_simp
          · have hr : mayRes f m ⟨d, la, u0, u1, u2, u3, u4⟩ 0 = .tuple #[.agg #[.int .i64 (d + 1), .int .i64 0, .int .i64 (u0 + 1), .int .i64 u1, .int .i64 u2, .int .i64 u3, .int .i64 u4], .int .i64 1, .bool true] := by simp_all [mayRes, mayB, mayC, Spot.use, Spot.bump, Spot.val]
            rw [hr]
            clear hr
            go_enter Try.func77, Try.ntmps77
            go_wp2_with (go_at_call 72; refine (had_any al lost cl 0 _ (hl.below (by (repeat (first | exact Below.refl _ _ | refine Below.alloc ?_ (by first | omega | (simp; done) | (simp; omega)) _ | refine Below.drew ?_ | refine Below.setCell ?_ (by first | omega | (simp; done) | (simp; omega)) _ | refine Below.trans ?_ (Below.mono (by assumption) (by first | omega | (simp; done) | (simp; omega))))))) ll).mono ?_; rintro e w1 ⟨rfl, hb1⟩; obtain ⟨hc1, hf1, hz1⟩ := bcell hb1; (try simp at hz1); (try (have hy0 : w.heap.size < w1.heap.size := by omega)); (try (have hy1 : w.heap.size + 1 < w1.heap.size := by omega)); (try (have hy2 : w.heap.size + 2 < w1.heap.size := by omega)); rw [Hf.out])
            have hbx : Below (w.heap.size + 1) (w.alloc (.cells #[.int .i64 d, .int .i64 la, .int .i64 u0, .int .i64 u1, .int .i64 u2, .int .i64 u3, .int .i64 u4] 121)) w1 := by (repeat (first | exact Below.refl _ _ | refine Below.alloc ?_ (by first | omega | (simp; done) | (simp; omega)) _ | refine Below.drew ?_ | refine Below.setCell ?_ (by first | omega | (simp; done) | (simp; omega)) _ | refine Below.trans ?_ (Below.mono (by assumption) (by first | omega | (simp; done) | (simp; omega)))))
            have hbz := box_spot (w := w.alloc (.cells #[.int .i64 d, .int .i64 la, .int .i64 u0, .int .i64 u1, .int .i64 u2, .int .i64 u3, .int .i64 u4] 121)) (hb1.mono (by simp))
            simp only [World.size_alloc] at hbz
            obtain ⟨k0, k1, k2, k3, k4, k5, k6⟩ := box_spot hbx
            obtain ⟨n0, n1, n2, n3, n4, n5, n6⟩ := hbz
            have hwB : Below w.heap.size w w1 := by (repeat (first | exact Below.refl _ _ | refine Below.alloc ?_ (by first | omega | (simp; done) | (simp; omega)) _ | refine Below.drew ?_ | refine Below.setCell ?_ (by first | omega | (simp; done) | (simp; omega)) _ | refine Below.trans ?_ (Below.mono (by assumption) (by first | omega | (simp; done) | (simp; omega)))))
            have hbb : b0 < w1.heap.size := by omega
            have h51 : w1.cell? ⟨b0, 5, none⟩ = some (.int .i64 m) := (hwB.cell (p := ⟨b0, 5, none⟩) hb0).trans h5
            (refine wp_region_ext 19 (by kernel_rfl) (by kernel_rfl) ?_; simp only [List.take_succ_cons, List.take_zero, List.drop_succ_cons, List.drop_zero]; (repeat (go_big_quiet_step ((fail)))); refine wpQuiet_nil ?_; rintro _ ⟨ex, rfl⟩; have hex := ex.below; have hexz := ex.size; (try simp at hexz); (try (have hy0 : w.heap.size < ex.to.heap.size := by omega)); (try (have hy1 : w.heap.size + 1 < ex.to.heap.size := by omega)); (try (have hy2 : w.heap.size + 2 < ex.to.heap.size := by omega)))
            obtain ⟨l0, l1, l2, l3, l4, l5, l6⟩ := box_ext ex (by omega) k0 k1 k2 k3 k4 k5 k6
            obtain ⟨o0, o1, o2, o3, o4, o5, o6⟩ := box_ext ex (by omega) n0 n1 n2 n3 n4 n5 n6
            go_wp2
            refine bodyPost_ret (v := .tuple #[.agg #[.int .i64 (d + 1), .int .i64 0, .int .i64 (u0 + 1), .int .i64 u1, .int .i64 u2, .int .i64 u3, .int .i64 u4], .int .i64 1, .bool true]) (results_cell3 (c := 6) (t := 7) (u := 8) (T := 121) (a := ⟨w.heap.size + 1, 0, none⟩) (by rfl) (by rfl) (by rfl) (by rfl) (load_spot ?_ ?_ ?_ ?_ ?_ ?_ ?_)) (by rfl) ?_
            rotate_right
            · refine ⟨rfl, ?_⟩
              iterate 8 refine Below.setCell ?_ (by simp) _
              exact hwB.trans (hex.mono hwB.size)
            all_goals go_simp
      · have hr : mayRes f m ⟨d, la, u0, u1, u2, u3, u4⟩ 0 = .tuple #[.agg #[.int .i64 d, .int .i64 la, .int .i64 u0, .int .i64 u1, .int .i64 u2, .int .i64 u3, .int .i64 u4], .int .i64 0, .bool false] := by simp_all [mayRes, mayB, mayC, Spot.use, Spot.bump, Spot.val]
        rw [hr]
        clear hr
        go_enter Try.func77, Try.ntmps77
        go_wp2_with (go_at_call 72; refine (had_any al lost cl 0 _ (hl.below (by (repeat (first | exact Below.refl _ _ | refine Below.alloc ?_ (by first | omega | (simp; done) | (simp; omega)) _ | refine Below.drew ?_ | refine Below.setCell ?_ (by first | omega | (simp; done) | (simp; omega)) _ | refine Below.trans ?_ (Below.mono (by assumption) (by first | omega | (simp; done) | (simp; omega))))))) ll).mono ?_; rintro e w1 ⟨rfl, hb1⟩; obtain ⟨hc1, hf1, hz1⟩ := bcell hb1; (try simp at hz1); (try (have hy0 : w.heap.size < w1.heap.size := by omega)); (try (have hy1 : w.heap.size + 1 < w1.heap.size := by omega)); (try (have hy2 : w.heap.size + 2 < w1.heap.size := by omega)); rw [Hf.out])
        have hbx : Below (w.heap.size + 1) (w.alloc (.cells #[.int .i64 d, .int .i64 la, .int .i64 u0, .int .i64 u1, .int .i64 u2, .int .i64 u3, .int .i64 u4] 121)) w1 := by (repeat (first | exact Below.refl _ _ | refine Below.alloc ?_ (by first | omega | (simp; done) | (simp; omega)) _ | refine Below.drew ?_ | refine Below.setCell ?_ (by first | omega | (simp; done) | (simp; omega)) _ | refine Below.trans ?_ (Below.mono (by assumption) (by first | omega | (simp; done) | (simp; omega)))))
        have hbz := box_spot (w := w.alloc (.cells #[.int .i64 d, .int .i64 la, .int .i64 u0, .int .i64 u1, .int .i64 u2, .int .i64 u3, .int .i64 u4] 121)) (hb1.mono (by simp))
        simp only [World.size_alloc] at hbz
        obtain ⟨k0, k1, k2, k3, k4, k5, k6⟩ := box_spot hbx
        obtain ⟨n0, n1, n2, n3, n4, n5, n6⟩ := hbz
        have hwB : Below w.heap.size w w1 := by (repeat (first | exact Below.refl _ _ | refine Below.alloc ?_ (by first | omega | (simp; done) | (simp; omega)) _ | refine Below.drew ?_ | refine Below.setCell ?_ (by first | omega | (simp; done) | (simp; omega)) _ | refine Below.trans ?_ (Below.mono (by assumption) (by first | omega | (simp; done) | (simp; omega)))))
        have hbb : b0 < w1.heap.size := by omega
        have h51 : w1.cell? ⟨b0, 5, none⟩ = some (.int .i64 m) := (hwB.cell (p := ⟨b0, 5, none⟩) hb0).trans h5
        (refine wp_region_ext 19 (by kernel_rfl) (by kernel_rfl) ?_; simp only [List.take_succ_cons, List.take_zero, List.drop_succ_cons, List.drop_zero]; (repeat (go_big_quiet_step ((fail)))); refine wpQuiet_nil ?_; rintro _ ⟨ex, rfl⟩; have hex := ex.below; have hexz := ex.size; (try simp at hexz); (try (have hy0 : w.heap.size < ex.to.heap.size := by omega)); (try (have hy1 : w.heap.size + 1 < ex.to.heap.size := by omega)); (try (have hy2 : w.heap.size + 2 < ex.to.heap.size := by omega)))
        obtain ⟨l0, l1, l2, l3, l4, l5, l6⟩ := box_ext ex (by omega) k0 k1 k2 k3 k4 k5 k6
        obtain ⟨o0, o1, o2, o3, o4, o5, o6⟩ := box_ext ex (by omega) n0 n1 n2 n3 n4 n5 n6
        go_wp2
        refine bodyPost_ret (v := .tuple #[.agg #[.int .i64 d, .int .i64 la, .int .i64 u0, .int .i64 u1, .int .i64 u2, .int .i64 u3, .int .i64 u4], .int .i64 0, .bool false]) (results_cell3 (c := 6) (t := 7) (u := 8) (T := 121) (a := ⟨w.heap.size + 1, 0, none⟩) (by rfl) (by rfl) (by rfl) (by rfl) (load_spot ?_ ?_ ?_ ?_ ?_ ?_ ?_)) (by rfl) ?_
        rotate_right
        · refine ⟨rfl, ?_⟩
          iterate 7 refine Below.setCell ?_ (by simp) _
          exact hwB.trans (hex.mono hwB.size)
        all_goals go_simp
    · have hr : mayRes f m ⟨d, la, u0, u1, u2, u3, u4⟩ 0 = .tuple #[.agg #[.int .i64 d, .int .i64 la, .int .i64 u0, .int .i64 u1, .int .i64 u2, .int .i64 u3, .int .i64 u4], .int .i64 0, .bool false] := by simp_all [mayRes, mayB, mayC, Spot.use, Spot.bump, Spot.val]
      rw [hr]
      clear hr
      go_enter Try.func77, Try.ntmps77
      go_wp2_with (go_at_call 72; refine (had_any al lost cl 0 _ (hl.below (by (repeat (first | exact Below.refl _ _ | refine Below.alloc ?_ (by first | omega | (simp; done) | (simp; omega)) _ | refine Below.drew ?_ | refine Below.setCell ?_ (by first | omega | (simp; done) | (simp; omega)) _ | refine Below.trans ?_ (Below.mono (by assumption) (by first | omega | (simp; done) | (simp; omega))))))) ll).mono ?_; rintro e w1 ⟨rfl, hb1⟩; obtain ⟨hc1, hf1, hz1⟩ := bcell hb1; (try simp at hz1); (try (have hy0 : w.heap.size < w1.heap.size := by omega)); (try (have hy1 : w.heap.size + 1 < w1.heap.size := by omega)); (try (have hy2 : w.heap.size + 2 < w1.heap.size := by omega)); rw [Hf.out])
      have hbx : Below (w.heap.size + 1) (w.alloc (.cells #[.int .i64 d, .int .i64 la, .int .i64 u0, .int .i64 u1, .int .i64 u2, .int .i64 u3, .int .i64 u4] 121)) w1 := by (repeat (first | exact Below.refl _ _ | refine Below.alloc ?_ (by first | omega | (simp; done) | (simp; omega)) _ | refine Below.drew ?_ | refine Below.setCell ?_ (by first | omega | (simp; done) | (simp; omega)) _ | refine Below.trans ?_ (Below.mono (by assumption) (by first | omega | (simp; done) | (simp; omega)))))
      have hbz := box_spot (w := w.alloc (.cells #[.int .i64 d, .int .i64 la, .int .i64 u0, .int .i64 u1, .int .i64 u2, .int .i64 u3, .int .i64 u4] 121)) (hb1.mono (by simp))
      simp only [World.size_alloc] at hbz
      obtain ⟨k0, k1, k2, k3, k4, k5, k6⟩ := box_spot hbx
      obtain ⟨n0, n1, n2, n3, n4, n5, n6⟩ := hbz
      have hwB : Below w.heap.size w w1 := by (repeat (first | exact Below.refl _ _ | refine Below.alloc ?_ (by first | omega | (simp; done) | (simp; omega)) _ | refine Below.drew ?_ | refine Below.setCell ?_ (by first | omega | (simp; done) | (simp; omega)) _ | refine Below.trans ?_ (Below.mono (by assumption) (by first | omega | (simp; done) | (simp; omega)))))
      have hbb : b0 < w1.heap.size := by omega
      have h51 : w1.cell? ⟨b0, 5, none⟩ = some (.int .i64 m) := (hwB.cell (p := ⟨b0, 5, none⟩) hb0).trans h5
      (refine wp_region_ext 19 (by kernel_rfl) (by kernel_rfl) ?_; simp only [List.take_succ_cons, List.take_zero, List.drop_succ_cons, List.drop_zero]; (repeat (go_big_quiet_step ((fail)))); refine wpQuiet_nil ?_; rintro _ ⟨ex, rfl⟩; have hex := ex.below; have hexz := ex.size; (try simp at hexz); (try (have hy0 : w.heap.size < ex.to.heap.size := by omega)); (try (have hy1 : w.heap.size + 1 < ex.to.heap.size := by omega)); (try (have hy2 : w.heap.size + 2 < ex.to.heap.size := by omega)))
      obtain ⟨l0, l1, l2, l3, l4, l5, l6⟩ := box_ext ex (by omega) k0 k1 k2 k3 k4 k5 k6
      obtain ⟨o0, o1, o2, o3, o4, o5, o6⟩ := box_ext ex (by omega) n0 n1 n2 n3 n4 n5 n6
      go_wp2
      refine bodyPost_ret (v := .tuple #[.agg #[.int .i64 d, .int .i64 la, .int .i64 u0, .int .i64 u1, .int .i64 u2, .int .i64 u3, .int .i64 u4], .int .i64 0, .bool false]) (results_cell3 (c := 6) (t := 7) (u := 8) (T := 121) (a := ⟨w.heap.size + 1, 0, none⟩) (by rfl) (by rfl) (by rfl) (by rfl) (load_spot ?_ ?_ ?_ ?_ ?_ ?_ ?_)) (by rfl) ?_
      rotate_right
      · refine ⟨rfl, ?_⟩
        iterate 7 refine Below.setCell ?_ (by simp) _
        exact hwB.trans (hex.mono hwB.size)
      all_goals go_simp


end Go.Proofs.Ytmplgcefhpobgaa
