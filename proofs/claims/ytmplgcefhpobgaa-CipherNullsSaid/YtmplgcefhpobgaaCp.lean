/- cipher: fewest -/
import Derived.Test.YtmplgcefhpobgaaCo
namespace Go.Proofs.Ytmplgcefhpobgaa
set_option linter.unusedVariables false
set_option linter.unusedSimpArgs false
set_option linter.unnecessarySimpa false
open Go.RowKit Go.Flow

def fewStep (F : Nat → Int) (m : Int) (s : Spot) (g : Spot → Int) (n : Int) (k : Nat) : Int := if mayB (F k) m s k then min n (mayC s k + g (s.bump k)) else n
def fewR (F : Nat → Int) (m : Int) (nk : Nat) : Nat → Spot → Int
  | 0, _ => 0
  | r + 1, s => (List.range nk).foldl (fewStep F m s (fewR F m nk r)) 1048576
def fewK (F : Nat → Int) (m : Int) (nk : Nat) (r : Nat) (s : Spot) (j : Nat) : Int := (List.range j).foldl (fewStep F m s (fewR F m nk r)) 1048576
theorem fewK_succ (F : Nat → Int) (m : Int) (nk : Nat) (r : Nat) (s : Spot) (j : Nat) : fewK F m nk r s (j + 1) = fewStep F m s (fewR F m nk r) (fewK F m nk r s j) j := by
  unfold fewK
  rw [List.range_succ, List.foldl_append]
  rfl
theorem mayC_b (s : Spot) (k : Nat) : 0 ≤ mayC s k ∧ mayC s k ≤ 1 := by
  unfold mayC
  split <;> omega
theorem few_fold_b (F : Nat → Int) (m : Int) (s : Spot) (g : Spot → Int) (hg : ∀ t, 0 ≤ g t) : ∀ (l : List Nat) (n : Int), 0 ≤ n → n ≤ 1048576 → 0 ≤ l.foldl (fewStep F m s g) n ∧ l.foldl (fewStep F m s g) n ≤ 1048576
  | [], n, h0, h1 => ⟨h0, h1⟩
  | k :: l, n, h0, h1 => by
    have hc := mayC_b s k
    have hgk := hg (s.bump k)
    refine few_fold_b F m s g hg l _ ?_ ?_
    · unfold fewStep; split <;> omega
    · unfold fewStep; split <;> omega
theorem fewR_b (F : Nat → Int) (m : Int) (nk : Nat) : ∀ (r : Nat) (s : Spot), 0 ≤ fewR F m nk r s ∧ fewR F m nk r s ≤ 1048576
  | 0, _ => by simp [fewR]
  | r + 1, s => few_fold_b F m s _ (fun t => (fewR_b F m nk r t).1) _ _ (by omega) (by omega)
theorem fewK_b (F : Nat → Int) (m : Int) (nk r : Nat) (s : Spot) (j : Nat) : 0 ≤ fewK F m nk r s j ∧ fewK F m nk r s j ≤ 1048576 :=
  few_fold_b F m s _ (fun t => (fewR_b F m nk r t).1) _ _ (by omega) (by omega)

def cost : Nat → Nat
  | 0 => 0
  | r + 1 => 1 + 5 * cost r

structure Spot.Ok (s : Spot) (nd : Nat) : Prop where
  d0 : 0 ≤ s.day
  d1 : s.day ≤ nd
  l0 : 0 ≤ s.last
  l1 : s.last ≤ 5
  n0 : 0 ≤ s.u0 ∧ s.u0 ≤ s.day
  n1 : 0 ≤ s.u1 ∧ s.u1 ≤ s.day
  n2 : 0 ≤ s.u2 ∧ s.u2 ≤ s.day
  n3 : 0 ≤ s.u3 ∧ s.u3 ≤ s.day
  n4 : 0 ≤ s.u4 ∧ s.u4 ≤ s.day
theorem Spot.Ok.fine {s : Spot} {nd : Nat} (h : s.Ok nd) (hn : nd ≤ 1000) : s.Fine := by
  obtain ⟨d, la, u0, u1, u2, u3, u4⟩ := s
  obtain ⟨d0, d1, l0, l1, n0, n1, n2, n3, n4⟩ := h
  simp only at *
  constructor <;> simp only <;> omega
theorem Spot.Ok.bump {s : Spot} {nd : Nat} (h : s.Ok nd) (hd : s.day < nd) (k : Nat) : (s.bump k).Ok nd := by
  obtain ⟨d, la, u0, u1, u2, u3, u4⟩ := s
  obtain ⟨d0, d1, l0, l1, n0, n1, n2, n3, n4⟩ := h
  simp only at *
  match k with
  | 0 => constructor <;> simp only [Spot.bump] <;> omega
  | 1 => constructor <;> simp only [Spot.bump] <;> omega
  | 2 => constructor <;> simp only [Spot.bump] <;> omega
  | 3 => constructor <;> simp only [Spot.bump] <;> omega
  | k + 4 => constructor <;> simp only [Spot.bump] <;> omega
theorem bump_day (s : Spot) (k : Nat) : (s.bump k).day = s.day + 1 := by
  match k with
  | 0 | 1 | 2 | 3 => rfl
  | k + 4 => rfl

/-- A work: its book's lists, its losses, its bound, its map. -/
structure WorkAt (w : World) (b0 bm : Nat) (ak : Option Addr) (nk ck : Nat) (ad : Option Addr) (nd cd : Nat) (al : Option Addr) (lost : List (Int × Int)) (cl : Nat) (m : Int) : Prop where
  c2 : w.cell? ⟨b0, 2, none⟩ = some (.slice ak nk ck)
  c3 : w.cell? ⟨b0, 3, none⟩ = some (.slice ad nd cd)
  c4 : w.cell? ⟨b0, 4, none⟩ = some (.slice al lost.length cl)
  c5 : w.cell? ⟨b0, 5, none⟩ = some (.int .i64 m)
  c6 : w.cell? ⟨b0, 6, none⟩ = some (.map (some bm))
  hl : Recs2At w al lost
theorem WorkAt.keep {w w' : World} {b0 bm : Nat} {ak : Option Addr} {nk ck : Nat} {ad : Option Addr} {nd cd : Nat} {al : Option Addr} {lost : List (Int × Int)} {cl : Nat} {m : Int} (h : WorkAt w b0 bm ak nk ck ad nd cd al lost cl m) (k : Keep bm w w') :
    WorkAt w' b0 bm ak nk ck ad nd cd al lost cl m := ⟨k.cell h.c2, k.cell h.c3, k.cell h.c4, k.cell h.c5, k.cell h.c6, h.hl.keep k⟩
theorem WorkAt.below {w w' : World} {b0 bm : Nat} {ak : Option Addr} {nk ck : Nat} {ad : Option Addr} {nd cd : Nat} {al : Option Addr} {lost : List (Int × Int)} {cl : Nat} {m : Int} (h : WorkAt w b0 bm ak nk ck ad nd cd al lost cl m) (k : Below w.heap.size w w') :
    WorkAt w' b0 bm ak nk ck ad nd cd al lost cl m := ⟨below_cell k h.c2, below_cell k h.c3, below_cell k h.c4, below_cell k h.c5, below_cell k h.c6, h.hl.below k⟩
theorem WorkAt.lt {w : World} {b0 bm : Nat} {ak : Option Addr} {nk ck : Nat} {ad : Option Addr} {nd cd : Nat} {al : Option Addr} {lost : List (Int × Int)} {cl : Nat} {m : Int} (h : WorkAt w b0 bm ak nk ck ad nd cd al lost cl m) : b0 < w.heap.size := cell_lt h.c2

theorem i64_wf_big (x : Int) (h0 : 0 ≤ x) (h1 : x ≤ 2000000) : (Lit.int .i64 x).wf = true := by
  simp [Lit.wf, IntKind.min, IntKind.max, IntKind.bits, IntKind.signed]
  omega

theorem ints_two (w : World) (x y : Int) (T : TypeId) : IntsAt (w.alloc (.cells #[.int .i64 x, .int .i64 y] T)) (some ⟨w.heap.size, 0, none⟩) [x, y] := by
  have hh := (MapKept.heap_alloc w (.cells #[.int .i64 x, .int .i64 y] T)).1
  intro k hk
  refine ⟨w.heap.size, 0, rfl, (Array.getElem?_eq_some_iff.1 hh).1, ?_⟩
  show (match (w.alloc (.cells #[.int .i64 x, .int .i64 y] T)).heap[w.heap.size]? with | some (.cells c _ _) => c[0 + k]? | _ => none) = _
  rw [hh]
  match k, hk with
  | 0, _ => rfl
  | 1, _ => rfl

set_option maxRecDepth 100000 in
set_option maxHeartbeats 1000000 in
theorem fewest_any (b0 bm : Nat) (ak : Option Addr) (nk ck : Nat) (ad : Option Addr) (nd cd : Nat) (al : Option Addr) (lost : List (Int × Int)) (cl : Nat) (m : Int) (hnk : nk ≤ 5) (hnd : nd ≤ 100) (ll : lost.length ≤ 1000) :
    ∀ (r : Nat) (s : Spot) (n : Nat) (w : World), s.day + r = nd → s.Ok nd → WorkAt w b0 bm ak nk ck ad nd cd al lost cl m →
      MemoAt w bm n (fun s => fewR (fun k => hadN lost k) m nk (nd - s.day).toNat s) → n + cost r < maxLen →
    Calls Try.prog 75 #[Value.pointer (some ⟨b0, 0, none⟩), s.val] w fun e w' => e = .returned (.int .i64 (fewR (fun k => hadN lost k) m nk r s)) ∧ Keep bm w w' ∧
      MemoAt w' bm (n + cost r) (fun s => fewR (fun k => hadN lost k) m nk (nd - s.day).toNat s) := by
  generalize hG : (fun s : Spot => fewR (fun k => hadN lost k) m nk (nd - s.day).toNat s) = G
  intro r
  induction r with
  | zero =>
    rintro ⟨d, la, u0, u1, u2, u3, u4⟩ n w hday hs hw hm hn
    simp only at hday
    have hd : d = nd := by omega
    have hb0 := hw.lt
    have h3 := hw.c3
    show Calls Try.prog 75 #[Value.pointer (some ⟨b0, 0, none⟩), .agg #[.int .i64 d, .int .i64 la, .int .i64 u0, .int .i64 u1, .int .i64 u2, .int .i64 u3, .int .i64 u4]] w _
    subst hd
    go_enter Try.func75, Try.ntmps75
    go_wp2
    have hbx : Below w.heap.size w (w.alloc (.cells #[.int .i64 nd, .int .i64 la, .int .i64 u0, .int .i64 u1, .int .i64 u2, .int .i64 u3, .int .i64 u4] 121)) := by (repeat (first | exact Below.refl _ _ | refine Below.alloc ?_ (by first | omega | (simp; done) | (simp; omega)) _ | refine Below.drew ?_ | refine Below.setCell ?_ (by first | omega | (simp; done) | (simp; omega)) _ | refine Below.trans ?_ (Below.mono (by assumption) (by first | omega | (simp; done) | (simp; omega)))))
    (refine wp_region_ext 9 (by kernel_rfl) (by kernel_rfl) ?_; simp only [List.take_succ_cons, List.take_zero, List.drop_succ_cons, List.drop_zero]; (repeat (go_big_quiet_step ((fail)))); refine wpQuiet_nil ?_; rintro _ ⟨ex, rfl⟩; have hex := ex.below; have hexz := ex.size; (try simp at hexz); (try (have hy0 : w.heap.size < ex.to.heap.size := by omega)); (try (have hy1 : w.heap.size + 1 < ex.to.heap.size := by omega)); (try (have hy2 : w.heap.size + 2 < ex.to.heap.size := by omega)))
    go_wp2
    go_ret
    have hwe := hbx.trans (hex.mono hbx.size)
    exact ⟨rfl, Keep.of_below hm.isMap hwe, (hm.below hwe).mono (by omega)⟩
  | succ r ih =>
    rintro ⟨d, la, u0, u1, u2, u3, u4⟩ n w hday hs hw hm hn
    simp only at hday
    have hdl : d < nd := by omega
    have hd0 := hs.d0
    simp only at hd0
    have t1 : (d == (nd : Int)) = false := by simp; omega
    have hfine := hs.fine (by omega)
    have hGs : G ⟨d, la, u0, u1, u2, u3, u4⟩ = fewR (fun k => hadN lost k) m nk (r + 1) ⟨d, la, u0, u1, u2, u3, u4⟩ := by
      rw [← hG]
      simp only
      rw [show ((nd : Int) - d).toNat = r + 1 by omega]
    have hb0 := hw.lt
    have h3 := hw.c3
    show Calls Try.prog 75 #[Value.pointer (some ⟨b0, 0, none⟩), .agg #[.int .i64 d, .int .i64 la, .int .i64 u0, .int .i64 u1, .int .i64 u2, .int .i64 u3, .int .i64 u4]] w _
    go_enter Try.func75, Try.ntmps75
    go_wp2
    have hbx : Below w.heap.size w (w.alloc (.cells #[.int .i64 d, .int .i64 la, .int .i64 u0, .int .i64 u1, .int .i64 u2, .int .i64 u3, .int .i64 u4] 121)) := by (repeat (first | exact Below.refl _ _ | refine Below.alloc ?_ (by first | omega | (simp; done) | (simp; omega)) _ | refine Below.drew ?_ | refine Below.setCell ?_ (by first | omega | (simp; done) | (simp; omega)) _ | refine Below.trans ?_ (Below.mono (by assumption) (by first | omega | (simp; done) | (simp; omega)))))
    obtain ⟨k0, k1, k2, k3, k4, k5, k6⟩ := box_spot (w := w) (T := 121) (Below.refl (w.heap.size + 1) (w.alloc (.cells #[.int .i64 d, .int .i64 la, .int .i64 u0, .int .i64 u1, .int .i64 u2, .int .i64 u3, .int .i64 u4] 121)))
    (refine wp_region_ext 9 (by kernel_rfl) (by kernel_rfl) ?_; simp only [List.take_succ_cons, List.take_zero, List.drop_succ_cons, List.drop_zero]; (repeat (go_big_quiet_step ((fail)))); refine wpQuiet_nil ?_; rintro wA ⟨⟨_, hex⟩, rfl⟩; (try dsimp only); obtain ⟨hc1, hf1, hz1⟩ := bcell hex; (try simp at hz1); (try (have hy0 : w.heap.size < wA.heap.size := by omega)); (try (have hy1 : w.heap.size + 1 < wA.heap.size := by omega)); (try (have hy2 : w.heap.size + 2 < wA.heap.size := by omega)))
    clear hc1 hf1
    have hwA := hbx.trans (hex.mono hbx.size)
    have hxA : Below (w.heap.size + 1) (w.alloc (.cells #[.int .i64 d, .int .i64 la, .int .i64 u0, .int .i64 u1, .int .i64 u2, .int .i64 u3, .int .i64 u4] 121)) wA := hex.mono (by simp)
    clear k0 k1 k2 k3 k4 k5 k6 h3
    obtain ⟨k0, k1, k2, k3, k4, k5, k6⟩ := box_spot hxA
    have hkA := hw.below hwA
    have hmA := hm.below hwA
    have hzA : w.heap.size < wA.heap.size := by omega
    have hbA : b0 < wA.heap.size := by omega
    have h2 := hkA.c2
    have h3 := hkA.c3
    have h6 := hkA.c6
    obtain ⟨c, hit, hlk, hcG⟩ := hmA.look ⟨d, la, u0, u1, u2, u3, u4⟩ hfine
    simp only [Spot.val] at hlk
    cases hit
    · clear hcG
      go_wp2
      (refine wp_region_ext 11 (by kernel_rfl) (by kernel_rfl) ?_; simp only [List.take_succ_cons, List.take_zero, List.drop_succ_cons, List.drop_zero]; (repeat (go_big_quiet_step ((fail)))); refine wpQuiet_nil ?_; rintro wS ⟨⟨_, hex⟩, rfl⟩; (try dsimp only); obtain ⟨hc1, hf1, hz1⟩ := bcell hex; (try simp at hz1); (try (have hy0 : w.heap.size < wS.heap.size := by omega)); (try (have hy1 : w.heap.size + 1 < wS.heap.size := by omega)); (try (have hy2 : w.heap.size + 2 < wS.heap.size := by omega)))
      clear hc1 hf1
      have hwS := hwA.trans (hex.mono hwA.size)
      have hkS := hkA.below hex
      have hmS := hmA.below hex
      have q0 := below_cell hex k0
      have q1 := below_cell hex k1
      have q2 := below_cell hex k2
      have q3 := below_cell hex k3
      have q4 := below_cell hex k4
      have q5 := below_cell hex k5
      have q6 := below_cell hex k6
      have hzS : w.heap.size < wS.heap.size := by omega
      have g2 := hkS.c2
      clear k0 k1 k2 k3 k4 k5 k6 h2 h3 h6 hlk
      go_wp2
      obtain ⟨F, hF⟩ : ∃ F : Nat → Int, (fun k : Nat => hadN lost k) = F := ⟨_, rfl⟩
      rw [hF] at hGs ih
      have hFk : ∀ k : Nat, hadN lost k = F k := fun k => by rw [← hF]
      go_loopw [5, 7, 8, 9, 10, 37] (fun v _ _ _ _ i wr => ∃ j : Nat, j ≤ nk ∧ i = .int .i64 j ∧ v = .int .i64 (fewK F m nk r ⟨d, la, u0, u1, u2, u3, u4⟩ j) ∧ Keep bm wS wr ∧ MemoAt wr bm (n + j * cost r) G)
        (fun _ _ _ _ _ i _ => nk - (intOf i).toNat)
      case atStart => exact ⟨0, Nat.zero_le _, rfl, rfl, Keep.refl hmS.isMap, by simpa using hmS⟩
      case round =>
        obtain ⟨j, hj, rfl, rfl, hkp, hmr⟩ := hrel
        have hkR := hkS.keep hkp
        have p0 := hkp.cell q0
        have p1 := hkp.cell q1
        have p2 := hkp.cell q2
        have p3 := hkp.cell q3
        have p4 := hkp.cell q4
        have p5 := hkp.cell q5
        have p6 := hkp.cell q6
        have hkz := hkp.size
        have hzR : w.heap.size < wr.heap.size := by omega
        have hbR : b0 < wr.heap.size := by omega
        by_cases hlt : j < nk
        · have hst := fewK_succ F m nk r ⟨d, la, u0, u1, u2, u3, u4⟩ j
          obtain ⟨f, hf⟩ : ∃ f, fewK F m nk r ⟨d, la, u0, u1, u2, u3, u4⟩ j = f := ⟨_, rfl⟩
          have hfb := fewK_b F m nk r ⟨d, la, u0, u1, u2, u3, u4⟩ j
          rw [hf] at hst hfb ⊢
          unfold fewStep at hst
          cases hB : mayB (F j) m ⟨d, la, u0, u1, u2, u3, u4⟩ j
          · rw [hB] at hst
            have hst2 : Hid (fewK F m nk r ⟨d, la, u0, u1, u2, u3, u4⟩ (j + 1) = f) := Lib.hid (by simpa using hst)
            have hres : mayRes (F j) m ⟨d, la, u0, u1, u2, u3, u4⟩ j = .tuple #[.agg #[.int .i64 d, .int .i64 la, .int .i64 u0, .int .i64 u1, .int .i64 u2, .int .i64 u3, .int .i64 u4], .int .i64 0, .bool false] := by
              unfold mayRes; rw [hB]; rfl
            clear hst hf hB
            go_wp2_with (go_at_call 77; refine (may_any b0 al lost cl m ⟨d, la, u0, u1, u2, u3, u4⟩ j (by omega) _ (by omega) hkR.c4 hkR.c5 hkR.hl ll hfine).mono ?_; rw [hFk, hres]; rintro e w1 ⟨rfl, hb1⟩; have hb1z := hb1.size)
            have hB1 : Below wr.heap.size wr (w1.alloc (.cells #[.int .i64 d, .int .i64 la, .int .i64 u0, .int .i64 u1, .int .i64 u2, .int .i64 u3, .int .i64 u4] 121)) := hb1.alloc hb1.size _
            go_roundw
            case rel => exact ⟨j + 1, by omega, by go_num, by rw [hst2.out], hkp.below hB1, (hmr.below hB1).mono (Nat.add_le_add_left (Nat.mul_le_mul_right _ (Nat.le_succ j)) n)⟩
            case measure => simp [intOf]; omega
          · rw [hB] at hst
            have hok := hs.bump (by simp only; omega) j
            have hdy := bump_day ⟨d, la, u0, u1, u2, u3, u4⟩ j
            have hgb := fewR_b F m nk r (Spot.bump ⟨d, la, u0, u1, u2, u3, u4⟩ j)
            have hcb := mayC_b ⟨d, la, u0, u1, u2, u3, u4⟩ j
            have hres : mayRes (F j) m ⟨d, la, u0, u1, u2, u3, u4⟩ j = .tuple #[(Spot.bump ⟨d, la, u0, u1, u2, u3, u4⟩ j).val, .int .i64 (mayC ⟨d, la, u0, u1, u2, u3, u4⟩ j), .bool true] := by
              unfold mayRes; rw [hB]; rfl
            obtain ⟨cc, hcc⟩ : ∃ cc, mayC ⟨d, la, u0, u1, u2, u3, u4⟩ j = cc := ⟨_, rfl⟩
            obtain ⟨s', hs'⟩ : ∃ s', Spot.bump ⟨d, la, u0, u1, u2, u3, u4⟩ j = s' := ⟨_, rfl⟩
            obtain ⟨gg, hgg⟩ : ∃ gg, fewR F m nk r s' = gg := ⟨_, rfl⟩
            rw [hs'] at hok hdy hgb hres hst
            rw [hcc] at hcb hres hst
            rw [hgg] at hgb hst
            have hst2 : Hid (fewK F m nk r ⟨d, la, u0, u1, u2, u3, u4⟩ (j + 1) = min f (cc + gg)) := Lib.hid (by simpa using hst)
            have hgg2 := Lib.hid hgg
            obtain ⟨d', la', v0, v1, v2, v3, v4⟩ := s'
            simp only at hdy
            subst hdy
            simp only [Spot.val] at hres
            have x0 : IntKind.i64.wrap (cc + gg) = cc + gg := IntWalk.i64_in _ (by omega)
            have hcost : n + j * cost r + cost r < maxLen := by
              have h5 : (j + 1) * cost r ≤ 5 * cost r := Nat.mul_le_mul_right _ (by omega)
              rw [Nat.succ_mul] at h5
              simp only [cost] at hn
              omega
            have hih : ∀ W, Below wr.heap.size wr W → Calls Try.prog 75 #[Value.pointer (some ⟨b0, 0, none⟩), .agg #[.int .i64 (d + 1), .int .i64 la', .int .i64 v0, .int .i64 v1, .int .i64 v2, .int .i64 v3, .int .i64 v4]] W
                fun e w' => e = .returned (.int .i64 gg) ∧ Keep bm W w' ∧ MemoAt w' bm (n + j * cost r + cost r) G := fun W hW => by
              have h9 := ih ⟨d + 1, la', v0, v1, v2, v3, v4⟩ (n + j * cost r) W (by simp only; omega) hok (hkR.below hW) (hmr.below hW) hcost
              rw [hgg] at h9
              exact h9
            clear hst hf hB hs' hcc hgg ih
            go_wp2_with (first
              | (go_at_call 77; refine (may_any b0 al lost cl m ⟨d, la, u0, u1, u2, u3, u4⟩ j (by omega) _ (by omega) hkR.c4 hkR.c5 hkR.hl ll hfine).mono ?_; rw [hFk, hres]; rintro e w1 ⟨rfl, hb1⟩; have hb1z := hb1.size)
              | (go_at_call 75; refine (hih _ (hb1.alloc hb1.size _)).mono ?_; rintro e w3 ⟨rfl, hk3, hm3⟩)
              | (go_at_call 93; refine (minimum_two _ f (cc + gg) 2 _ (ints_two _ _ _ _)).mono ?_; rintro e w4 ⟨rfl, hb4⟩))
            have hB1 : Below wr.heap.size wr (w1.alloc (.cells #[.int .i64 (d + 1), .int .i64 la', .int .i64 v0, .int .i64 v1, .int .i64 v2, .int .i64 v3, .int .i64 v4] 121)) := hb1.alloc hb1.size _
            have hB4 : Below w3.heap.size w3 w4 := ((Below.refl w3.heap.size w3).alloc (Nat.le_refl _) _).trans (hb4.mono (by simp))
            go_roundw
            case rel => exact ⟨j + 1, by omega, by go_num, by rw [hst2.out], ((hkp.below hB1).trans hk3).below hB4, (hm3.below hB4).mono (by rw [Nat.succ_mul]; omega)⟩
            case measure => simp [intOf]; omega
        · obtain rfl : nk = j := by omega
          have h6 := hkR.c6
          have hfb := fewK_b F m nk r ⟨d, la, u0, u1, u2, u3, u4⟩ nk
          have hfe : fewK F m nk r ⟨d, la, u0, u1, u2, u3, u4⟩ nk = G ⟨d, la, u0, u1, u2, u3, u4⟩ := by rw [hGs]; rfl
          rw [hfe] at hfb ⊢
          obtain ⟨gg, hgg⟩ : ∃ gg, G ⟨d, la, u0, u1, u2, u3, u4⟩ = gg := ⟨_, rfl⟩
          rw [hgg] at hfb hGs ⊢
          clear hfe
          go_wp2
          (refine wp_region_ext 6 (by kernel_rfl) (by kernel_rfl) ?_; simp only [List.take_succ_cons, List.take_zero, List.drop_succ_cons, List.drop_zero]; (repeat (go_big_quiet_step ((fail)))); refine wpQuiet_nil ?_; rintro wM ⟨⟨_, hex⟩, rfl⟩; (try dsimp only); obtain ⟨hc1, hf1, hz1⟩ := bcell hex; (try simp at hz1); (try (have hy0 : w.heap.size < wM.heap.size := by omega)); (try (have hy1 : w.heap.size + 1 < wM.heap.size := by omega)); (try (have hy2 : w.heap.size + 2 < wM.heap.size := by omega)))
          clear hc1 hf1
          refine wpList_memo_put ⟨d, la, u0, u1, u2, u3, u4⟩ hfine rfl _ _ _ rfl rfl rfl gg rfl hgg.symm (i64_wf_big gg (by omega) (by omega)) (hmr.below hex) ?_ ?_
          · have h5 : nk * cost r ≤ 5 * cost r := Nat.mul_le_mul_right _ hnk
            simp only [cost] at hn
            omega
          intro wN hmN hkN
          go_wp2
          go_ret
          have h5 : nk * cost r ≤ 5 * cost r := Nat.mul_le_mul_right _ hnk
          refine ⟨?_, (((Keep.of_below hm.isMap hwS).trans hkp).below hex).trans hkN, hmN.mono (by simp only [cost]; omega)⟩
          subst hF
          have e9 : Ending.returned (.int .i64 gg) = Ending.returned (.int .i64 (fewR (fun k => hadN lost k) m nk (r + 1) ⟨d, la, u0, u1, u2, u3, u4⟩)) := by rw [← hGs]
          first
            | rfl
            | exact e9
    · have hc := hcG rfl
      clear hcG
      go_wp2
      (refine wp_region_ext 11 (by kernel_rfl) (by kernel_rfl) ?_; simp only [List.take_succ_cons, List.take_zero, List.drop_succ_cons, List.drop_zero]; (repeat (go_big_quiet_step ((fail)))); refine wpQuiet_nil ?_; rintro _ ⟨ex, rfl⟩; have hex := ex.below; have hexz := ex.size; (try simp at hexz); (try (have hy0 : w.heap.size < ex.to.heap.size := by omega)); (try (have hy1 : w.heap.size + 1 < ex.to.heap.size := by omega)); (try (have hy2 : w.heap.size + 2 < ex.to.heap.size := by omega)))
      go_wp2
      go_ret
      have hwe := hwA.trans (hex.mono hwA.size)
      refine ⟨?_, Keep.of_below hm.isMap hwe, (hm.below hwe).mono (by omega)⟩
      rw [← hGs, ← hc]
      rfl

end Go.Proofs.Ytmplgcefhpobgaa
