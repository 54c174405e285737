/- cipher: extend (Plan$1) · cipher: Plan · cipher: asked · cipher: which keys agree · cipher: keys (the iterator) · cipher: Fits -/
import Derived.Test.YtmplgcefhpobgaaCm
import Derived.Outline
import Derived.Laws.EntriesVeiled
import Derived.RangeFuncNested
import Derived.RangeFuncBound
import Derived.RangeFuncCalls
import Derived.RangeFuncLeaves
import Derived.Shelf.Abstract
import Derived.Shelf.RegionOpen
import Derived.OwnWalkIn
import Derived.TacticsInMore
import Derived.LoopNIn
import Derived.LoopIn
namespace Go.Proofs.Ytmplgcefhpobgaa
set_option linter.unusedVariables false
set_option linter.unusedSimpArgs false
set_option linter.unnecessarySimpa false
open Go.RowKit Go.Flow

/-- What extend's captured variables hold: all of them below B. -/
structure ExtAt (w : World) (B b0 bm bb bw bf bd : Nat) (ak : Option Addr) (nk ck : Nat) (ad : Option Addr) (nd cd : Nat) : Prop where
  k2 : w.cell? ⟨bb, 2, none⟩ = some (.slice ak nk ck)
  k3 : w.cell? ⟨bb, 3, none⟩ = some (.slice ad nd cd)
  kw : w.cell? ⟨bw, 0, none⟩ = some (.pointer (some ⟨b0, 0, none⟩))
  kf : w.cell? ⟨bf, 0, none⟩ = some (.func (.func 76) #[] #[.pointer (some ⟨bb, 0, none⟩), .pointer (some ⟨bw, 0, none⟩), .pointer (some ⟨bd, 0, none⟩), .pointer (some ⟨bf, 0, none⟩)])
  lb : bb < B
  lw : bw < B
  lf : bf < B
  ld : bd < B
  l0 : b0 < B
  lm : bm < B
  nb : bb ≠ bd
  nw : bw ≠ bd
  nf : bf ≠ bd
  n0 : b0 ≠ bd
  size : B ≤ w.heap.size
theorem ExtAt.keep {w w' : World} {B b0 bm bb bw bf bd : Nat} {ak : Option Addr} {nk ck : Nat} {ad : Option Addr} {nd cd : Nat} (h : ExtAt w B b0 bm bb bw bf bd ak nk ck ad nd cd) (k : Keep bm w w') : ExtAt w' B b0 bm bb bw bf bd ak nk ck ad nd cd :=
  ⟨k.cell h.k2, k.cell h.k3, k.cell h.kw, k.cell h.kf, h.lb, h.lw, h.lf, h.ld, h.l0, h.lm, h.nb, h.nw, h.nf, h.n0, Nat.le_trans h.size k.size⟩

theorem Keep.frozen {bm : Nat} {w w' : World} (h : Keep bm w w') {p : Addr} {v : Value} (hc : w.cell? p = some v) : w'.frozen? p = w.frozen? p :=
  World.frozen?_of_block (h.grown.block p.block (cell_lt hc) (fun e => h.old.ne hc (Option.some.inj e)))
theorem below_frozen {w w' : World} (hb : Below w.heap.size w w') {p : Addr} {v : Value} (hc : w.cell? p = some v) : w'.frozen? p = w.frozen? p := hb.frozen (cell_lt hc)
theorem grown_frozen {E : TypeId} {size base : Nat} {W w' : World} {a0 : Option Addr} {c0 n : Nat} {xs : List Value} {o : Obj} (hown : OwnL E size base W a0 c0 n xs) (hg : (W.alloc o).grownBy w' (Value.slice a0 n c0).ownBlock) {p : Addr} {v : Value}
    (hne : ∀ g, a0 = some ⟨g, 0, none⟩ → p.block ≠ g) (hc : W.cell? p = some v) : w'.frozen? p = W.frozen? p := by
  have hb := (Below.refl W.heap.size W).alloc (Nat.le_refl _) o
  refine (World.frozen?_of_block (hg.block p.block (cell_lt (below_cell hb hc)) ?_)).trans (below_frozen hb hc)
  rcases hown.form with ⟨rfl, _⟩ | ⟨g, rfl, _⟩
  · simp [Value.ownBlock]
  · simp [Value.ownBlock]
    exact hne g rfl

set_option maxRecDepth 100000 in
set_option maxHeartbeats 1000000 in
theorem extend_any (w0 : World) (B b0 bm bb bw bf bd : Nat) (ak : Option Addr) (nk ck : Nat) (ad : Option Addr) (nd cd : Nat) (al : Option Addr) (lost : List (Int × Int)) (cl : Nat) (m : Int) (hnk : nk ≤ 5) (hnd : nd ≤ 100) (ll : lost.length ≤ 1000)
    (hB0 : w0.heap.size ≤ bm) (hB1 : w0.heap.size ≤ bd) (hB2 : w0.heap.size ≤ B) (hmd : bm ≠ bd) (hl0 : Recs2At w0 al lost) :
    ∀ (r : Nat) (s : Spot) (left : Int) (pre : List Int) (a0 : Option Addr) (c0 n : Nat) (w : World), Below w0.heap.size w0 w → s.day + r = nd → s.Ok nd → 0 ≤ left → left ≤ 2000000 → pre.length + r ≤ 1000 → WorkAt w b0 bm ak nk ck ad nd cd al lost cl m →
      ExtAt w B b0 bm bb bw bf bd ak nk ck ad nd cd → w.cell? ⟨bd, 0, none⟩ = some (.slice a0 pre.length c0) → w.frozen? ⟨bd, 0, none⟩ = false → OwnL 3 1 B w a0 c0 pre.length (pre.map (Value.int .i64)) →
      MemoAt w bm n (fun s => fewR (fun k => hadN lost k) m nk (nd - s.day).toNat s) → n + cost (r + 1) < maxLen →
    Calls Try.prog 76 #[s.val, .int .i64 left, .pointer (some ⟨bb, 0, none⟩), .pointer (some ⟨bw, 0, none⟩), .pointer (some ⟨bd, 0, none⟩), .pointer (some ⟨bf, 0, none⟩)] w
      fun e w' => e = .returned (.tuple #[]) ∧ Below w0.heap.size w w' ∧ w'.frozen? ⟨bd, 0, none⟩ = false ∧ ∃ a' c', w'.cell? ⟨bd, 0, none⟩ = some (.slice a' (pre ++ planR (fun k => hadN lost k) m nk r s left).length c') ∧
        OwnL 3 1 B w' a' c' (pre ++ planR (fun k => hadN lost k) m nk r s left).length ((pre ++ planR (fun k => hadN lost k) m nk r s left).map (Value.int .i64)) := by
  generalize hG : (fun s : Spot => fewR (fun k => hadN lost k) m nk (nd - s.day).toNat s) = G
  intro r
  induction r with
  | zero =>
    rintro ⟨d, la, u0, u1, u2, u3, u4⟩ left pre a0 c0 n w hw0 hday hs hf0 hf1 hlen hw hx hcd hfz hown hm hn
    simp only at hday
    have hd : d = nd := by omega
    have hfine := hs.fine (by omega)
    have h2 := hx.k2
    have lbw : bb < w.heap.size := Nat.lt_of_lt_of_le hx.lb hx.size
    show Calls Try.prog 76 #[.agg #[.int .i64 d, .int .i64 la, .int .i64 u0, .int .i64 u1, .int .i64 u2, .int .i64 u3, .int .i64 u4], .int .i64 left, .pointer (some ⟨bb, 0, none⟩), .pointer (some ⟨bw, 0, none⟩), .pointer (some ⟨bd, 0, none⟩), .pointer (some ⟨bf, 0, none⟩)] w _
    obtain ⟨F, hF⟩ : ∃ F : Nat → Int, (fun k : Nat => hadN lost k) = F := ⟨_, rfl⟩
    rw [hF]
    have hFk : ∀ k : Nat, hadN lost k = F k := fun k => by rw [← hF]
    simp only [planR, List.append_nil]
    subst hd
    go_enter Try.func76, Try.ntmps76
    go_wp2
    obtain ⟨q0, q1, q2, q3, q4, q5, q6⟩ := box_spot (w := w) (T := 121) (Below.refl (w.heap.size + 1) (w.alloc (.cells #[.int .i64 nd, .int .i64 la, .int .i64 u0, .int .i64 u1, .int .i64 u2, .int .i64 u3, .int .i64 u4] 121)))
    obtain ⟨wS, hwS⟩ : ∃ x : World, x = w.alloc (.cells #[.int .i64 nd, .int .i64 la, .int .i64 u0, .int .i64 u1, .int .i64 u2, .int .i64 u3, .int .i64 u4] 121) := ⟨_, rfl⟩
    have hbS : Below w.heap.size w wS := by rw [hwS]; exact (Below.refl _ w).alloc (Nat.le_refl _) _
    have hzS : wS.heap.size = w.heap.size + 1 := by rw [hwS]; simp
    rw [← hwS] at q0 q1 q2 q3 q4 q5 q6 ⊢
    clear hwS h2
    have hkS := hw.below hbS
    have hxS := hx.keep (Keep.of_below hm.isMap hbS)
    have hcS := below_cell hbS hcd
    have hoS := hown.kept hbS
    have hiS := hm.isMap.below hbS
    go_loopw [8, 9, 10, 11, 15] (fun _ _ _ _ i wr => ∃ j : Nat, j ≤ nk ∧ i = .int .i64 j ∧ Below wS.heap.size wS wr)
      (fun _ _ _ _ i _ => nk - (intOf i).toNat)
    case atStart => exact ⟨0, Nat.zero_le _, rfl, Below.refl _ _⟩
    case round =>
      obtain ⟨j, hj, rfl, hbr⟩ := hrel
      have hkR := hkS.below hbr
      have hxR := hxS.keep (Keep.of_below hiS hbr)
      have p0 := below_cell hbr q0
      have p1 := below_cell hbr q1
      have p2 := below_cell hbr q2
      have p3 := below_cell hbr q3
      have p4 := below_cell hbr q4
      have p5 := below_cell hbr q5
      have p6 := below_cell hbr q6
      have hkz := hbr.size
      have g3 := hxR.k3
      have gw := hxR.kw
      have hzR : w.heap.size < wr.heap.size := by omega
      have hbR : bb < wr.heap.size := cell_lt g3
      have hwR : bw < wr.heap.size := cell_lt gw
      have h0R : b0 < wr.heap.size := hkR.lt
      by_cases hlt : j < nk
      · cases hB : mayB (F j) m ⟨nd, la, u0, u1, u2, u3, u4⟩ j
        · have hres : mayRes (F j) m ⟨nd, la, u0, u1, u2, u3, u4⟩ j = .tuple #[.agg #[.int .i64 nd, .int .i64 la, .int .i64 u0, .int .i64 u1, .int .i64 u2, .int .i64 u3, .int .i64 u4], .int .i64 0, .bool false] := by
            unfold mayRes; rw [hB]; rfl
          clear hB
          go_wp2_with (go_at_call 77; refine (may_any b0 al lost cl m ⟨nd, la, u0, u1, u2, u3, u4⟩ j (by omega) _ (by omega) hkR.c4 hkR.c5 hkR.hl ll hfine).mono ?_; rw [hFk, hres]; rintro e w1 ⟨rfl, hb1⟩; have hb1z := hb1.size)
          have hB1 : Below wr.heap.size wr (w1.alloc (.cells #[.int .i64 nd, .int .i64 la, .int .i64 u0, .int .i64 u1, .int .i64 u2, .int .i64 u3, .int .i64 u4] 121)) := hb1.alloc hb1.size _
          go_roundw
          case rel => exact ⟨j + 1, by omega, by go_num, hbr.trans (hB1.mono hbr.size)⟩
          case measure => simp [intOf]; omega
        · have hres : mayRes (F j) m ⟨nd, la, u0, u1, u2, u3, u4⟩ j = .tuple #[(Spot.bump ⟨nd, la, u0, u1, u2, u3, u4⟩ j).val, .int .i64 (mayC ⟨nd, la, u0, u1, u2, u3, u4⟩ j), .bool true] := by
            unfold mayRes; rw [hB]; rfl
          obtain ⟨cc, hcc⟩ : ∃ cc, mayC ⟨nd, la, u0, u1, u2, u3, u4⟩ j = cc := ⟨_, rfl⟩
          obtain ⟨s', hs'⟩ : ∃ s', Spot.bump ⟨nd, la, u0, u1, u2, u3, u4⟩ j = s' := ⟨_, rfl⟩
          rw [hs', hcc] at hres
          obtain ⟨d', la', v0, v1, v2, v3, v4⟩ := s'
          simp only [Spot.val] at hres
          clear hB hs' hcc
          go_wp2_with (go_at_call 77; refine (may_any b0 al lost cl m ⟨nd, la, u0, u1, u2, u3, u4⟩ j (by omega) _ (by omega) hkR.c4 hkR.c5 hkR.hl ll hfine).mono ?_; rw [hFk, hres]; rintro e w1 ⟨rfl, hb1⟩; have hb1z := hb1.size; have gb1 := below_cell hb1 g3; have hbb1 : bb < w1.heap.size := cell_lt gb1; have p01 := below_cell hb1 p0; have hsz1 : w.heap.size < w1.heap.size := cell_lt p01)
          have hB1 : Below wr.heap.size wr (w1.alloc (.cells #[.int .i64 d', .int .i64 la', .int .i64 v0, .int .i64 v1, .int .i64 v2, .int .i64 v3, .int .i64 v4] 121)) := hb1.alloc hb1.size _
          go_roundw
          case rel => exact ⟨j + 1, by omega, by go_num, hbr.trans (hB1.mono hbr.size)⟩
          case measure => simp [intOf]; omega
      · obtain rfl : nk = j := by omega
        go_wp2
        (try simp only [Exit.inBlock, Exit.then])
        refine bodyPost_end (results_none rfl _ _ _) rfl ?_
        exact ⟨rfl, (hbS.trans (hbr.mono hbS.size)).mono hw0.size, by rw [below_frozen hbr hcS, below_frozen hbS hcd]; exact hfz, a0, c0, below_cell hbr hcS, hoS.kept hbr⟩
  | succ r ih =>
    rintro ⟨d, la, u0, u1, u2, u3, u4⟩ left pre a0 c0 n w hw0 hday hs hf0 hf1 hlen hw hx hcd hfz hown hm hn
    simp only at hday
    have hdl : d < nd := by omega
    have hd0 := hs.d0
    simp only at hd0
    have t1 : decide (d < (nd : Int)) = true := by simpa using hdl
    have hfine := hs.fine (by omega)
    have h2 := hx.k2
    have lbw : bb < w.heap.size := Nat.lt_of_lt_of_le hx.lb hx.size
    show Calls Try.prog 76 #[.agg #[.int .i64 d, .int .i64 la, .int .i64 u0, .int .i64 u1, .int .i64 u2, .int .i64 u3, .int .i64 u4], .int .i64 left, .pointer (some ⟨bb, 0, none⟩), .pointer (some ⟨bw, 0, none⟩), .pointer (some ⟨bd, 0, none⟩), .pointer (some ⟨bf, 0, none⟩)] w _
    obtain ⟨F, hF⟩ : ∃ F : Nat → Int, (fun k : Nat => hadN lost k) = F := ⟨_, rfl⟩
    rw [hF] at ih ⊢
    have hFk : ∀ k : Nat, hadN lost k = F k := fun k => by rw [← hF]
    go_enter Try.func76, Try.ntmps76
    go_wp2
    obtain ⟨q0, q1, q2, q3, q4, q5, q6⟩ := box_spot (w := w) (T := 121) (Below.refl (w.heap.size + 1) (w.alloc (.cells #[.int .i64 d, .int .i64 la, .int .i64 u0, .int .i64 u1, .int .i64 u2, .int .i64 u3, .int .i64 u4] 121)))
    obtain ⟨wS, hwS⟩ : ∃ x : World, x = w.alloc (.cells #[.int .i64 d, .int .i64 la, .int .i64 u0, .int .i64 u1, .int .i64 u2, .int .i64 u3, .int .i64 u4] 121) := ⟨_, rfl⟩
    have hbS : Below w.heap.size w wS := by rw [hwS]; exact (Below.refl _ w).alloc (Nat.le_refl _) _
    have hzS : wS.heap.size = w.heap.size + 1 := by rw [hwS]; simp
    rw [← hwS] at q0 q1 q2 q3 q4 q5 q6 ⊢
    clear hwS h2
    have hmS := hm.below hbS
    have hkS := hw.below hbS
    have hxS := hx.keep (Keep.of_below hm.isMap hbS)
    have hcS := below_cell hbS hcd
    have hoS := hown.kept hbS
    go_loopw [8, 9, 10, 11, 15] (fun _ _ _ _ i wr => ∃ j : Nat, j ≤ nk ∧ i = .int .i64 j ∧ (∀ k, k < j → planPick F m nk r ⟨d, la, u0, u1, u2, u3, u4⟩ left k = false) ∧ Keep bm wS wr ∧ MemoAt wr bm (n + j * cost r) G)
      (fun _ _ _ _ i _ => nk - (intOf i).toNat)
    case atStart => exact ⟨0, Nat.zero_le _, rfl, fun k hk => absurd hk (Nat.not_lt_zero k), Keep.refl hmS.isMap, by simpa using hmS⟩
    case round =>
      obtain ⟨j, hj, rfl, hno, hkp, hmr⟩ := hrel
      have hkR := hkS.keep hkp
      have hxR := hxS.keep hkp
      have hcR := hkp.cell hcS
      have hoR := hoS.keep hkp
      have p0 := hkp.cell q0
      have p1 := hkp.cell q1
      have p2 := hkp.cell q2
      have p3 := hkp.cell q3
      have p4 := hkp.cell q4
      have p5 := hkp.cell q5
      have p6 := hkp.cell q6
      have hkz := hkp.size
      have g3 := hxR.k3
      have gw := hxR.kw
      have hzR : w.heap.size < wr.heap.size := by omega
      have hbR : bb < wr.heap.size := cell_lt g3
      have hwR : bw < wr.heap.size := cell_lt gw
      have h0R : b0 < wr.heap.size := hkR.lt
      by_cases hlt : j < nk
      · cases hB : mayB (F j) m ⟨d, la, u0, u1, u2, u3, u4⟩ j
        · have hp : planPick F m nk r ⟨d, la, u0, u1, u2, u3, u4⟩ left j = false := by simp [planPick, hB]
          have hno2 : ∀ k, k < j + 1 → planPick F m nk r ⟨d, la, u0, u1, u2, u3, u4⟩ left k = false := fun k hk => by
            by_cases e : k = j
            · rw [e]; exact hp
            · exact hno k (by omega)
          have hres : mayRes (F j) m ⟨d, la, u0, u1, u2, u3, u4⟩ j = .tuple #[.agg #[.int .i64 d, .int .i64 la, .int .i64 u0, .int .i64 u1, .int .i64 u2, .int .i64 u3, .int .i64 u4], .int .i64 0, .bool false] := by
            unfold mayRes; rw [hB]; rfl
          clear hp hB hno
          go_wp2_with (go_at_call 77; refine (may_any b0 al lost cl m ⟨d, la, u0, u1, u2, u3, u4⟩ j (by omega) _ (by omega) hkR.c4 hkR.c5 hkR.hl ll hfine).mono ?_; rw [hFk, hres]; rintro e w1 ⟨rfl, hb1⟩; have hb1z := hb1.size)
          have hB1 : Below wr.heap.size wr (w1.alloc (.cells #[.int .i64 d, .int .i64 la, .int .i64 u0, .int .i64 u1, .int .i64 u2, .int .i64 u3, .int .i64 u4] 121)) := hb1.alloc hb1.size _
          go_roundw
          case rel => exact ⟨j + 1, by omega, by go_num, hno2, hkp.below hB1, (hmr.below hB1).mono (Nat.add_le_add_left (Nat.mul_le_mul_right _ (Nat.le_succ j)) n)⟩
          case measure => simp [intOf]; omega
        · have hok := hs.bump (by simp only; omega) j
          have hdy := bump_day ⟨d, la, u0, u1, u2, u3, u4⟩ j
          have hgb := fewR_b F m nk r (Spot.bump ⟨d, la, u0, u1, u2, u3, u4⟩ j)
          have hcb := mayC_b ⟨d, la, u0, u1, u2, u3, u4⟩ j
          have hpk : planPick F m nk r ⟨d, la, u0, u1, u2, u3, u4⟩ left j = (mayC ⟨d, la, u0, u1, u2, u3, u4⟩ j + fewR F m nk r (Spot.bump ⟨d, la, u0, u1, u2, u3, u4⟩ j) == left) := by simp [planPick, hB]
          have hres : mayRes (F j) m ⟨d, la, u0, u1, u2, u3, u4⟩ j = .tuple #[(Spot.bump ⟨d, la, u0, u1, u2, u3, u4⟩ j).val, .int .i64 (mayC ⟨d, la, u0, u1, u2, u3, u4⟩ j), .bool true] := by
            unfold mayRes; rw [hB]; rfl
          obtain ⟨cc, hcc⟩ : ∃ cc, mayC ⟨d, la, u0, u1, u2, u3, u4⟩ j = cc := ⟨_, rfl⟩
          obtain ⟨s', hs'⟩ : ∃ s', Spot.bump ⟨d, la, u0, u1, u2, u3, u4⟩ j = s' := ⟨_, rfl⟩
          obtain ⟨gg, hgg⟩ : ∃ gg, fewR F m nk r s' = gg := ⟨_, rfl⟩
          rw [hs'] at hok hdy hgb hres hpk
          rw [hcc] at hcb hres hpk
          rw [hgg] at hgb hpk
          obtain ⟨d', la', v0, v1, v2, v3, v4⟩ := s'
          simp only at hdy
          subst hdy
          simp only [Spot.val] at hres
          have x0 : IntKind.i64.wrap (cc + gg) = cc + gg := IntWalk.i64_in _ (by omega)
          have hcost : n + j * cost r + cost r < maxLen := by
            have h5 : (j + 1) * cost r ≤ 5 * cost r := Nat.mul_le_mul_right _ (by omega)
            rw [Nat.succ_mul] at h5
            simp only [cost] at hn
            omega
          have hih : ∀ W, Below wr.heap.size wr W → Calls Try.prog 75 #[Value.pointer (some ⟨b0, 0, none⟩), .agg #[.int .i64 (d + 1), .int .i64 la', .int .i64 v0, .int .i64 v1, .int .i64 v2, .int .i64 v3, .int .i64 v4]] W
              fun e w' => e = .returned (.int .i64 gg) ∧ Keep bm W w' ∧ MemoAt w' bm (n + j * cost r + cost r) G := fun W hW => by
            have h9 := fewest_any b0 bm ak nk ck ad nd cd al lost cl m hnk hnd ll r ⟨d + 1, la', v0, v1, v2, v3, v4⟩ (n + j * cost r) W (by simp only; omega) hok (hkR.below hW) (by rw [hG]; exact hmr.below hW) hcost
            rw [hG, hF, hgg] at h9
            exact h9
          cases hT : (cc + gg == left)
          · have hno2 : ∀ k, k < j + 1 → planPick F m nk r ⟨d, la, u0, u1, u2, u3, u4⟩ left k = false := fun k hk => by
              by_cases e : k = j
              · rw [e, hpk]; exact hT
              · exact hno k (by omega)
            clear hB hs' hcc hgg hno ih hpk
            go_wp2_with (first
              | (go_at_call 77; refine (may_any b0 al lost cl m ⟨d, la, u0, u1, u2, u3, u4⟩ j (by omega) _ (by omega) hkR.c4 hkR.c5 hkR.hl ll hfine).mono ?_; rw [hFk, hres]; rintro e w1 ⟨rfl, hb1⟩; have hb1z := hb1.size; have gw1 := below_cell hb1 gw; have hbw1 : bw < w1.heap.size := cell_lt gw1; have gb1 := below_cell hb1 g3; have hbb1 : bb < w1.heap.size := cell_lt gb1; have p01 := below_cell hb1 p0; have hsz1 : w.heap.size < w1.heap.size := cell_lt p01)
              | (go_at_call 75; refine (hih _ (hb1.alloc hb1.size _)).mono ?_; rintro e w3 ⟨rfl, hk3, hm3⟩))
            have hB1 : Below wr.heap.size wr (w1.alloc (.cells #[.int .i64 (d + 1), .int .i64 la', .int .i64 v0, .int .i64 v1, .int .i64 v2, .int .i64 v3, .int .i64 v4] 121)) := hb1.alloc hb1.size _
            go_roundw
            case rel => exact ⟨j + 1, by omega, by go_num, hno2, (hkp.below hB1).trans hk3, hm3.mono (by rw [Nat.succ_mul]; omega)⟩
            case measure => simp [intOf]; omega
          · have hfp : (List.range nk).find? (planPick F m nk r ⟨d, la, u0, u1, u2, u3, u4⟩ left) = some j := find_first hlt hno (by rw [hpk]; exact hT)
            have hpl : planR F m nk (r + 1) ⟨d, la, u0, u1, u2, u3, u4⟩ left = (j : Int) :: planR F m nk r ⟨d + 1, la', v0, v1, v2, v3, v4⟩ (left - cc) := by
              simp only [planR, hfp]
              rw [hs', hcc]
            have hlft : cc + gg = left := by simpa using hT
            have x1 : IntKind.i64.wrap (left - cc) = left - cc := IntWalk.i64_in _ (by omega)
            have hrow : ∀ g, a0 = some ⟨g, 0, none⟩ → B ≤ g ∧ g < w.heap.size := fun g hg => by
              rcases hown.form with ⟨h1, _⟩ | ⟨g', h1, h3, h4, _⟩
              · rw [h1] at hg; cases hg
              · rw [h1] at hg; simp at hg; omega
            have Hpl := Lib.hid hpl
            have hlc : 0 ≤ left - cc ∧ left - cc ≤ 2000000 := by omega
            clear hB hs' hcc hgg hno hpk hfp hlft hpl
            go_wp2_with (first
              | (go_at_call 77; refine (may_any b0 al lost cl m ⟨d, la, u0, u1, u2, u3, u4⟩ j (by omega) _ (by omega) hkR.c4 hkR.c5 hkR.hl ll hfine).mono ?_; rw [hFk, hres]; rintro e w1 ⟨rfl, hb1⟩; have hb1z := hb1.size; have gw1 := below_cell hb1 gw; have hbw1 : bw < w1.heap.size := cell_lt gw1; have gb1 := below_cell hb1 g3; have hbb1 : bb < w1.heap.size := cell_lt gb1; have p01 := below_cell hb1 p0; have hsz1 : w.heap.size < w1.heap.size := cell_lt p01)
              | (go_at_call 75; refine (hih _ (hb1.alloc hb1.size _)).mono ?_; rintro e w3 ⟨rfl, hk3, hm3⟩; have hA : Below wr.heap.size wr (w1.alloc (.cells #[.int .i64 (d + 1), .int .i64 la', .int .i64 v0, .int .i64 v1, .int .i64 v2, .int .i64 v3, .int .i64 v4] 121)) := hb1.alloc hb1.size _; have yd := hk3.cell (below_cell hA hcR); have yf := hk3.cell (below_cell hA hxR.kf); obtain ⟨n0, n1, n2, n3, n4, n5, n6⟩ := box_spot (w := w1) (T := 121) (Below.refl (w1.heap.size + 1) (w1.alloc (.cells #[.int .i64 (d + 1), .int .i64 la', .int .i64 v0, .int .i64 v1, .int .i64 v2, .int .i64 v3, .int .i64 v4] 121))); have ho3 := (hoR.kept hA).keep hk3)
              | (at_builtin; refine wpList_app_lit_g elInt rfl _ _ rfl B a0 pre.length c0 _ rfl ho3 1 1 rfl rfl (fun u hu => ?f1) ?f2 ?f3 ?f4 ?_))
            case f1 => simp at hu; subst hu; rfl
            case f2 => unfold maxLen; omega
            case f3 => omega
            case f4 => have q1 := hk3.size; simp at q1; have q2 := hx.size; omega
            intro a2 c2 w4 hown4 hg4
            have hA : Below wr.heap.size wr (w1.alloc (.cells #[.int .i64 (d + 1), .int .i64 la', .int .i64 v0, .int .i64 v1, .int .i64 v2, .int .i64 v3, .int .i64 v4] 121)) := hb1.alloc hb1.size _
            have hBs := hx.size
            have hld := hx.ld
            have hw3 : Below w0.heap.size w w3 := (hbS.mono (by omega)).trans (((hkp.below hA).trans hk3).toBelow hB0 (by omega))
            have hz3 := hk3.size
            have hz4 : w.heap.size ≤ w3.heap.size := hw3.size
            have hT5 := turned_below ho3 hg4 hB2 (by omega) (p := ⟨bd, 0, none⟩) hB1 (.slice a2 (pre.length + 1) c2)
            have hx3 := (hxR.keep (Keep.of_below hmr.isMap hA)).keep hk3
            have hk3w := (hkR.below hA).keep hk3
            have hsz := hown4.2
            have hbig : B ≤ w3.heap.size := by omega
            have hne0 := hx.n0
            have hxb := hx.nb
            have hxw := hx.nw
            have hxf := hx.nf
            have hl0' := hx.l0
            have hlb' := hx.lb
            have hlw' := hx.lw
            have hlf' := hx.lf
            have w5w : WorkAt (w4.setCell ⟨bd, 0, none⟩ (.slice a2 (pre.length + 1) c2)) b0 bm ak nk ck ad nd cd al lost cl m :=
              ⟨turned_cell ho3 hg4 hl0' hk3w.c2 hne0 _, turned_cell ho3 hg4 hl0' hk3w.c3 hne0 _, turned_cell ho3 hg4 hl0' hk3w.c4 hne0 _, turned_cell ho3 hg4 hl0' hk3w.c5 hne0 _, turned_cell ho3 hg4 hl0' hk3w.c6 hne0 _,
                hl0.below ((hw0.trans hw3).trans hT5)⟩
            have w5x : ExtAt (w4.setCell ⟨bd, 0, none⟩ (.slice a2 (pre.length + 1) c2)) B b0 bm bb bw bf bd ak nk ck ad nd cd :=
              ⟨turned_cell ho3 hg4 hlb' hx3.k2 hxb _, turned_cell ho3 hg4 hlb' hx3.k3 hxb _, turned_cell ho3 hg4 hlw' hx3.kw hxw _, turned_cell ho3 hg4 hlf' hx3.kf hxf _, hlb', hlw', hlf', hld, hl0', hx.lm, hxb, hxw, hxf, hne0, Nat.le_trans hbig hT5.size⟩
            have y4 : w4.frozen? ⟨bd, 0, none⟩ = false := by rw [grown_frozen ho3 hg4 (fun g e => by have := hrow g e; simp only; omega) yd, hk3.frozen (below_cell hA hcR), below_frozen hA hcR, hkp.frozen hcS, below_frozen hbS hcd]; exact hfz
            have zd : w4.cell? ⟨bd, 0, none⟩ = some (.slice a0 pre.length c0) := grown_cell ho3 hg4 (fun g e => by have := hrow g e; simp only; omega) yd
            have w5c : (w4.setCell ⟨bd, 0, none⟩ (.slice a2 (pre.length + 1) c2)).cell? ⟨bd, 0, none⟩ = some (.slice a2 (pre ++ [(j : Int)]).length c2) := by
              rw [World.cell?_setCell_same _ _ _ zd, List.length_append]; rfl
            have w5o : OwnL 3 1 B (w4.setCell ⟨bd, 0, none⟩ (.slice a2 (pre.length + 1) c2)) a2 c2 (pre ++ [(j : Int)]).length ((pre ++ [(j : Int)]).map (Value.int .i64)) := by
              rw [List.length_append, List.map_append]; exact hown4.setCell hld _
            have w5m : MemoAt (w4.setCell ⟨bd, 0, none⟩ (.slice a2 (pre.length + 1) c2)) bm (n + j * cost r + cost r) G := hm3.turned ho3 hg4 hx.lm hmd _
            have hcost2 : n + j * cost r + cost r + cost (r + 1) < maxLen := by
              have h5 : (j + 1) * cost r ≤ 5 * cost r := Nat.mul_le_mul_right _ (by omega)
              rw [Nat.succ_mul] at h5
              simp only [cost] at hn ⊢
              omega
            have hrec := ih ⟨d + 1, la', v0, v1, v2, v3, v4⟩ (left - cc) (pre ++ [(j : Int)]) a2 c2 (n + j * cost r + cost r) _ ((hw0.trans hw3).trans hT5) (by simp only; omega) hok hlc.1 hlc.2 (by simp; omega) w5w w5x w5c (by rw [World.frozen?_setCell]; exact y4) w5o w5m hcost2
            have hass : (pre ++ [(j : Int)]) ++ planR F m nk r ⟨d + 1, la', v0, v1, v2, v3, v4⟩ (left - cc) = pre ++ planR F m nk (r + 1) ⟨d, la, u0, u1, u2, u3, u4⟩ left := by rw [Hpl.out]; simp
            rw [hass] at hrec
            have hne9 : w1.heap.size ≠ bd := by omega
            have zf := grown_cell ho3 hg4 (fun g e => by have := hrow g e; simp only; omega) yf
            have z0 := grown_cell ho3 hg4 (p := ⟨w1.heap.size, 0, none⟩) (fun g e => by have := hrow g e; simp only; omega) (hk3.cell n0)
            have z1 := grown_cell ho3 hg4 (p := ⟨w1.heap.size, 1, none⟩) (fun g e => by have := hrow g e; simp only; omega) (hk3.cell n1)
            have z2 := grown_cell ho3 hg4 (p := ⟨w1.heap.size, 2, none⟩) (fun g e => by have := hrow g e; simp only; omega) (hk3.cell n2)
            have z3 := grown_cell ho3 hg4 (p := ⟨w1.heap.size, 3, none⟩) (fun g e => by have := hrow g e; simp only; omega) (hk3.cell n3)
            have z4 := grown_cell ho3 hg4 (p := ⟨w1.heap.size, 4, none⟩) (fun g e => by have := hrow g e; simp only; omega) (hk3.cell n4)
            have z5 := grown_cell ho3 hg4 (p := ⟨w1.heap.size, 5, none⟩) (fun g e => by have := hrow g e; simp only; omega) (hk3.cell n5)
            have z6 := grown_cell ho3 hg4 (p := ⟨w1.heap.size, 6, none⟩) (fun g e => by have := hrow g e; simp only; omega) (hk3.cell n6)
            clear w5w w5x w5c w5o w5m hass ih n0 n1 n2 n3 n4 n5 n6 yd yf
            go_wp2_with (go_at_call 76; refine hrec.mono ?_; rintro e w6 ⟨rfl, hb6, hz6, a6, c6, hd6, ho6⟩)
            (try simp only [Exit.inBlock, Exit.then])
            refine bodyPost_ret (results_none rfl _ _ _) rfl ?_
            exact ⟨rfl, (hw3.trans hT5).trans hb6, hz6, a6, c6, hd6, ho6⟩
      · obtain rfl : nk = j := by omega
        have hpl : planR F m nk (r + 1) ⟨d, la, u0, u1, u2, u3, u4⟩ left = [] := by simp only [planR, find_none hno]
        have Hpl := Lib.hid hpl
        clear hno hpl ih
        go_wp2
        (try simp only [Exit.inBlock, Exit.then])
        refine bodyPost_end (results_none rfl _ _ _) rfl ?_
        rw [Hpl.out, List.append_nil]
        exact ⟨rfl, (hbS.mono hw0.size).trans (hkp.toBelow hB0 (by have := hw0.size; omega)), by rw [hkp.frozen hcS, below_frozen hbS hcd]; exact hfz, a0, c0, hcR, hoR⟩

end Go.Proofs.Ytmplgcefhpobgaa

namespace Go.Proofs.Ytmplgcefhpobgaa
set_option linter.unusedVariables false
set_option linter.unusedSimpArgs false
set_option linter.unnecessarySimpa false
open Go.RowKit Go.Flow

def spot0 : Spot := ⟨0, 0, 0, 0, 0, 0, 0⟩
def planLeast (nk nd : Nat) (lost : List (Int × Int)) (most : Int) : Int := fewR (fun k => hadN lost k) most nk nd spot0
def planErr (s wo : Int) (ks : List (Int × Int × Int)) (ds : List Int) (lost : List (Int × Int)) (most : Int) : Int :=
  if lossErr s wo ks ds lost ≠ 0 then lossErr s wo ks ds lost
  else if ¬ (0 ≤ most ∧ most ≤ 8) then 2
  else if 1048576 ≤ planLeast ks.length ds.length lost most then 10
  else 0
def planDays (s wo : Int) (ks : List (Int × Int × Int)) (ds : List Int) (lost : List (Int × Int)) (most : Int) : List Int :=
  if planErr s wo ks ds lost most = 0 then planR (fun k => hadN lost k) most ks.length ds.length spot0 (planLeast ks.length ds.length lost most) else []
def planCh (s wo : Int) (ks : List (Int × Int × Int)) (ds : List Int) (lost : List (Int × Int)) (most : Int) : Int :=
  if planErr s wo ks ds lost most = 0 then planLeast ks.length ds.length lost most else 0

/-- A list, a number, an error. -/
def SliceNumErr (B : Nat) (l : List Int) (n err : Int) (e : Ending) (w' : World) : Prop := ∃ a c, e = .returned (.tuple #[.slice a l.length c, .int .i64 n, .int .i64 err]) ∧ OwnL 3 1 B w' a c l.length (l.map (Value.int .i64))
theorem SliceNumErr.err {B : Nat} {err : Int} {w' : World} : SliceNumErr B [] 0 err (.returned (.tuple #[.slice none 0 0, .int .i64 0, .int .i64 err])) w' := ⟨none, 0, rfl, OwnL.nil _ _ _ _⟩

theorem load_list {w : World} {a : Addr} {v : Value} (h : w.cell? a = some v) : (loadVar 23 a).run Try.prog w = .ok v w := by
  have hi := Try.isAgg23
  unfold loadVar
  go_simp

theorem lossErr_ok {s wo : Int} {ks : List (Int × Int × Int)} {ds : List Int} {lost : List (Int × Int)} (h : lossErr s wo ks ds lost = 0) : bookErr s wo ks ds = 0 ∧ lost.length ≤ 6 ∧ lost.all (lossOk ks.length ds.length) = true := by
  unfold lossErr at h
  split at h
  · omega
  · rename_i h1
    split at h
    · omega
    · split at h
      · omega
      · rename_i h3
        exact ⟨by omega, by omega, by simpa using h3⟩

theorem cell_new (w : World) (cs : Array Value) (T : TypeId) (k : Nat) (v : Value) (h : cs[k]? = some v) : (w.alloc (.cells cs T)).cell? ⟨w.heap.size, k, none⟩ = some v := by
  show (match (w.alloc (.cells cs T)).heap[w.heap.size]? with | some (.cells c _ _) => c[k]? | _ => none) = some v
  rw [(MapKept.heap_alloc w _).1]
  exact h
theorem cell_new_lt (w : World) (cs : Array Value) (T : TypeId) : w.heap.size < (w.alloc (.cells cs T)).heap.size := by simp
theorem frozen_new (w : World) (cs : Array Value) (T : TypeId) (k : Nat) : (w.alloc (.cells cs T)).frozen? ⟨w.heap.size, k, none⟩ = false := by
  show (match (w.alloc (.cells cs T)).heap[w.heap.size]? with | some (.cells _ _ (lo, hi)) => decide (lo ≤ k) && decide (k < hi) | _ => false) = false
  rw [(MapKept.heap_alloc w _).1]
  simp

theorem workAt_new (w1 : World) (s wo : Int) (ak : Option Addr) (nk ck : Nat) (ad : Option Addr) (nd cd : Nat) (al : Option Addr) (lost : List (Int × Int)) (cl : Nat) (m : Int) (T T2 : TypeId) (hl : Recs2At w1 al lost) :
    WorkAt (((w1.alloc (.map #[] 0)).alloc (.cells #[.int .i64 s, .int .i64 wo, .slice ak nk ck, .slice ad nd cd, .slice al lost.length cl, .int .i64 m, .map (some w1.heap.size)] T)).alloc (.cells #[.pointer (some ⟨w1.heap.size + 1, 0, none⟩)] T2))
      (w1.heap.size + 1) w1.heap.size ak nk ck ad nd cd al lost cl m := by
  have hz : (w1.alloc (.map #[] 0)).heap.size = w1.heap.size + 1 := by simp
  have hb1 : Below w1.heap.size w1 (w1.alloc (.map #[] 0)) := (Below.refl _ _).alloc (Nat.le_refl _) _
  generalize w1.alloc (.map #[] 0) = wm at hz hb1 ⊢
  rw [← hz]
  have hb : Below (wm.alloc (.cells #[.int .i64 s, .int .i64 wo, .slice ak nk ck, .slice ad nd cd, .slice al lost.length cl, .int .i64 m, .map (some w1.heap.size)] T)).heap.size (wm.alloc (.cells #[.int .i64 s, .int .i64 wo, .slice ak nk ck, .slice ad nd cd, .slice al lost.length cl, .int .i64 m, .map (some w1.heap.size)] T))
    ((wm.alloc (.cells #[.int .i64 s, .int .i64 wo, .slice ak nk ck, .slice ad nd cd, .slice al lost.length cl, .int .i64 m, .map (some w1.heap.size)] T)).alloc (.cells #[.pointer (some ⟨wm.heap.size, 0, none⟩)] T2)) := (Below.refl _ _).alloc (Nat.le_refl _) _
  refine ⟨below_cell hb (cell_new wm _ T 2 _ rfl), below_cell hb (cell_new wm _ T 3 _ rfl), below_cell hb (cell_new wm _ T 4 _ rfl), below_cell hb (cell_new wm _ T 5 _ rfl), below_cell hb (cell_new wm _ T 6 _ rfl), ?_⟩
  refine (hl.below hb1).below ?_
  exact ((Below.refl _ wm).alloc (Nat.le_refl _) _).alloc (by simp) _

theorem cost_le {r : Nat} (h : r ≤ 9) : cost r ≤ 488281 := by
  match r, h with
  | 0, _ | 1, _ | 2, _ | 3, _ | 4, _ | 5, _ | 6, _ | 7, _ | 8, _ | 9, _ => decide
theorem cost8 {r : Nat} (h : r ≤ 9) : 0 + cost r < maxLen := by
  have := cost_le h
  unfold maxLen
  omega

set_option maxRecDepth 100000 in
set_option maxHeartbeats 1000000 in
theorem plan_full (s wo : Int) (ak : Option Addr) (ks : List (Int × Int × Int)) (ck : Nat) (ad : Option Addr) (ds : List Int) (cd : Nat) (al : Option Addr) (lost : List (Int × Int)) (cl : Nat) (most : Int) (w : World) (hk : Recs3At w ak ks) (hd : IntsAt w ad ds) (lk : ks.length ≤ 1000) (ld : ds.length ≤ 1000) (hl : Recs2At w al lost) (ll : lost.length ≤ 1000) :
    Calls Try.prog 35 #[.agg #[.int .i64 s, .int .i64 wo, .slice ak ks.length ck, .slice ad ds.length cd], .slice al lost.length cl, .int .i64 most] w fun e w' =>
      SliceNumErr w.heap.size (planDays s wo ks ds lost most) (planCh s wo ks ds lost most) (planErr s wo ks ds lost most) e w' ∧ Below w.heap.size w w' := by
  by_cases he : lossErr s wo ks ds lost = 0
  · obtain ⟨hbk, hl6, _⟩ := lossErr_ok he
    obtain ⟨lk5, ld8, _⟩ := bookErr_ok hbk
    by_cases hm : 0 ≤ most ∧ most ≤ 8
    · have m0 : decide (0 ≤ most) = true := by simpa using hm.1
      have m1 : decide (most ≤ 8) = true := by simpa using hm.2
      have hmk := @run_makeMap Try.prog
      have He := Lib.hid he
      have Hm := Lib.hid hm
      clear hbk hm
      go_enter Try.func35, Try.ntmps35
      go_wp2_with (first
        | (go_at_call 71; refine (losses_any s wo ak ks ck ad ds cd al lost cl _ (hk.below (by (repeat (first | exact Below.refl _ _ | refine Below.alloc ?_ (by first | omega | (simp; done) | (simp; omega)) _ | refine Below.drew ?_ | refine Below.setCell ?_ (by first | omega | (simp; done) | (simp; omega)) _ | refine Below.trans ?_ (Below.mono (by assumption) (by first | omega | (simp; done) | (simp; omega))))))) (hd.below (by (repeat (first | exact Below.refl _ _ | refine Below.alloc ?_ (by first | omega | (simp; done) | (simp; omega)) _ | refine Below.drew ?_ | refine Below.setCell ?_ (by first | omega | (simp; done) | (simp; omega)) _ | refine Below.trans ?_ (Below.mono (by assumption) (by first | omega | (simp; done) | (simp; omega))))))) lk ld (hl.below (by (repeat (first | exact Below.refl _ _ | refine Below.alloc ?_ (by first | omega | (simp; done) | (simp; omega)) _ | refine Below.drew ?_ | refine Below.setCell ?_ (by first | omega | (simp; done) | (simp; omega)) _ | refine Below.trans ?_ (Below.mono (by assumption) (by first | omega | (simp; done) | (simp; omega))))))) ll).mono ?_; rintro e w1 ⟨rfl, hb1⟩; obtain ⟨hc1, hf1, hz1⟩ := bcell hb1; (try simp at hz1); (try (have hy0 : w.heap.size < w1.heap.size := by omega)); (try (have hy1 : w.heap.size + 1 < w1.heap.size := by omega)); (try (have hy2 : w.heap.size + 2 < w1.heap.size := by omega)))
        | (go_at_call 51; refine (within_any _ _ _ _).mono ?_; rintro e w1 ⟨rfl, rfl⟩))
      have hwB : Below w.heap.size w w1 := by (repeat (first | exact Below.refl _ _ | refine Below.alloc ?_ (by first | omega | (simp; done) | (simp; omega)) _ | refine Below.drew ?_ | refine Below.setCell ?_ (by first | omega | (simp; done) | (simp; omega)) _ | refine Below.trans ?_ (Below.mono (by assumption) (by first | omega | (simp; done) | (simp; omega)))))
      have hk2 := workAt_new w1 s wo ak ks.length ck ad ds.length cd al lost cl most 116 113 (hl.below hwB)
      have hm2 : ∀ G, MemoAt (((w1.alloc (.map #[] 0)).alloc (.cells #[.int .i64 s, .int .i64 wo, .slice ak ks.length ck, .slice ad ds.length cd, .slice al lost.length cl, .int .i64 most, .map (some w1.heap.size)] 116)).alloc (.cells #[.pointer (some ⟨w1.heap.size + 1, 0, none⟩)] 113)) w1.heap.size 0 G :=
        fun G => (MemoAt.made w1 G).below (((Below.refl _ _).alloc (Nat.le_refl _) _).alloc (by simp) _)
      have hb2 : Below w1.heap.size w1 (((w1.alloc (.map #[] 0)).alloc (.cells #[.int .i64 s, .int .i64 wo, .slice ak ks.length ck, .slice ad ds.length cd, .slice al lost.length cl, .int .i64 most, .map (some w1.heap.size)] 116)).alloc (.cells #[.pointer (some ⟨w1.heap.size + 1, 0, none⟩)] 113)) :=
        (((Below.refl _ _).alloc (Nat.le_refl _) _).alloc (by simp) _).alloc (by simp; omega) _
      have cW := cell_new ((w1.alloc (.map #[] 0)).alloc (.cells #[.int .i64 s, .int .i64 wo, .slice ak ks.length ck, .slice ad ds.length cd, .slice al lost.length cl, .int .i64 most, .map (some w1.heap.size)] 116)) #[.pointer (some ⟨w1.heap.size + 1, 0, none⟩)] 113 0 _ rfl
      have cWz : ((w1.alloc (.map #[] 0)).alloc (.cells #[.int .i64 s, .int .i64 wo, .slice ak ks.length ck, .slice ad ds.length cd, .slice al lost.length cl, .int .i64 most, .map (some w1.heap.size)] 116)).heap.size = w1.heap.size + 2 := by simp
      rw [cWz] at cW
      have cB2 : (w.alloc (.cells #[.int .i64 s, .int .i64 wo, .slice ak ks.length ck, .slice ad ds.length cd] 32)).cell? ⟨w.heap.size, 2, none⟩ = some (.slice ak ks.length ck) := cell_new w _ _ 2 _ rfl
      have cB3 : (w.alloc (.cells #[.int .i64 s, .int .i64 wo, .slice ak ks.length ck, .slice ad ds.length cd] 32)).cell? ⟨w.heap.size, 3, none⟩ = some (.slice ad ds.length cd) := cell_new w _ _ 3 _ rfl
      have bA : Below (w.heap.size + 1) (w.alloc (.cells #[.int .i64 s, .int .i64 wo, .slice ak ks.length ck, .slice ad ds.length cd] 32)) w1 := ((Below.refl _ _).alloc (by simp) _).trans (hb1.mono (by simp))
      have cB2' := (bA.cell (p := ⟨w.heap.size, 2, none⟩) (by simp)).trans cB2
      have cB3' := (bA.cell (p := ⟨w.heap.size, 3, none⟩) (by simp)).trans cB3
      have cD : w1.cell? ⟨w.heap.size + 1, 0, none⟩ = some (.slice none 0 0) := by
        rw [hb1.cell (by simp)]
        have := cell_new (w.alloc (.cells #[.int .i64 s, .int .i64 wo, .slice ak ks.length ck, .slice ad ds.length cd] 32)) #[.slice none 0 0] 23 0 _ rfl
        simpa using this
      have fD : w1.frozen? ⟨w.heap.size + 1, 0, none⟩ = false := by
        rw [hb1.frozen (by simp)]
        have := frozen_new (w.alloc (.cells #[.int .i64 s, .int .i64 wo, .slice ak ks.length ck, .slice ad ds.length cd] 32)) #[.slice none 0 0] 23 0
        simpa using this
      refine (fewest_any (w1.heap.size + 1) w1.heap.size ak ks.length ck ad ds.length cd al lost cl most lk5 (by omega) ll ds.length spot0 0 _ (by simp [spot0]) (by constructor <;> simp [spot0]) hk2 (hm2 _) (cost8 (by omega))).mono ?_
      rintro e w3 ⟨rfl, hk3, hm3⟩
      have wk3 := hk2.keep hk3
      have kW := hk3.cell cW
      have kB2 := hk3.cell (below_cell hb2 cB2')
      have kB3 := hk3.cell (below_cell hb2 cB3')
      have kD := hk3.cell (below_cell hb2 cD)
      have kF : w3.frozen? ⟨w.heap.size + 1, 0, none⟩ = false := by rw [hk3.frozen (below_cell hb2 cD), below_frozen hb2 cD]; exact fD
      have hk3z := hk3.size
      have hw3 : Below w.heap.size w w3 := (hwB.trans (hb2.mono hwB.size)).trans (hk3.toBelow hwB.size (by simp; have := hwB.size; omega))
      simp at hk3z
      clear hm2 hk2 cW cWz cB2 cB3 bA cB2' cB3' cD fD hmk hc1 hf1
      obtain ⟨L, hL⟩ : ∃ L, fewR (fun k => hadN lost k) most ks.length ds.length spot0 = L := ⟨_, rfl⟩
      have hLb := fewR_b (fun k => hadN lost k) most ks.length ds.length spot0
      rw [hL] at hLb ⊢
      have HL : Hid (planLeast ks.length ds.length lost most = L) := Lib.hid hL
      clear hL
      by_cases hst : 1048576 ≤ L
      · have e1 : planErr s wo ks ds lost most = 10 := by
          unfold planErr; rw [if_neg (by simp [He.out]), if_neg (by simp [Hm.out.1, Hm.out.2]), HL.out, if_pos hst]
        have E1 := Lib.hid e1
        clear e1
        have zD := World.cell?_setCell_same w3 ⟨w.heap.size + 1, 0, none⟩ (.slice none 0 0) kD
        go_wp2
        have e2 : planDays s wo ks ds lost most = [] := if_neg (by rw [E1.out]; omega)
        have e3 : planCh s wo ks ds lost most = 0 := if_neg (by rw [E1.out]; omega)
        refine bodyPost_ret (results_cell3 rfl rfl rfl rfl (load_list zD)) rfl ?_
        rw [e2, e3, E1.out]
        exact ⟨SliceNumErr.err, hw3.setCell (by simp) _⟩
      · have e1 : planErr s wo ks ds lost most = 0 := by
          unfold planErr; rw [if_neg (by simp [He.out]), if_neg (by simp [Hm.out.1, Hm.out.2]), HL.out, if_neg hst]
        have hst2 : L < 1048576 := by omega
        have e2 : planDays s wo ks ds lost most = planR (fun k => hadN lost k) most ks.length ds.length spot0 L := by unfold planDays; rw [if_pos e1, HL.out]
        have e3 : planCh s wo ks ds lost most = L := by unfold planCh; rw [if_pos e1, HL.out]
        have E1 := Lib.hid e1
        have E2 := Lib.hid e2
        have E3 := Lib.hid e3
        clear e1 e2 e3 hst
        have hb4 := (Below.refl w3.heap.size w3).alloc (Nat.le_refl _) (.cells #[.func (.func 76) #[] #[.pointer (some ⟨w.heap.size, 0, none⟩), .pointer (some ⟨w1.heap.size + 2, 0, none⟩), .pointer (some ⟨w.heap.size + 1, 0, none⟩), .pointer (some ⟨w3.heap.size, 0, none⟩)]] 122)
        have hwz := hwB.size
        have hx : ExtAt _ (w3.heap.size + 1) (w1.heap.size + 1) w1.heap.size w.heap.size (w1.heap.size + 2) w3.heap.size (w.heap.size + 1) ak ks.length ck ad ds.length cd :=
          ⟨below_cell hb4 kB2, below_cell hb4 kB3, below_cell hb4 kW, cell_new w3 _ _ 0 _ rfl, by omega, by omega, by omega, by omega, by omega, by omega, by omega, by omega, by omega, by omega, by simp⟩
        have kD4 := below_cell hb4 kD
        have kF4 := (below_frozen hb4 kD).trans kF
        have hcost : 0 + cost ds.length + cost (ds.length + 1) < maxLen := by
          have h1 := cost_le (r := ds.length) (by omega)
          have h2 := cost_le (r := ds.length + 1) (by omega)
          unfold maxLen
          omega
        have hext := (extend_any w (w3.heap.size + 1) (w1.heap.size + 1) w1.heap.size w.heap.size (w1.heap.size + 2) w3.heap.size (w.heap.size + 1) ak ks.length ck ad ds.length cd al lost cl most lk5 (by omega) ll (by omega) (by omega) (by omega) (by omega) hl
          ds.length spot0 L [] none 0 (0 + cost ds.length) _ (hw3.trans (hb4.mono (by omega))) (by simp [spot0]) (by constructor <;> simp [spot0]) hLb.1 (by omega) (by simp; omega) (wk3.below hb4) hx kD4 kF4 (OwnL.nil _ _ _ _) (hm3.below hb4) hcost)
        clear hx kD4 kF4
        go_wp2_with (go_at_call 76; refine hext.mono ?_; rintro e w6 ⟨rfl, hb6, hz6, a6, c6, hd6, ho6⟩)
        have zD := World.cell?_setCell_same w6 ⟨w.heap.size + 1, 0, none⟩ (.slice a6 (planR (fun k => hadN lost ↑k) most ks.length ds.length spot0 L).length c6) hd6
        refine bodyPost_ret (results_cell3 rfl rfl rfl rfl (load_list zD)) rfl ?_
        rw [E1.out, E2.out, E3.out]
        exact ⟨⟨a6, c6, rfl, (ho6.setCell (by simp; omega) _).base_le (by omega)⟩, ((hw3.trans (hb4.mono (by omega))).trans hb6).setCell (by simp) _⟩
    · have e1 : planErr s wo ks ds lost most = 2 := by
        unfold planErr; rw [if_neg (by simp [he]), if_pos hm]
      have e2 : planDays s wo ks ds lost most = [] := if_neg (by rw [e1]; omega)
      have e3 : planCh s wo ks ds lost most = 0 := if_neg (by rw [e1]; omega)
      rw [e1, e2, e3]
      have m0 : (decide (0 ≤ most) && decide (most ≤ 8)) = false := by simp; omega
      have He := Lib.hid he
      clear hbk hm e1 e2 e3 
      go_enter Try.func35, Try.ntmps35
      go_wp2_with (first
        | (go_at_call 71; refine (losses_any s wo ak ks ck ad ds cd al lost cl _ (hk.below (by (repeat (first | exact Below.refl _ _ | refine Below.alloc ?_ (by first | omega | (simp; done) | (simp; omega)) _ | refine Below.drew ?_ | refine Below.setCell ?_ (by first | omega | (simp; done) | (simp; omega)) _ | refine Below.trans ?_ (Below.mono (by assumption) (by first | omega | (simp; done) | (simp; omega))))))) (hd.below (by (repeat (first | exact Below.refl _ _ | refine Below.alloc ?_ (by first | omega | (simp; done) | (simp; omega)) _ | refine Below.drew ?_ | refine Below.setCell ?_ (by first | omega | (simp; done) | (simp; omega)) _ | refine Below.trans ?_ (Below.mono (by assumption) (by first | omega | (simp; done) | (simp; omega))))))) lk ld (hl.below (by (repeat (first | exact Below.refl _ _ | refine Below.alloc ?_ (by first | omega | (simp; done) | (simp; omega)) _ | refine Below.drew ?_ | refine Below.setCell ?_ (by first | omega | (simp; done) | (simp; omega)) _ | refine Below.trans ?_ (Below.mono (by assumption) (by first | omega | (simp; done) | (simp; omega))))))) ll).mono ?_; rintro e w1 ⟨rfl, hb1⟩; obtain ⟨hc1, hf1, hz1⟩ := bcell hb1; (try simp at hz1); (try (have hy0 : w.heap.size < w1.heap.size := by omega)); (try (have hy1 : w.heap.size + 1 < w1.heap.size := by omega)); (try (have hy2 : w.heap.size + 2 < w1.heap.size := by omega)))
        | (go_at_call 51; refine (within_any _ _ _ _).mono ?_; rw [m0]; rintro e w2 ⟨rfl, rfl⟩))
      have hwB : Below w.heap.size w w1 := by (repeat (first | exact Below.refl _ _ | refine Below.alloc ?_ (by first | omega | (simp; done) | (simp; omega)) _ | refine Below.drew ?_ | refine Below.setCell ?_ (by first | omega | (simp; done) | (simp; omega)) _ | refine Below.trans ?_ (Below.mono (by assumption) (by first | omega | (simp; done) | (simp; omega)))))
      have cD : w1.cell? ⟨w.heap.size + 1, 0, none⟩ = some (.slice none 0 0) := by
        rw [hb1.cell (by simp)]
        have := cell_new (w.alloc (.cells #[.int .i64 s, .int .i64 wo, .slice ak ks.length ck, .slice ad ds.length cd] 32)) #[.slice none 0 0] 23 0 _ rfl
        simpa using this
      have zD := World.cell?_setCell_same w1 ⟨w.heap.size + 1, 0, none⟩ (.slice none 0 0) cD
      refine bodyPost_ret (results_cell3 rfl rfl rfl rfl (load_list zD)) rfl ?_
      exact ⟨SliceNumErr.err, hwB.setCell (by simp) _⟩
  · have e1 : planErr s wo ks ds lost most = lossErr s wo ks ds lost := by
      unfold planErr; rw [if_pos he]
    have e2 : planDays s wo ks ds lost most = [] := if_neg (by rw [e1]; exact he)
    have e3 : planCh s wo ks ds lost most = 0 := if_neg (by rw [e1]; exact he)
    rw [e1, e2, e3]
    have hne : (lossErr s wo ks ds lost != 0) = true := by simpa using he
    clear he e1 e2 e3
    go_enter Try.func35, Try.ntmps35
    go_wp2_with (go_at_call 71; refine (losses_any s wo ak ks ck ad ds cd al lost cl _ (hk.below (by (repeat (first | exact Below.refl _ _ | refine Below.alloc ?_ (by first | omega | (simp; done) | (simp; omega)) _ | refine Below.drew ?_ | refine Below.setCell ?_ (by first | omega | (simp; done) | (simp; omega)) _ | refine Below.trans ?_ (Below.mono (by assumption) (by first | omega | (simp; done) | (simp; omega))))))) (hd.below (by (repeat (first | exact Below.refl _ _ | refine Below.alloc ?_ (by first | omega | (simp; done) | (simp; omega)) _ | refine Below.drew ?_ | refine Below.setCell ?_ (by first | omega | (simp; done) | (simp; omega)) _ | refine Below.trans ?_ (Below.mono (by assumption) (by first | omega | (simp; done) | (simp; omega))))))) lk ld (hl.below (by (repeat (first | exact Below.refl _ _ | refine Below.alloc ?_ (by first | omega | (simp; done) | (simp; omega)) _ | refine Below.drew ?_ | refine Below.setCell ?_ (by first | omega | (simp; done) | (simp; omega)) _ | refine Below.trans ?_ (Below.mono (by assumption) (by first | omega | (simp; done) | (simp; omega))))))) ll).mono ?_; rintro e w1 ⟨rfl, hb1⟩; obtain ⟨hc1, hf1, hz1⟩ := bcell hb1; (try simp at hz1); (try (have hy0 : w.heap.size < w1.heap.size := by omega)); (try (have hy1 : w.heap.size + 1 < w1.heap.size := by omega)); (try (have hy2 : w.heap.size + 2 < w1.heap.size := by omega)))
    have hwB : Below w.heap.size w w1 := by (repeat (first | exact Below.refl _ _ | refine Below.alloc ?_ (by first | omega | (simp; done) | (simp; omega)) _ | refine Below.drew ?_ | refine Below.setCell ?_ (by first | omega | (simp; done) | (simp; omega)) _ | refine Below.trans ?_ (Below.mono (by assumption) (by first | omega | (simp; done) | (simp; omega)))))
    have cD : w1.cell? ⟨w.heap.size + 1, 0, none⟩ = some (.slice none 0 0) := by
      rw [hb1.cell (by simp)]
      have := cell_new (w.alloc (.cells #[.int .i64 s, .int .i64 wo, .slice ak ks.length ck, .slice ad ds.length cd] 32)) #[.slice none 0 0] 23 0 _ rfl
      simpa using this
    have zD := World.cell?_setCell_same w1 ⟨w.heap.size + 1, 0, none⟩ (.slice none 0 0) cD
    refine bodyPost_ret (results_cell3 rfl rfl rfl rfl (load_list zD)) rfl ?_
    exact ⟨SliceNumErr.err, hwB.setCell (by simp) _⟩
end Go.Proofs.Ytmplgcefhpobgaa

namespace Go.Proofs.Ytmplgcefhpobgaa
set_option linter.unusedVariables false
set_option linter.unusedSimpArgs false
set_option linter.unnecessarySimpa false
open Go.RowKit Go.Flow

def guessOk (s : Int) (nc : Nat) (x : Int × Int) : Bool := ownOk nc x.1 && plainOk s x.2

/-- The four cells of a book. -/
structure BookAt (w : World) (B : Nat) (s wo : Int) (ak : Option Addr) (nk ck : Nat) (ad : Option Addr) (nd cd : Nat) : Prop where
  c0 : w.cell? ⟨B, 0, none⟩ = some (.int .i64 s)
  c1 : w.cell? ⟨B, 1, none⟩ = some (.int .i64 wo)
  c2 : w.cell? ⟨B, 2, none⟩ = some (.slice ak nk ck)
  c3 : w.cell? ⟨B, 3, none⟩ = some (.slice ad nd cd)
theorem BookAt.below {w w' : World} {B : Nat} {s wo : Int} {ak : Option Addr} {nk ck : Nat} {ad : Option Addr} {nd cd : Nat} (h : BookAt w B s wo ak nk ck ad nd cd) (hb : Below w.heap.size w w') : BookAt w' B s wo ak nk ck ad nd cd :=
  ⟨below_cell hb h.c0, below_cell hb h.c1, below_cell hb h.c2, below_cell hb h.c3⟩
theorem BookAt.lt {w : World} {B : Nat} {s wo : Int} {ak : Option Addr} {nk ck : Nat} {ad : Option Addr} {nd cd : Nat} (h : BookAt w B s wo ak nk ck ad nd cd) : B < w.heap.size := cell_lt h.c0
theorem BookAt.new (w : World) (s wo : Int) (ak : Option Addr) (nk ck : Nat) (ad : Option Addr) (nd cd : Nat) (T : TypeId) : BookAt (w.alloc (.cells #[.int .i64 s, .int .i64 wo, .slice ak nk ck, .slice ad nd cd] T)) w.heap.size s wo ak nk ck ad nd cd :=
  ⟨cell_new w _ T 0 _ rfl, cell_new w _ T 1 _ rfl, cell_new w _ T 2 _ rfl, cell_new w _ T 3 _ rfl⟩

set_option maxHeartbeats 1000000 in
theorem fine_meets (s wo : Int) (ak : Option Addr) (nk ck : Nat) (ad : Option Addr) (nd cd : Nat) (Bb Bc : Nat) (ac : Option Addr) (nc cc : Nat) (x : Int × Int) (w : World) (hb : BookAt w Bb s wo ak nk ck ad nd cd) (hc : w.cell? ⟨Bc, 0, none⟩ = some (.slice ac nc cc))
    (s0 : 0 ≤ s) (s1 : s ≤ 1000) (hn : nc ≤ 1000) : Meets Try.prog w 94 #[] #[.pointer (some ⟨Bc, 0, none⟩), .pointer (some ⟨Bb, 0, none⟩)] (.agg #[.int .i64 x.1, .int .i64 x.2]) (guessOk s nc x) := by
  intro w1 hw
  obtain ⟨q0, q1, q2, q3⟩ := hb.below hw
  have qc := below_cell hw hc
  have lB := cell_lt q0
  have lC := cell_lt qc
  simp only at lB lC
  clear hb hc hw
  show Calls Try.prog 94 #[.agg #[.int .i64 x.1, .int .i64 x.2], .pointer (some ⟨Bc, 0, none⟩), .pointer (some ⟨Bb, 0, none⟩)] w1 _
  cases h1 : ownOk nc x.1
  all_goals
    unfold guessOk
    rw [h1]
    have H1 := Lib.hid h1
    clear h1
    go_enter Try.func94, Try.ntmps94
    go_wp2_with (first
      | (go_at_call 51; refine (within_any _ _ _ _).mono ?_; rintro e w2 ⟨rfl, rfl⟩; rw [show (decide (0 ≤ x.1) && decide (x.1 ≤ (nc : Int) - 1)) = _ from H1.out])
      | (go_at_call 57; refine (plain_any s wo x.2 _ _ _ s0 s1).mono ?_; rintro e w3 ⟨rfl, hb3⟩; obtain ⟨hc3, hf3, hz3⟩ := bcell hb3))
    go_ret
    exact ⟨by simp [plainOk], by (repeat (first | exact Below.refl _ _ | refine Below.alloc ?_ (by first | omega | (simp; done) | (simp; omega)) _ | refine Below.drew ?_ | refine Below.setCell ?_ (by first | omega | (simp; done) | (simp; omega)) _ | refine Below.trans ?_ (Below.mono (by assumption) (by first | omega | (simp; done) | (simp; omega)))))⟩

def askErr (s wo : Int) (ks : List (Int × Int × Int)) (ds : List Int) (codes : List Int) (gs : List (Int × Int)) : Int :=
  if bookErr s wo ks ds ≠ 0 then bookErr s wo ks ds
  else if 10 < (codes.length : Int) ∨ 6 < (gs.length : Int) then 3
  else if codes.all (plainOk s) = true ∧ gs.all (guessOk s codes.length) = true then 0
  else 2

set_option maxHeartbeats 1000000 in
theorem asked_any (s wo : Int) (ak : Option Addr) (ks : List (Int × Int × Int)) (ck : Nat) (ad : Option Addr) (ds : List Int) (cd : Nat) (ac : Option Addr) (codes : List Int) (cc : Nat) (ag : Option Addr) (gs : List (Int × Int)) (cg : Nat) (w : World) (hk : Recs3At w ak ks) (hd : IntsAt w ad ds) (lk : ks.length ≤ 1000) (ld : ds.length ≤ 1000) (hc : IntsAt w ac codes) (lc : codes.length ≤ 1000) (hg : Recs2At w ag gs) (lg : gs.length ≤ 1000) :
    Calls Try.prog 78 #[.agg #[.int .i64 s, .int .i64 wo, .slice ak ks.length ck, .slice ad ds.length cd], .slice ac codes.length cc, .slice ag gs.length cg] w fun e w' => e = .returned (.int .i64 (askErr s wo ks ds codes gs)) ∧ Below w.heap.size w w' := by
  by_cases hbk : bookErr s wo ks ds = 0
  · have Hbk := Lib.hid hbk
    obtain ⟨_, _, s0, s1, _⟩ := bookErr_ok hbk
    have hB := BookAt.new w s wo ak ks.length ck ad ds.length cd 32
    have hbC : Below (w.alloc (.cells #[.int .i64 s, .int .i64 wo, .slice ak ks.length ck, .slice ad ds.length cd] 32)).heap.size (w.alloc (.cells #[.int .i64 s, .int .i64 wo, .slice ak ks.length ck, .slice ad ds.length cd] 32))
      ((w.alloc (.cells #[.int .i64 s, .int .i64 wo, .slice ak ks.length ck, .slice ad ds.length cd] 32)).alloc (.cells #[.slice ac codes.length cc] 23)) := (Below.refl _ _).alloc (Nat.le_refl _) _
    have hB2 := hB.below hbC
    have hC2 := cell_new (w.alloc (.cells #[.int .i64 s, .int .i64 wo, .slice ak ks.length ck, .slice ad ds.length cd] 32)) #[.slice ac codes.length cc] 23 0 _ rfl
    rw [show (w.alloc (.cells #[.int .i64 s, .int .i64 wo, .slice ak ks.length ck, .slice ad ds.length cd] 32)).heap.size = w.heap.size + 1 by simp] at hC2
    have HB2 := Lib.hid hB2
    have HC2 := Lib.hid hC2
    clear hB hB2 hC2 hbC
    by_cases t1 : 10 < (codes.length : Int)
    · have e1 : askErr s wo ks ds codes gs = 3 := by unfold askErr; rw [if_neg (by simp [hbk]), if_pos (.inl t1)]
      rw [e1]
      clear e1
      go_enter Try.func78, Try.ntmps78
      go_wp2_with (go_at_call 18; refine (checkBook_any s wo ak ks ck ad ds cd _ (hk.below (by (repeat (first | exact Below.refl _ _ | refine Below.alloc ?_ (by first | omega | (simp; done) | (simp; omega)) _ | refine Below.drew ?_ | refine Below.setCell ?_ (by first | omega | (simp; done) | (simp; omega)) _ | refine Below.trans ?_ (Below.mono (by assumption) (by first | omega | (simp; done) | (simp; omega))))))) (hd.below (by (repeat (first | exact Below.refl _ _ | refine Below.alloc ?_ (by first | omega | (simp; done) | (simp; omega)) _ | refine Below.drew ?_ | refine Below.setCell ?_ (by first | omega | (simp; done) | (simp; omega)) _ | refine Below.trans ?_ (Below.mono (by assumption) (by first | omega | (simp; done) | (simp; omega))))))) lk ld).mono ?_; rintro e w1 ⟨rfl, hb1⟩; obtain ⟨hc1, hf1, hz1⟩ := bcell hb1; (try simp at hz1); (try (have hy0 : w.heap.size < w1.heap.size := by omega)); (try (have hy1 : w.heap.size + 1 < w1.heap.size := by omega)); (try (have hy2 : w.heap.size + 2 < w1.heap.size := by omega)))
      go_ret
      exact ⟨rfl, by (repeat (first | exact Below.refl _ _ | refine Below.alloc ?_ (by first | omega | (simp; done) | (simp; omega)) _ | refine Below.drew ?_ | refine Below.setCell ?_ (by first | omega | (simp; done) | (simp; omega)) _ | refine Below.trans ?_ (Below.mono (by assumption) (by first | omega | (simp; done) | (simp; omega)))))⟩
    · by_cases t2 : 6 < (gs.length : Int)
      · have e1 : askErr s wo ks ds codes gs = 3 := by unfold askErr; rw [if_neg (by simp [hbk]), if_pos (.inr t2)]
        rw [e1]
        clear e1
        go_enter Try.func78, Try.ntmps78
        go_wp2_with (go_at_call 18; refine (checkBook_any s wo ak ks ck ad ds cd _ (hk.below (by (repeat (first | exact Below.refl _ _ | refine Below.alloc ?_ (by first | omega | (simp; done) | (simp; omega)) _ | refine Below.drew ?_ | refine Below.setCell ?_ (by first | omega | (simp; done) | (simp; omega)) _ | refine Below.trans ?_ (Below.mono (by assumption) (by first | omega | (simp; done) | (simp; omega))))))) (hd.below (by (repeat (first | exact Below.refl _ _ | refine Below.alloc ?_ (by first | omega | (simp; done) | (simp; omega)) _ | refine Below.drew ?_ | refine Below.setCell ?_ (by first | omega | (simp; done) | (simp; omega)) _ | refine Below.trans ?_ (Below.mono (by assumption) (by first | omega | (simp; done) | (simp; omega))))))) lk ld).mono ?_; rintro e w1 ⟨rfl, hb1⟩; obtain ⟨hc1, hf1, hz1⟩ := bcell hb1; (try simp at hz1); (try (have hy0 : w.heap.size < w1.heap.size := by omega)); (try (have hy1 : w.heap.size + 1 < w1.heap.size := by omega)); (try (have hy2 : w.heap.size + 2 < w1.heap.size := by omega)))
        go_ret
        exact ⟨rfl, by (repeat (first | exact Below.refl _ _ | refine Below.alloc ?_ (by first | omega | (simp; done) | (simp; omega)) _ | refine Below.drew ?_ | refine Below.setCell ?_ (by first | omega | (simp; done) | (simp; omega)) _ | refine Below.trans ?_ (Below.mono (by assumption) (by first | omega | (simp; done) | (simp; omega)))))⟩
      · cases hca : codes.all (plainOk s)
        · have e1 : askErr s wo ks ds codes gs = 2 := by unfold askErr; rw [if_neg (by simp [hbk]), if_neg (by omega), if_neg (by simp [hca])]
          rw [e1]
          have Hca := Lib.hid hca
          clear e1 hca
          go_enter Try.func78, Try.ntmps78
          go_wp2_with (first
            | (go_at_call 18; refine (checkBook_any s wo ak ks ck ad ds cd _ (hk.below (by (repeat (first | exact Below.refl _ _ | refine Below.alloc ?_ (by first | omega | (simp; done) | (simp; omega)) _ | refine Below.drew ?_ | refine Below.setCell ?_ (by first | omega | (simp; done) | (simp; omega)) _ | refine Below.trans ?_ (Below.mono (by assumption) (by first | omega | (simp; done) | (simp; omega))))))) (hd.below (by (repeat (first | exact Below.refl _ _ | refine Below.alloc ?_ (by first | omega | (simp; done) | (simp; omega)) _ | refine Below.drew ?_ | refine Below.setCell ?_ (by first | omega | (simp; done) | (simp; omega)) _ | refine Below.trans ?_ (Below.mono (by assumption) (by first | omega | (simp; done) | (simp; omega))))))) lk ld).mono ?_; rintro e w1 ⟨rfl, hb1⟩; obtain ⟨hc1, hf1, hz1⟩ := bcell hb1; (try simp at hz1); (try (have hy0 : w.heap.size < w1.heap.size := by omega)); (try (have hy1 : w.heap.size + 1 < w1.heap.size := by omega)); (try (have hy2 : w.heap.size + 2 < w1.heap.size := by omega)))
            | (go_at_call 54; refine (all_int ac codes cc 57 #[.agg #[.int .i64 s, .int .i64 wo, .slice ak ks.length ck, .slice ad ds.length cd]] #[] (plainOk s) _ (by omega) (hc.below (by (repeat (first | exact Below.refl _ _ | refine Below.alloc ?_ (by first | omega | (simp; done) | (simp; omega)) _ | refine Below.drew ?_ | refine Below.setCell ?_ (by first | omega | (simp; done) | (simp; omega)) _ | refine Below.trans ?_ (Below.mono (by assumption) (by first | omega | (simp; done) | (simp; omega))))))) (enters Try.func57 (by kernel_rfl) rfl) (fun x _ => plain_meets s wo ak ks ck ad ds cd x _ (by omega) (by omega))).mono ?_; rw [Hca.out]; rintro e w2 ⟨rfl, hb2⟩; obtain ⟨hc2, hf2, hz2⟩ := bcell hb2))
          go_ret
          exact ⟨rfl, by (repeat (first | exact Below.refl _ _ | refine Below.alloc ?_ (by first | omega | (simp; done) | (simp; omega)) _ | refine Below.drew ?_ | refine Below.setCell ?_ (by first | omega | (simp; done) | (simp; omega)) _ | refine Below.trans ?_ (Below.mono (by assumption) (by first | omega | (simp; done) | (simp; omega)))))⟩
        · have Hca := Lib.hid hca
          clear hca
          cases hga : gs.all (guessOk s codes.length)
          all_goals
            have e1 : askErr s wo ks ds codes gs = if gs.all (guessOk s codes.length) then 0 else 2 := by unfold askErr; rw [if_neg (by simp [hbk]), if_neg (by omega)]; simp [Hca.out, hga]
            rw [e1, hga]
            have Hga := Lib.hid hga
            clear e1 hga
            go_enter Try.func78, Try.ntmps78
            go_wp2_with (first
              | (go_at_call 18; refine (checkBook_any s wo ak ks ck ad ds cd _ (hk.below (by (repeat (first | exact Below.refl _ _ | refine Below.alloc ?_ (by first | omega | (simp; done) | (simp; omega)) _ | refine Below.drew ?_ | refine Below.setCell ?_ (by first | omega | (simp; done) | (simp; omega)) _ | refine Below.trans ?_ (Below.mono (by assumption) (by first | omega | (simp; done) | (simp; omega))))))) (hd.below (by (repeat (first | exact Below.refl _ _ | refine Below.alloc ?_ (by first | omega | (simp; done) | (simp; omega)) _ | refine Below.drew ?_ | refine Below.setCell ?_ (by first | omega | (simp; done) | (simp; omega)) _ | refine Below.trans ?_ (Below.mono (by assumption) (by first | omega | (simp; done) | (simp; omega))))))) lk ld).mono ?_; rintro e w1 ⟨rfl, hb1⟩; obtain ⟨hc1, hf1, hz1⟩ := bcell hb1; (try simp at hz1); (try (have hy0 : w.heap.size < w1.heap.size := by omega)); (try (have hy1 : w.heap.size + 1 < w1.heap.size := by omega)); (try (have hy2 : w.heap.size + 2 < w1.heap.size := by omega)))
              | (go_at_call 54; refine (all_int ac codes cc 57 #[.agg #[.int .i64 s, .int .i64 wo, .slice ak ks.length ck, .slice ad ds.length cd]] #[] (plainOk s) _ (by omega) (hc.below (by (repeat (first | exact Below.refl _ _ | refine Below.alloc ?_ (by first | omega | (simp; done) | (simp; omega)) _ | refine Below.drew ?_ | refine Below.setCell ?_ (by first | omega | (simp; done) | (simp; omega)) _ | refine Below.trans ?_ (Below.mono (by assumption) (by first | omega | (simp; done) | (simp; omega))))))) (enters Try.func57 (by kernel_rfl) rfl) (fun x _ => plain_meets s wo ak ks ck ad ds cd x _ (by omega) (by omega))).mono ?_; rw [Hca.out]; rintro e w2 ⟨rfl, hb2⟩; obtain ⟨hc2, hf2, hz2⟩ := bcell hb2)
              | (go_at_call 95; refine (all_guess ag gs cg 94 #[] #[.pointer (some ⟨w.heap.size + 1, 0, none⟩), .pointer (some ⟨w.heap.size, 0, none⟩)] (guessOk s codes.length) _ (by omega) (hg.below (by (repeat (first | exact Below.refl _ _ | refine Below.alloc ?_ (by first | omega | (simp; done) | (simp; omega)) _ | refine Below.drew ?_ | refine Below.setCell ?_ (by first | omega | (simp; done) | (simp; omega)) _ | refine Below.trans ?_ (Below.mono (by assumption) (by first | omega | (simp; done) | (simp; omega))))))) (enters Try.func94 (by kernel_rfl) rfl) (fun x _ => fine_meets s wo ak ks.length ck ad ds.length cd w.heap.size (w.heap.size + 1) ac codes.length cc x _ ((HB2.out.below hb1).below hb2) (below_cell hb2 (below_cell hb1 HC2.out)) (by omega) (by omega) (by omega))).mono ?_; rw [Hga.out]; rintro e w3 ⟨rfl, hb3⟩; obtain ⟨hc3, hf3, hz3⟩ := bcell hb3))
            go_ret
            exact ⟨rfl, by (repeat (first | exact Below.refl _ _ | refine Below.alloc ?_ (by first | omega | (simp; done) | (simp; omega)) _ | refine Below.drew ?_ | refine Below.setCell ?_ (by first | omega | (simp; done) | (simp; omega)) _ | refine Below.trans ?_ (Below.mono (by assumption) (by first | omega | (simp; done) | (simp; omega)))))⟩
  · have e1 : askErr s wo ks ds codes gs = bookErr s wo ks ds := by unfold askErr; rw [if_pos hbk]
    rw [e1]
    have hne : (bookErr s wo ks ds != 0) = true := by simpa using hbk
    clear hbk e1
    go_enter Try.func78, Try.ntmps78
    go_wp2_with (go_at_call 18; refine (checkBook_any s wo ak ks ck ad ds cd _ (hk.below (by (repeat (first | exact Below.refl _ _ | refine Below.alloc ?_ (by first | omega | (simp; done) | (simp; omega)) _ | refine Below.drew ?_ | refine Below.setCell ?_ (by first | omega | (simp; done) | (simp; omega)) _ | refine Below.trans ?_ (Below.mono (by assumption) (by first | omega | (simp; done) | (simp; omega))))))) (hd.below (by (repeat (first | exact Below.refl _ _ | refine Below.alloc ?_ (by first | omega | (simp; done) | (simp; omega)) _ | refine Below.drew ?_ | refine Below.setCell ?_ (by first | omega | (simp; done) | (simp; omega)) _ | refine Below.trans ?_ (Below.mono (by assumption) (by first | omega | (simp; done) | (simp; omega))))))) lk ld).mono ?_; rintro e w1 ⟨rfl, hb1⟩; obtain ⟨hc1, hf1, hz1⟩ := bcell hb1; (try simp at hz1); (try (have hy0 : w.heap.size < w1.heap.size := by omega)); (try (have hy1 : w.heap.size + 1 < w1.heap.size := by omega)); (try (have hy2 : w.heap.size + 2 < w1.heap.size := by omega)))
    go_ret
    exact ⟨rfl, by (repeat (first | exact Below.refl _ _ | refine Below.alloc ?_ (by first | omega | (simp; done) | (simp; omega)) _ | refine Below.drew ?_ | refine Below.setCell ?_ (by first | omega | (simp; done) | (simp; omega)) _ | refine Below.trans ?_ (Below.mono (by assumption) (by first | omega | (simp; done) | (simp; omega)))))⟩
end Go.Proofs.Ytmplgcefhpobgaa

namespace Go.Proofs.Ytmplgcefhpobgaa
set_option linter.unusedVariables false
set_option linter.unusedSimpArgs false
set_option linter.unnecessarySimpa false
open Go.RowKit Go.Flow

structure KeyAt (w : World) (B : Nat) (m a st : Int) : Prop where
  c0 : w.cell? ⟨B, 0, none⟩ = some (.int .i64 m)
  c1 : w.cell? ⟨B, 1, none⟩ = some (.int .i64 a)
  c2 : w.cell? ⟨B, 2, none⟩ = some (.int .i64 st)
theorem KeyAt.below {w w' : World} {B : Nat} {m a st : Int} (h : KeyAt w B m a st) (hb : Below w.heap.size w w') : KeyAt w' B m a st := ⟨below_cell hb h.c0, below_cell hb h.c1, below_cell hb h.c2⟩
theorem KeyAt.new (w : World) (m a st : Int) (T : TypeId) : KeyAt (w.alloc (.cells #[.int .i64 m, .int .i64 a, .int .i64 st] T)) w.heap.size m a st :=
  ⟨cell_new w _ T 0 _ rfl, cell_new w _ T 1 _ rfl, cell_new w _ T 2 _ rfl⟩

def agreeOk (s m a st : Int) (codes : List Int) (x : Int × Int) : Bool := codeN s m a st x.2 x.1 == codes.getD x.1.toNat 0

set_option maxHeartbeats 1000000 in
theorem agrees_meets (s wo : Int) (ak : Option Addr) (nk ck : Nat) (ad : Option Addr) (nd cd : Nat) (Bb Bk Bc : Nat) (m a st : Int) (ac : Option Addr) (codes : List Int) (cc : Nat) (x : Int × Int) (w : World) (hb : BookAt w Bb s wo ak nk ck ad nd cd) (hk : KeyAt w Bk m a st)
    (hc : w.cell? ⟨Bc, 0, none⟩ = some (.slice ac codes.length cc)) (hi : IntsAt w ac codes) (s0 : 0 < s) (s1 : s ≤ 1000) (lc : codes.length ≤ 1000) (m0 : 0 ≤ m) (m1 : m ≤ 1000) (a0 : 0 ≤ a) (a1 : a ≤ 1000) (st0 : 0 ≤ st) (st1 : st ≤ 1000) (hx : guessOk s codes.length x = true) :
    Meets Try.prog w 98 #[] #[.pointer (some ⟨Bb, 0, none⟩), .pointer (some ⟨Bk, 0, none⟩), .pointer (some ⟨Bc, 0, none⟩)] (.agg #[.int .i64 x.1, .int .i64 x.2]) (agreeOk s m a st codes x) := by
  intro w1 hw
  obtain ⟨i, p⟩ := x
  simp [guessOk, ownOk, plainOk] at hx
  obtain ⟨⟨i0, i1⟩, p0, p1⟩ := hx
  obtain ⟨j, rfl⟩ := Int.eq_ofNat_of_zero_le i0
  have hj : j < codes.length := by omega
  obtain ⟨q0, q1, q2, q3⟩ := hb.below hw
  obtain ⟨k0, k1, k2⟩ := hk.below hw
  have qc := below_cell hw hc
  have lB := cell_lt q0
  have lK := cell_lt k0
  have lC := cell_lt qc
  obtain ⟨b, off, rfl, hbl, hcell⟩ := (hi.below hw) j hj
  simp only at lB lC lK
  have hjI : (j : Int) < (codes.length : Int) := by omega
  clear hb hc hw hi hk
  show Calls Try.prog 98 #[.agg #[.int .i64 j, .int .i64 p], .pointer (some ⟨Bb, 0, none⟩), .pointer (some ⟨Bk, 0, none⟩), .pointer (some ⟨Bc, 0, none⟩)] w1 _
  go_enter Try.func98, Try.ntmps98
  go_wp2
  (refine wp_region_ext 13 (by kernel_rfl) (by kernel_rfl) ?_; simp only [List.take_succ_cons, List.take_zero, List.drop_succ_cons, List.drop_zero]; (repeat (go_big_quiet_step (((go_at_call 60; refine Calls_ext (code_any s wo m a st p j _ _ _ (by omega) (by omega) (by omega) (by omega) (by omega) (by omega) (by omega) (by omega) (by omega) (by omega) (by omega) (by omega))))))); refine wpQuiet_nil ?_; rintro _ ⟨ex, rfl⟩; have hex := ex.below; have hexz := ex.size; (try simp at hexz); (try (have hy0 : w.heap.size < ex.to.heap.size := by omega)); (try (have hy1 : w.heap.size + 1 < ex.to.heap.size := by omega)); (try (have hy2 : w.heap.size + 2 < ex.to.heap.size := by omega)))
  go_wp2
  go_ret
  exact ⟨by simp [agreeOk, hj], by (repeat (first | exact Below.refl _ _ | refine Below.alloc ?_ (by first | omega | (simp; done) | (simp; omega)) _ | refine Below.drew ?_ | refine Below.setCell ?_ (by first | omega | (simp; done) | (simp; omega)) _ | refine Below.trans ?_ (Below.mono (by assumption) (by first | omega | (simp; done) | (simp; omega)))))⟩

/-- What Add can be. -/
def addsN (s m st : Int) (codes : List Int) (gs : List (Int × Int)) : List Int :=
  match gs with
  | [] => (List.range s.toNat).map Int.ofNat
  | g :: _ => [(codes.getD g.1.toNat 0 + s - codeN s m 0 st g.2 g.1) % s]

set_option maxHeartbeats 1000000 in
theorem adds_any (s wo : Int) (ak : Option Addr) (ks : List (Int × Int × Int)) (ck : Nat) (ad : Option Addr) (ds : List Int) (cd : Nat) (m st : Int) (ac : Option Addr) (codes : List Int) (cc : Nat) (ag : Option Addr) (gs : List (Int × Int)) (cg : Nat) (w : World) (s0 : 0 < s) (s1 : s ≤ 1000) (lc : codes.length ≤ 1000) (lg : gs.length ≤ 1000) (m0 : 0 ≤ m) (m1 : m ≤ 1000) (st0 : 0 ≤ st) (st1 : st ≤ 1000)
    (hc : IntsAt w ac codes) (hg : Recs2At w ag gs) (hco : codes.all (plainOk s) = true) (hgo : gs.all (guessOk s codes.length) = true) :
    Calls Try.prog 97 #[.agg #[.int .i64 s, .int .i64 wo, .slice ak ks.length ck, .slice ad ds.length cd], .agg #[.int .i64 m, .int .i64 0, .int .i64 st], .slice ac codes.length cc, .slice ag gs.length cg] w fun e w' =>
      ∃ a c, e = .returned (.slice a (addsN s m st codes gs).length c) ∧ OwnL 3 1 w.heap.size w' a c (addsN s m st codes gs).length ((addsN s m st codes gs).map (Value.int .i64)) ∧ Below w.heap.size w w' := by
  have hne : (s == 0) = false := by simp; omega
  cases gs with
  | nil =>
    obtain ⟨S, rfl⟩ := Int.eq_ofNat_of_zero_le (Int.le_of_lt s0)
    have hres : addsN S m st codes [] = upTo (fun i => (i : Int)) S := by simp [addsN, upTo]
    rw [hres, upTo_len]
    clear hres
    simp only [List.length_nil]
    go_enter Try.func97, Try.ntmps97
    go_wp2
    obtain ⟨wS, hwS⟩ : ∃ x : World, x = (w.alloc (.cells #[.int .i64 S, .int .i64 wo, .slice ak ks.length ck, .slice ad ds.length cd] 32)).alloc (.cells #[.int .i64 m, .int .i64 0, .int .i64 st] 91) := ⟨_, rfl⟩
    have hbS : Below w.heap.size w wS := by rw [hwS]; (repeat (first | exact Below.refl _ _ | refine Below.alloc ?_ (by first | omega | (simp; done) | (simp; omega)) _ | refine Below.drew ?_ | refine Below.setCell ?_ (by first | omega | (simp; done) | (simp; omega)) _ | refine Below.trans ?_ (Below.mono (by assumption) (by first | omega | (simp; done) | (simp; omega)))))
    rw [← hwS]
    go_loopw [8, 10, 39] (fun v _ i wr => ∃ (k : Nat) (a' : Option Addr) (c' : Nat), k ≤ S ∧ i = .int .i64 k ∧ v = .slice a' k c' ∧ OwnL 3 1 w.heap.size wr a' c' k ((upTo (fun i => (i : Int)) k).map (Value.int .i64)) ∧ Below w.heap.size w wr)
      (fun _ _ i _ => S - (intOf i).toNat)
    case atStart => exact ⟨0, none, 0, Nat.zero_le _, rfl, rfl, OwnL.nil _ _ _ _, hbS⟩
    case round =>
      obtain ⟨k, a', c', hk', rfl, rfl, hown, hbel⟩ := hrel
      have hzz : w.heap.size ≤ wr.heap.size := hbel.size
      by_cases hlt : k < S
      · go_wp2_with (at_builtin; refine wpList_app_lit elInt rfl _ _ rfl _ _ _ _ _ rfl hown 1 1 rfl rfl (fun u hu => ?c1) ?c2 ?c3 ?c4 ?_)
        case c1 => simp at hu; subst hu; rfl
        case c2 => unfold maxLen; omega
        case c3 => omega
        case c4 => omega
        intro a2 c2 w2 hown2 hb2
        go_wp2
        go_roundw
        case rel => exact ⟨k + 1, a2, c2, by omega, by go_num, rfl, by rw [upTo_succ, List.map_append]; exact hown2, hbel.trans hb2⟩
        case measure => simp [intOf]; omega
      · obtain rfl : k = S := by omega
        go_wp2
        go_ret
        exact ⟨a', c', rfl, hown, hbel⟩
  | cons g gs =>
    obtain ⟨i, p⟩ := g
    simp [guessOk, ownOk, plainOk] at hgo
    obtain ⟨⟨⟨i0, i1⟩, p0, p1⟩, _⟩ := hgo
    obtain ⟨j, rfl⟩ := Int.eq_ofNat_of_zero_le i0
    have hj : j < codes.length := by omega
    obtain ⟨b2, off2, rfl, hbl2, hg0, hg1⟩ := hg 0 (by simp)
    obtain ⟨b, off, rfl, hbl, hcell⟩ := hc j hj
    have hcj := List.all_eq_true.1 hco codes[j] (List.getElem_mem hj)
    simp [plainOk] at hcj
    simp at hg0 hg1
    have hjI : (j : Int) < (codes.length : Int) := by omega
    have hcb := codeN_b (s := s) (m := m) (a := 0) (st := st) (n := p) (i := j) s0
    have hres : addsN s m st codes ((↑j, p) :: gs) = [(codes[j] + s - codeN s m 0 st p j) % s] := by simp [addsN, hj]
    rw [hres]
    have hcell' : w.cell? ⟨b, off + j, none⟩ = some (.int .i64 codes[j]) := by rw [hcell]; simp [hj]
    have x1 : IntKind.i64.wrap (codes[j] + s) = codes[j] + s := IntWalk.i64_in _ (by omega)
    have x2 : IntKind.i64.wrap (codes[j] + s - codeN s m 0 st p j) = codes[j] + s - codeN s m 0 st p j := IntWalk.i64_in _ (by omega)
    clear hres hcell hc hg hco
    have hgl : (0 : Int) < ((((j : Int), p) :: gs).length : Int) := by simp
    have hgl2 : 0 < (((j : Int), p) :: gs).length := by simp
    obtain ⟨ng, hng⟩ : ∃ ng, (((j : Int), p) :: gs).length = ng := ⟨_, rfl⟩
    rw [hng] at hgl hgl2 ⊢
    clear hng
    go_enter Try.func97, Try.ntmps97
    go_wp2
    have z1 : b < w.heap.size + 1 + 1 + 1 := by omega
    have z2 : b < w.heap.size + 1 + 1 := by omega
    have z3 : b < w.heap.size + 1 := by omega
    (refine wp_region_ext 19 (by kernel_rfl) (by kernel_rfl) ?_; simp only [List.take_succ_cons, List.take_zero, List.drop_succ_cons, List.drop_zero]; (repeat (go_big_quiet_step (((go_at_call 60; refine Calls_ext (code_any s wo m 0 st p j _ _ _ (by omega) (by omega) (by omega) (by omega) (by omega) (by omega) (by omega) (by omega) (by omega) (by omega) (by omega) (by omega))))))); refine wpQuiet_nil ?_; rintro _ ⟨ex, rfl⟩; have hex := ex.below; have hexz := ex.size; (try simp at hexz); (try (have hy0 : w.heap.size < ex.to.heap.size := by omega)); (try (have hy1 : w.heap.size + 1 < ex.to.heap.size := by omega)); (try (have hy2 : w.heap.size + 2 < ex.to.heap.size := by omega)))
    go_wp2
    go_ret
    have hwe : Below w.heap.size w ex.to := Below.trans (by (repeat (first | exact Below.refl _ _ | refine Below.alloc ?_ (by first | omega | (simp; done) | (simp; omega)) _ | refine Below.drew ?_ | refine Below.setCell ?_ (by first | omega | (simp; done) | (simp; omega)) _ | refine Below.trans ?_ (Below.mono (by assumption) (by first | omega | (simp; done) | (simp; omega)))))) (ex.below.mono (by simp; omega))
    exact ⟨_, _, rfl, OwnL.lit #[_] hwe.size (by decide) rfl, hwe.alloc hwe.size _⟩
end Go.Proofs.Ytmplgcefhpobgaa

namespace Go.Proofs.Ytmplgcefhpobgaa
set_option linter.unusedVariables false
set_option linter.unusedSimpArgs false
set_option linter.unnecessarySimpa false
open Go.RowKit Go.Flow Go.Shelf
attribute [local go_sem] Oper.semAt_some

abbrev K3 := Int × Int × Int
def innN (s m st : Int) (codes : List Int) (gs : List (Int × Int)) (adds : List Int) : List K3 := (adds.filter fun a => gs.all (agreeOk s m a st codes)).map fun a => (m, a, st)
def midN (s m : Int) (codes : List Int) (gs : List (Int × Int)) (n : Nat) : List K3 := (List.range n).flatMap fun (st : Nat) => innN s m st codes gs (addsN s m st codes gs)
def outN (s : Int) (codes : List Int) (gs : List (Int × Int)) (n : Nat) : List K3 := (List.range n).flatMap fun (i : Nat) => midN s ((i : Int) + 1) codes gs s.toNat
def keysN (s : Int) (codes : List Int) (gs : List (Int × Int)) : List K3 := outN s codes gs (s - 1).toNat

theorem midN_succ (s m : Int) (codes : List Int) (gs : List (Int × Int)) (n : Nat) : midN s m codes gs (n + 1) = midN s m codes gs n ++ innN s m n codes gs (addsN s m n codes gs) := by
  simp [midN, List.range_succ]
theorem outN_succ (s : Int) (codes : List Int) (gs : List (Int × Int)) (n : Nat) : outN s codes gs (n + 1) = outN s codes gs n ++ midN s ((n : Int) + 1) codes gs s.toNat := by
  simp [outN, List.range_succ]
theorem addsN_len (s m st : Int) (codes : List Int) (gs : List (Int × Int)) (h0 : 0 < s) (h1 : s ≤ 41) : (addsN s m st codes gs).length ≤ 41 := by
  unfold addsN
  split
  · simp; omega
  · simp
theorem addsN_mem (s m st : Int) (codes : List Int) (gs : List (Int × Int)) (h0 : 0 < s) : ∀ x ∈ addsN s m st codes gs, 0 ≤ x ∧ x < s := by
  intro x hx
  unfold addsN at hx
  split at hx
  · simp at hx; omega
  · simp at hx; subst hx; exact ⟨Int.emod_nonneg _ (by omega), Int.emod_lt_of_pos _ h0⟩
theorem innN_len (s m st : Int) (codes : List Int) (gs : List (Int × Int)) (l : List Int) : (innN s m st codes gs l).length ≤ l.length := by
  unfold innN
  rw [List.length_map]
  exact List.length_filter_le _ _
theorem midN_len (s m : Int) (codes : List Int) (gs : List (Int × Int)) (h0 : 0 < s) (h1 : s ≤ 41) : ∀ n : Nat, (midN s m codes gs n).length ≤ 41 * n
  | 0 => by simp [midN]
  | n + 1 => by
    rw [midN_succ, List.length_append]
    have := midN_len s m codes gs h0 h1 n
    have h2 := innN_len s m n codes gs (addsN s m n codes gs)
    have h3 := addsN_len s m n codes gs h0 h1
    omega
theorem outN_len (s : Int) (codes : List Int) (gs : List (Int × Int)) (h0 : 0 < s) (h1 : s ≤ 41) : ∀ n : Nat, (outN s codes gs n).length ≤ 1681 * n
  | 0 => by simp [outN]
  | n + 1 => by
    rw [outN_succ, List.length_append]
    have := outN_len s codes gs h0 h1 n
    have h2 := midN_len s ((n : Int) + 1) codes gs h0 h1 s.toNat
    omega
theorem innN_take (s m st : Int) (codes : List Int) (gs : List (Int × Int)) (l : List Int) (k : Nat) (hk : k < l.length) :
    innN s m st codes gs (l.take (k + 1)) = innN s m st codes gs (l.take k) ++ if gs.all (agreeOk s m l[k] st codes) then [(m, l[k], st)] else [] := by
  unfold innN
  rw [List.take_succ_eq_append_getElem hk, List.filter_append, List.map_append]
  congr 1
  by_cases h : gs.all (agreeOk s m l[k] st codes) = true
  · rw [if_pos h]; simp only [List.filter_cons, h, if_true, List.filter_nil, List.map_cons, List.map_nil]
  · rw [if_neg h]; simp only [List.filter_cons, h, if_false, List.filter_nil, List.map_nil]; rfl

/-- All cells but those of block bm hold what they held. -/
structure CK (bm : Nat) (W W' : World) : Prop where
  size : W.heap.size ≤ W'.heap.size
  cell : ∀ (a : Addr) (v : Value), a.block ≠ bm → W.cell? a = some v → W'.cell? a = some v
theorem CK.refl (bm : Nat) (W : World) : CK bm W W := ⟨Nat.le_refl _, fun _ _ _ h => h⟩
theorem CK.trans {bm : Nat} {A B C : World} (h : CK bm A B) (k : CK bm B C) : CK bm A C := ⟨Nat.le_trans h.size k.size, fun a v hn hc => k.cell a v hn (h.cell a v hn hc)⟩
theorem CK.below {bm : Nat} {W W' : World} (hb : Below W.heap.size W W') : CK bm W W' := ⟨hb.size, fun _ _ _ h => below_cell hb h⟩
theorem CK.putObj {bm : Nat} (W : World) (l : Nat) (o o' : Obj) (h : W.heap[l]? = some o) (ho : o.isCells = false) : CK bm W (W.putObj l o') :=
  ⟨(grownBy_putObj' W l o').size, fun a v _ hc => cell_kept hc (grownBy_putObj' W l o') (fun r e => by cases e; exact ⟨o, h, ho⟩)⟩

/-- ints, pairs: in other blocks than bm -/
def IntsN (bm : Nat) (w : World) (a : Option Addr) (xs : List Int) : Prop := ∀ k, k < xs.length → ∃ b off, a = some ⟨b, off, none⟩ ∧ b ≠ bm ∧ b < w.heap.size ∧ w.cell? ⟨b, off + k, none⟩ = some (.int .i64 (xs.getD k 0))
def RecsN (bm : Nat) (w : World) (a : Option Addr) (xs : List (Int × Int)) : Prop := ∀ k (h : k < xs.length), ∃ b off, a = some ⟨b, off, none⟩ ∧ b ≠ bm ∧ b < w.heap.size ∧ w.cell? ⟨b, off + k * 2, none⟩ = some (.int .i64 xs[k].1) ∧ w.cell? ⟨b, off + k * 2 + 1, none⟩ = some (.int .i64 xs[k].2)
theorem IntsN.ck {bm : Nat} {w w' : World} {a : Option Addr} {xs : List Int} (h : IntsN bm w a xs) (k : CK bm w w') : IntsN bm w' a xs := fun i hi =>
  let ⟨b, off, ha, hn, hlt, hc⟩ := h i hi
  ⟨b, off, ha, hn, Nat.lt_of_lt_of_le hlt k.size, k.cell _ _ hn hc⟩
theorem RecsN.ck {bm : Nat} {w w' : World} {a : Option Addr} {xs : List (Int × Int)} (h : RecsN bm w a xs) (k : CK bm w w') : RecsN bm w' a xs := fun i hi =>
  let ⟨b, off, ha, hn, hlt, hc, hd⟩ := h i hi
  ⟨b, off, ha, hn, Nat.lt_of_lt_of_le hlt k.size, k.cell _ _ hn hc, k.cell _ _ hn hd⟩
theorem IntsN.to {bm : Nat} {w : World} {a : Option Addr} {xs : List Int} (h : IntsN bm w a xs) : IntsAt w a xs := fun i hi =>
  let ⟨b, off, ha, _, hlt, hc⟩ := h i hi
  ⟨b, off, ha, hlt, hc⟩
theorem RecsN.to {bm : Nat} {w : World} {a : Option Addr} {xs : List (Int × Int)} (h : RecsN bm w a xs) : Recs2At w a xs := fun i hi =>
  let ⟨b, off, ha, _, hlt, hc, hd⟩ := h i hi
  ⟨b, off, ha, hlt, hc, hd⟩
theorem OwnL.intsN {base bm : Nat} {w : World} {a : Option Addr} {c n : Nat} {zs : List Int} (h : OwnL 3 1 base w a c n (zs.map (Value.int .i64))) (hb : bm < base) : IntsN bm w a zs := fun k hk => by
  rcases h.form with ⟨_, _, _, h4⟩ | ⟨g, rfl, hg, hlt, _, _, _, hc⟩
  · simp at h4; subst h4; simp at hk
  · exact ⟨g, 0, rfl, by omega, hlt, by rw [Nat.zero_add]; exact hc k _ (by simp [hk])⟩
theorem IntsAt.toN {bm : Nat} {w0 w : World} {a : Option Addr} {xs : List Int} (h : IntsAt w0 a xs) (hb : Below w0.heap.size w0 w) (hm : w0.heap.size ≤ bm) : IntsN bm w a xs := fun k hk =>
  let ⟨b, off, ha, hlt, hc⟩ := h k hk
  ⟨b, off, ha, by omega, Nat.lt_of_lt_of_le hlt hb.size, below_cell hb hc⟩
theorem Recs2At.toN {bm : Nat} {w0 w : World} {a : Option Addr} {xs : List (Int × Int)} (h : Recs2At w0 a xs) (hb : Below w0.heap.size w0 w) (hm : w0.heap.size ≤ bm) : RecsN bm w a xs := fun k hk =>
  let ⟨b, off, ha, hlt, hc, hd⟩ := h k hk
  ⟨b, off, ha, by omega, Nat.lt_of_lt_of_le hlt hb.size, below_cell hb hc, below_cell hb hd⟩
theorem BookAt.ck {bm : Nat} {w w' : World} {B : Nat} {s wo : Int} {ak : Option Addr} {nk ck : Nat} {ad : Option Addr} {nd cd : Nat} (h : BookAt w B s wo ak nk ck ad nd cd) (k : CK bm w w') (hn : B ≠ bm) : BookAt w' B s wo ak nk ck ad nd cd :=
  ⟨k.cell _ _ hn h.c0, k.cell _ _ hn h.c1, k.cell _ _ hn h.c2, k.cell _ _ hn h.c3⟩

def encK (x : K3) : Array Value := #[.agg #[.int .i64 x.1, .int .i64 x.2.1, .int .i64 x.2.2]]

set_option maxRecDepth 100000 in
set_option maxHeartbeats 4000000 in
theorem keys1_stops (n : Nat) (hn : 2 ≤ n) (bm Bb Bc Bg : Nat) (s wo : Int) (ak : Option Addr) (ks : List K3) (ck : Nat) (ad : Option Addr) (ds : List Int) (cd : Nat) (ac : Option Addr) (codes : List Int) (cc : Nat) (ag : Option Addr) (gs : List (Int × Int)) (cg : Nat) (w : World)
    (hB : BookAt w Bb s wo ak ks.length ck ad ds.length cd) (hC : w.cell? ⟨Bc, 0, none⟩ = some (.slice ac codes.length cc)) (hG : w.cell? ⟨Bg, 0, none⟩ = some (.slice ag gs.length cg)) (nb : Bb ≠ bm) (nc : Bc ≠ bm) (ng : Bg ≠ bm) (hbm : bm < w.heap.size)
    (hc : IntsN bm w ac codes) (hg : RecsN bm w ag gs) (s0 : 2 ≤ s) (s1 : s ≤ 41) (lc : codes.length ≤ 1000) (lg : gs.length ≤ 1000) (hco : codes.all (plainOk s) = true) (hgo : gs.all (guessOk s codes.length) = true) :
    SeqStopsK Fence.wide n Try.prog 96 #[.pointer (some ⟨Bb, 0, none⟩), .pointer (some ⟨Bc, 0, none⟩), .pointer (some ⟨Bg, 0, none⟩)] encK (CK bm) (fun xs => xs = keysN s codes gs) (fun _ => True) 1000000 w := fun l J Jx W hW hJ hJx hY h0 => by
  have hB' := hB.below hW
  have hC' := below_cell hW hC
  have hG' := below_cell hW hG
  have hbm' : bm < W.heap.size := Nat.lt_of_lt_of_le hbm hW.size
  have hc' := hc.ck (CK.below hW)
  have hg' := hg.ck (CK.below hW)
  clear hW hB hC hG hbm hc hg
  have h1n : 1 ≤ n := by omega
  refine callsIn_of_wp Try.func96 rfl trivial ?_ rfl
  simp only [Try.ntmps96, List.size_toArray, List.length_cons, List.length_nil, Nat.reduceAdd, Nat.reduceSub, Array.replicate_succ, Array.replicate_zero, List.push_toArray, List.append_toArray, List.nil_append, List.cons_append]
  have hBc := hB'.c0
  obtain ⟨S, rfl⟩ := Int.eq_ofNat_of_zero_le (show 0 ≤ s by omega)
  gi_wp2
  gi_loopw [5, 6, 8, 9, 10, 14] (fun _ _ _ _ _ i wr => ∃ k1 : Nat, k1 + 1 ≤ S ∧ i = .int .i64 k1 ∧ J (outN S codes gs k1) wr ∧ CK bm W wr) (fun _ _ _ _ _ i _ => S - 1 - (intOf i).toNat)
  case atStart => exact ⟨0, by omega, rfl, h0, CK.refl _ _⟩
  case round =>
    obtain ⟨k1, hk1, rfl, hJ1, hck1⟩ := hrel
    have q0 := (hB'.ck hck1 nb).c0
    have lB := cell_lt q0
    simp only at lB
    have ho1 := outN_len S codes gs (by omega) (by omega) k1
    by_cases hlt1 : k1 + 1 < S
    · have d1 : decide ((k1 : Int) < (S : Int) - 1) = true := by rw [decide_eq_true_eq]; omega
      obtain ⟨wo1, hwo1⟩ : ∃ x : World, x = wr := ⟨_, rfl⟩
      subst hwo1
      gi_wp2
      gi_loopw [6, 8, 9, 10, 19] (fun _ _ _ _ i wr => ∃ k2 : Nat, k2 ≤ S ∧ i = .int .i64 k2 ∧ J (outN S codes gs k1 ++ midN S ((k1 : Int) + 1) codes gs k2) wr ∧ CK bm W wr) (fun _ _ _ _ i _ => S - (intOf i).toNat)
      case atStart => exact ⟨0, by omega, rfl, by simpa [midN] using hJ1, hck1⟩
      case round =>
        obtain ⟨k2, hk2, rfl, hJ2, hck2⟩ := hrel
        have ho2 := midN_len S ((k1 : Int) + 1) codes gs (by omega) (by omega) k2
        by_cases hlt2 : k2 < S
        · obtain ⟨wo2, hwo2⟩ : ∃ x : World, x = wr := ⟨_, rfl⟩
          subst hwo2
          obtain ⟨p0, p1, p2, p3⟩ := hB'.ck hck2 nb
          have pC := hck2.cell _ _ nc hC'
          have pG := hck2.cell _ _ ng hG'
          have lB2 := cell_lt p0
          have lC2 := cell_lt pC
          have lG2 := cell_lt pG
          simp only at lB2 lC2 lG2
          have hL := addsN_len S ((k1 : Int) + 1) k2 codes gs (by omega) (by omega)
          have hLm := addsN_mem S ((k1 : Int) + 1) k2 codes gs (by omega)
          have hadds := adds_any S wo ak ks ck ad ds cd ((k1 : Int) + 1) k2 ac codes cc ag gs cg wo2 (by omega) (by omega) lc lg (by omega) (by omega) (by omega) (by omega) (hc'.ck hck2).to (hg'.ck hck2).to hco hgo
          obtain ⟨L, hLL⟩ : ∃ L, addsN S ((k1 : Int) + 1) k2 codes gs = L := ⟨_, rfl⟩
          rw [hLL] at hL hLm hadds
          gi_wp2_with (refine ⟨trivial, ?_⟩; gi_at_call 97; refine (callsIn_wide.2 hadds).mono ?_; rintro e w3 ⟨aL, cL, rfl, own3, hb3⟩)
          have hJ3 := hJ _ _ _ none hJ2 (grown_of_below hb3 none) (fun r e => by cases e)
          have hck3 := hck2.trans (CK.below hb3)
          have hbm3 : bm < wo2.heap.size := Nat.lt_of_lt_of_le hbm' hck2.size
          have hLN := own3.intsN hbm3
          gi_loopw [8, 9, 10, 31] (fun _ _ _ i wr => ∃ k3 : Nat, k3 ≤ L.length ∧ i = .int .i64 k3 ∧ J (outN S codes gs k1 ++ midN S ((k1 : Int) + 1) codes gs k2 ++ innN S ((k1 : Int) + 1) k2 codes gs (L.take k3)) wr ∧ CK bm w3 wr) (fun _ _ _ i _ => L.length - (intOf i).toNat)
          case atStart => exact ⟨0, Nat.zero_le _, rfl, by simpa [innN] using hJ3, CK.refl _ _⟩
          case round =>
            obtain ⟨k3, hk3, rfl, hJ4, hck4⟩ := hrel
            have hckR := hck3.trans hck4
            have hBR := hB'.ck hckR nb
            have pCR := hckR.cell _ _ nc hC'
            have pGR := hckR.cell _ _ ng hG'
            have lBR := hBR.lt
            have lCR := cell_lt pCR
            have lGR := cell_lt pGR
            simp only at lCR lGR
            by_cases hlt3 : k3 < L.length
            · obtain ⟨b, off, haL, hbn, hbl, hcx⟩ := (hLN.ck hck4) k3 hlt3
              subst haL
              have hxm := hLm L[k3] (List.getElem_mem hlt3)
              have hsn := innN_take S ((k1 : Int) + 1) k2 codes gs L k3 hlt3
              have hcx' : wr.cell? ⟨b, off + k3, none⟩ = some (.int .i64 L[k3]) := by rw [hcx]; simp [hlt3]
              obtain ⟨x, hx⟩ : ∃ x, L[k3] = x := ⟨_, rfl⟩
              rw [hx] at hxm hsn hcx'
              clear hcx hx
              have hb5 : Below wr.heap.size wr (wr.alloc (.cells #[.int .i64 ((k1 : Int) + 1), .int .i64 x, .int .i64 k2] 91)) := (Below.refl _ _).alloc (Nat.le_refl _) _
              have hall := all_guess ag gs cg 98 #[] #[.pointer (some ⟨Bb, 0, none⟩), .pointer (some ⟨wr.heap.size, 0, none⟩), .pointer (some ⟨Bc, 0, none⟩)] (agreeOk S ((k1 : Int) + 1) x k2 codes) (wr.alloc (.cells #[.int .i64 ((k1 : Int) + 1), .int .i64 x, .int .i64 k2] 91))
                (by omega) ((hg'.ck hckR).to.below hb5) (enters Try.func98 (by kernel_rfl) rfl) (fun g hgm => agrees_meets S wo ak ks.length ck ad ds.length cd Bb wr.heap.size Bc ((k1 : Int) + 1) x k2 ac codes cc g _ (hBR.below hb5) (KeyAt.new wr _ _ _ _) (below_cell hb5 pCR) ((hc'.ck hckR).to.below hb5)
                  (by omega) (by omega) lc (by omega) (by omega) (by omega) (by omega) (by omega) (by omega) (List.all_eq_true.1 hgo g hgm))
              cases hag : gs.all (agreeOk S ((k1 : Int) + 1) x k2 codes)
              · rw [hag] at hall hsn
                have Hsn := Lib.hid hsn
                clear hag hsn
                gi_wp2_with (refine ⟨trivial, ?_⟩; gi_at_call 95; refine (callsIn_wide.2 hall).mono ?_; rintro e w6 ⟨rfl, hb6⟩; obtain ⟨y0, y1, y2⟩ := (KeyAt.new wr ((k1 : Int) + 1) x k2 91).below hb6; have ly := cell_lt y0; simp only at ly)
                refine ⟨fun _ h => (by cases h), ?_⟩
                gi_wp2
                have hb56 := hb5.trans (hb6.mono hb5.size)
                have hJ6 := hJ _ _ _ none hJ4 (grown_of_below hb56 none) (fun r e => by cases e)
                go_roundw
                case rel => exact ⟨k3 + 1, by omega, by go_num, by rw [Hsn.out]; simpa using hJ6, hck4.trans (CK.below hb56)⟩
                case measure => simp [intOf]; omega
              · rw [hag] at hall hsn
                have Hsn := Lib.hid hsn
                clear hag hsn
                have hlen3 : (outN S codes gs k1 ++ midN S ((k1 : Int) + 1) codes gs k2 ++ innN S ((k1 : Int) + 1) k2 codes gs (L.take k3)).length < 1000000 := by
                  have h3 := innN_len S ((k1 : Int) + 1) k2 codes gs (L.take k3)
                  rw [List.length_take] at h3
                  rw [List.length_append, List.length_append]
                  omega
                gi_wp2_with (refine ⟨trivial, ?_⟩; gi_at_call 95; refine (callsIn_wide.2 hall).mono ?_; rintro e w6 ⟨rfl, hb6⟩; obtain ⟨y0, y1, y2⟩ := (KeyAt.new wr ((k1 : Int) + 1) x k2 91).below hb6; have ly := cell_lt y0; simp only at ly; obtain ⟨fn, tmps, assign, body, hy, hR⟩ := hY _ ((k1 : Int) + 1, x, (k2 : Int)) w6 (hJ _ _ _ none hJ4 (grown_of_below (hb5.trans (hb6.mono hb5.size)) none) (fun r e => by cases e)) hlen3; dsimp only [encK] at hy)
                refine hR.mono ?_
                rintro e w7 (⟨rfl, hJ7, hk7⟩ | ⟨rfl, hJx7⟩)
                · gi_wp2
                  go_roundw
                  case rel => exact ⟨k3 + 1, by omega, by go_num, by rw [Hsn.out, ← List.append_assoc]; exact hJ7, (hck4.trans (CK.below (hb5.trans (hb6.mono hb5.size)))).trans hk7⟩
                  case measure => simp [intOf]; omega
                · gi_wp2
                  refine bodyPost_ret (results_none rfl _ _ _) rfl ?_
                  exact ⟨⟨_, rfl⟩, .inr ⟨_, trivial, hJx7⟩⟩
            · obtain rfl : k3 = L.length := by omega
              gi_wp2
              go_roundw
              case rel => exact ⟨k2 + 1, by omega, by go_num, by rw [midN_succ, hLL, ← List.append_assoc]; rw [List.take_length] at hJ4; exact hJ4, hckR⟩
              case measure => simp [intOf]; omega
        · obtain rfl : k2 = S := by omega
          gi_wp2
          go_roundw
          case rel => exact ⟨k1 + 1, by omega, by go_num, by rw [outN_succ, Int.toNat_natCast]; exact hJ2, hck2⟩
          case measure => simp [intOf]; omega
    · have hS : k1 = S - 1 := by omega
      gi_wp2
      go_end0
      exact ⟨⟨_, rfl⟩, .inl ⟨_, rfl, by unfold keysN; rw [show ((S : Int) - 1).toNat = k1 by omega]; exact hJ1⟩⟩
end Go.Proofs.Ytmplgcefhpobgaa

namespace Go.Proofs.Ytmplgcefhpobgaa
set_option linter.unusedVariables false
set_option linter.unusedSimpArgs false
set_option linter.unnecessarySimpa false
open Go.RowKit Go.Flow Go.Shelf
attribute [local go_sem] Oper.semAt_some

def fitsErr (s wo : Int) (ks : List K3) (ds : List Int) (codes : List Int) (gs : List (Int × Int)) : Int :=
  if askErr s wo ks ds codes gs ≠ 0 then askErr s wo ks ds codes gs else if (keysN s codes gs).length = 0 then 11 else 0
def fitsN (s wo : Int) (ks : List K3) (ds : List Int) (codes : List Int) (gs : List (Int × Int)) : Int :=
  if askErr s wo ks ds codes gs = 0 then (keysN s codes gs).length else 0

theorem askErr_ok {s wo : Int} {ks : List K3} {ds : List Int} {codes : List Int} {gs : List (Int × Int)} (h : askErr s wo ks ds codes gs = 0) :
    bookErr s wo ks ds = 0 ∧ codes.length ≤ 10 ∧ gs.length ≤ 6 ∧ codes.all (plainOk s) = true ∧ gs.all (guessOk s codes.length) = true := by
  unfold askErr at h
  split at h
  · omega
  · rename_i h1
    split at h
    · omega
    · rename_i h2
      split at h
      · rename_i h3
        exact ⟨by omega, by omega, by omega, h3.1, h3.2⟩
      · omega

theorem keysN_len (s : Int) (codes : List Int) (gs : List (Int × Int)) (h0 : 2 ≤ s) (h1 : s ≤ 41) : (keysN s codes gs).length ≤ 1000000 := by
  have := outN_len s codes gs (by omega) h1 (s - 1).toNat
  unfold keysN
  omega

theorem CK.setCell (bm : Nat) (W : World) (v : Value) : CK bm W (W.setCell ⟨bm, 0, none⟩ v) :=
  ⟨(grownBy_setCell' W bm v).size, fun a u hn hc => by rw [World.cell?_setCell_other _ _ _ _ (fun e => hn (by rw [← e]))]; exact hc⟩

set_option maxHeartbeats 1000000 in
theorem keys_any (s wo : Int) (ak : Option Addr) (ks : List (Int × Int × Int)) (ck : Nat) (ad : Option Addr) (ds : List Int) (cd : Nat) (ac : Option Addr) (nc cc : Nat) (ag : Option Addr) (ng cg : Nat) (w : World) :
    Calls Try.prog 79 #[.agg #[.int .i64 s, .int .i64 wo, .slice ak ks.length ck, .slice ad ds.length cd], .slice ac nc cc, .slice ag ng cg] w fun e w' =>
      e = .returned (.func (.func 96) #[] #[.pointer (some ⟨w.heap.size, 0, none⟩), .pointer (some ⟨w.heap.size + 1, 0, none⟩), .pointer (some ⟨w.heap.size + 1 + 1, 0, none⟩)]) ∧
      w' = ((w.alloc (.cells #[.int .i64 s, .int .i64 wo, .slice ak ks.length ck, .slice ad ds.length cd] 32)).alloc (.cells #[.slice ac nc cc] 23)).alloc (.cells #[.slice ag ng cg] 71) := by
  go_enter Try.func79, Try.ntmps79
  go_wp2
  go_ret
  exact ⟨rfl, rfl⟩

set_option maxRecDepth 100000 in
set_option maxHeartbeats 4000000 in
theorem fits_full (s wo : Int) (ak : Option Addr) (ks : List (Int × Int × Int)) (ck : Nat) (ad : Option Addr) (ds : List Int) (cd : Nat) (ac : Option Addr) (codes : List Int) (cc : Nat) (ag : Option Addr) (gs : List (Int × Int)) (cg : Nat) (w : World) (hk : Recs3At w ak ks) (hd : IntsAt w ad ds) (lk : ks.length ≤ 1000) (ld : ds.length ≤ 1000) (hc : IntsAt w ac codes) (lc : codes.length ≤ 1000) (hg : Recs2At w ag gs) (lg : gs.length ≤ 1000) :
    Calls Try.prog 40 #[.agg #[.int .i64 s, .int .i64 wo, .slice ak ks.length ck, .slice ad ds.length cd], .slice ac codes.length cc, .slice ag gs.length cg] w fun e w' =>
      e = .returned (.tuple #[.int .i64 (fitsN s wo ks ds codes gs), .int .i64 (fitsErr s wo ks ds codes gs)]) ∧ Below w.heap.size w w' := by
  by_cases he : askErr s wo ks ds codes gs = 0
  · obtain ⟨hbk, _, _, hco, hgo⟩ := askErr_ok he
    obtain ⟨_, _, s0, s1, _⟩ := bookErr_ok hbk
    have e1 : fitsN s wo ks ds codes gs = (keysN s codes gs).length := if_pos he
    have e2 : fitsErr s wo ks ds codes gs = if (keysN s codes gs).length = 0 then 11 else 0 := if_neg (by simp [he])
    have hkl := keysN_len s codes gs (by omega) s1
    have E1 := Lib.hid e1
    have E2 := Lib.hid e2
    have He := Lib.hid he
    clear e1 e2 hbk
    refine (callsIn_wide (n := 5)).1 ?_
    refine callsIn_of_wp_marks Try.func40 rfl trivial ?_ rfl
    simp only [Try.ntmps40, List.size_toArray, List.length_cons, List.length_nil, Nat.reduceAdd, Nat.reduceSub, Array.replicate_succ, Array.replicate_zero, List.push_toArray, List.append_toArray, List.nil_append, List.cons_append]
    have hask := fun W (hW : Below w.heap.size w W) => asked_any s wo ak ks ck ad ds cd ac codes cc ag gs cg W (hk.below hW) (hd.below hW) lk ld (hc.below hW) lc (hg.below hW) lg
    gi_wp2_with (first
      | (refine ⟨trivial, ?_⟩; gi_at_call 78; refine (callsIn_wide.2 (hask _ (by (repeat (first | exact Below.refl _ _ | refine Below.alloc ?_ (by first | omega | (simp; done) | (simp; omega)) _ | refine Below.drew ?_ | refine Below.setCell ?_ (by first | omega | (simp; done) | (simp; omega)) _ | refine Below.trans ?_ (Below.mono (by assumption) (by first | omega | (simp; done) | (simp; omega)))))))).mono ?_; rintro e w1 ⟨rfl, hb1⟩; obtain ⟨hc1, hf1, hz1⟩ := bcell hb1; (try simp at hz1); (try (have hy0 : w.heap.size < w1.heap.size := by omega)); (try (have hy1 : w.heap.size + 1 < w1.heap.size := by omega)); (try (have hy2 : w.heap.size + 2 < w1.heap.size := by omega)))
      | (refine ⟨trivial, ?_⟩; gi_at_call 79; refine (callsIn_wide.2 (keys_any s wo ak ks ck ad ds cd ac codes.length cc ag gs.length cg _)).mono ?_; rintro e w2 ⟨rfl, rfl⟩))
    have hw1 : Below w.heap.size w w1 := by (repeat (first | exact Below.refl _ _ | refine Below.alloc ?_ (by first | omega | (simp; done) | (simp; omega)) _ | refine Below.drew ?_ | refine Below.setCell ?_ (by first | omega | (simp; done) | (simp; omega)) _ | refine Below.trans ?_ (Below.mono (by assumption) (by first | omega | (simp; done) | (simp; omega)))))
    have hw1z := hw1.size
    obtain ⟨w2, hw2⟩ : ∃ x : World, x = w1.alloc (.cells #[.int .i64 0] 3) := ⟨_, rfl⟩
    have z2 : w2.heap.size = w1.heap.size + 1 := by rw [hw2]; simp
    have b2 : Below w1.heap.size w1 w2 := by rw [hw2]; exact (Below.refl _ _).alloc (Nat.le_refl _) _
    have x2 : Boxed w2 w1.heap.size 3 (.int .i64 0) := by rw [hw2]; exact Boxed.new _ _ _
    rw [← hw2]
    obtain ⟨w3, hw3⟩ : ∃ x : World, x = w2.alloc (.cells #[.int .i64 s, .int .i64 wo, .slice ak ks.length ck, .slice ad ds.length cd] 32) := ⟨_, rfl⟩
    have z3 : w3.heap.size = w1.heap.size + 1 + 1 := by rw [hw3]; simp [z2]
    have b3 : Below w2.heap.size w2 w3 := by rw [hw3]; exact (Below.refl _ _).alloc (Nat.le_refl _) _
    have x3 : Boxed w3 w1.heap.size 3 (.int .i64 0) := by rw [hw3]; exact x2.alloc _
    have q3 : BookAt w3 (w1.heap.size + 1) s wo ak ks.length ck ad ds.length cd := by rw [hw3, ← z2]; exact BookAt.new _ _ _ _ _ _ _ _ _ _
    rw [← hw3]
    obtain ⟨w4, hw4⟩ : ∃ x : World, x = w3.alloc (.cells #[.slice ac codes.length cc] 23) := ⟨_, rfl⟩
    have z4 : w4.heap.size = w1.heap.size + 1 + 1 + 1 := by rw [hw4]; simp [z3]
    have b4 : Below w3.heap.size w3 w4 := by rw [hw4]; exact (Below.refl _ _).alloc (Nat.le_refl _) _
    have x4 : Boxed w4 w1.heap.size 3 (.int .i64 0) := by rw [hw4]; exact x3.alloc _
    have q4 : w4.cell? ⟨w1.heap.size + 1 + 1, 0, none⟩ = some (.slice ac codes.length cc) := by rw [hw4, ← z3]; exact cell_new _ _ _ 0 _ rfl
    rw [← hw4]
    obtain ⟨w5, hw5⟩ : ∃ x : World, x = w4.alloc (.cells #[.slice ag gs.length cg] 71) := ⟨_, rfl⟩
    have z5 : w5.heap.size = w1.heap.size + 1 + 1 + 1 + 1 := by rw [hw5]; simp [z4]
    have b5 : Below w4.heap.size w4 w5 := by rw [hw5]; exact (Below.refl _ _).alloc (Nat.le_refl _) _
    have x5 : Boxed w5 w1.heap.size 3 (.int .i64 0) := by rw [hw5]; exact x4.alloc _
    have q5 : w5.cell? ⟨w1.heap.size + 1 + 1 + 1, 0, none⟩ = some (.slice ag gs.length cg) := by rw [hw5, ← z4]; exact cell_new _ _ _ 0 _ rfl
    rw [← hw5]
    clear hw2 hw3 hw4 hw5
    have b15 : Below w1.heap.size w1 w5 := b2.trans ((b3.trans ((b4.trans (b5.mono b4.size)).mono b3.size)).mono b2.size)
    have hW5 : Below w.heap.size w w5 := hw1.trans (b15.mono hw1z)
    have hstops := keys1_stops 4 (by omega) w1.heap.size (w1.heap.size + 1) (w1.heap.size + 1 + 1) (w1.heap.size + 1 + 1 + 1) s wo ak ks ck ad ds cd ac codes cc ag gs cg w5
      ((q3.below b4).below b5) (below_cell b5 q4) q5 (by omega) (by omega) (by omega) (by omega) ((hc.below hw1).toN b15 (Nat.le_refl _)) ((hg.below hw1).toN b15 (Nat.le_refl _)) (by omega) s1 lc lg hco hgo
    refine wpIn_rangeFunc_ownG rfl (by omega) (gf := 96) (lb := #[.pointer (some ⟨w1.heap.size + 1, 0, none⟩), .pointer (some ⟨w1.heap.size + 1 + 1, 0, none⟩), .pointer (some ⟨w1.heap.size + 1 + 1 + 1, 0, none⟩)]) rfl trivial (enters_of Try.func96 (by kernel_rfl) rfl)
      hstops CK.trans (fun W l o o' _ h ho _ => CK.putObj W l o o' h ho) (Below.refl _ _) (fun _ => rfl)
      (fun pre W => Boxed W w1.heap.size 3 (.int .i64 pre.length) ∧ Below w.heap.size w W)
      (fun _ _ _ => False)
      (OwnFrom.and (Own.from (boxed_own w1.heap.size 3 (fun pre : List K3 => .int .i64 pre.length)) _) (ownFrom_below (Nat.le_refl _) (by omega)))
      (fun _ _ _ _ _ hs _ _ => hs)
      ⟨x5, hW5⟩
      (fun x => { tmps := #[.agg #[.int .i64 s, .int .i64 wo, .slice ak ks.length ck, .slice ad ds.length cd], .slice ac codes.length cc, .slice ag gs.length cg, .pointer (some ⟨w.heap.size, 0, none⟩), undef, undef, .int .i64 0, .int .i64 0, .int .i64 0, .pointer (some ⟨w1.heap.size, 0, none⟩),
        .agg #[.int .i64 s, .int .i64 wo, .slice ak ks.length ck, .slice ad ds.length cd], .slice ac codes.length cc, .slice ag gs.length cg, .int .i64 0, .int .i64 0, .bool false, undef,
        .agg #[.int .i64 s, .int .i64 wo, .slice ak ks.length ck, .slice ad ds.length cd], .slice ac codes.length cc, .slice ag gs.length cg,
        .func (.func 96) #[] #[.pointer (some ⟨w1.heap.size + 1, 0, none⟩), .pointer (some ⟨w1.heap.size + 1 + 1, 0, none⟩), .pointer (some ⟨w1.heap.size + 1 + 1 + 1, 0, none⟩)],
        .agg #[.int .i64 x.1, .int .i64 x.2.1, .int .i64 x.2.2], undef, undef, undef, undef, undef], defers := [] }) ?assign ?body ?done ?stop
    case assign =>
      intro l x W K hK
      unfold encK
      gi_wp2
      simp
      exact hK
    case body =>
      rintro l pre x W ⟨hbx, hBW⟩ hlt
      have hcx := hbx.cell
      have hfx := hbx.frozen
      have hlx := hbx.lt
      gi_wp2
      exact ⟨(KeepsOthers.setCell _ _ _).from _, CK.setCell _ _ _, by rw [List.length_append]; exact hbx.set _, hBW.setCell (p := ⟨w1.heap.size, 0, none⟩) hw1z _⟩
    case done =>
      rintro D ys W hD rfl ⟨hbx, hBW⟩ hK
      have hcx := hbx.cell
      by_cases h0 : (keysN s codes gs).length = 0
      · rw [h0] at hcx
        have H0 := Lib.hid h0
        clear h0 hkl
        gi_wp2
        refine ⟨by simp, .inl ⟨_, _, rfl, run_takeDeferred hK, ?_⟩⟩
        refine ⟨_, results_tmp2 rfl _ _ _, ?_, hBW.trans (belowK_b (w := w) (Nat.le_refl _) W D _ _ (by omega) hK rfl rfl)⟩
        rw [E1.out, E2.out, H0.out]
        rfl
      · obtain ⟨N, hN⟩ : ∃ N, (keysN s codes gs).length = N := ⟨_, rfl⟩
        rw [hN] at hcx hkl h0
        have H0 := Lib.hid hN
        have hne : ((N : Int) == 0) = false := by simp; omega
        clear hN
        gi_wp2
        refine ⟨by simp, .inl ⟨_, _, rfl, run_takeDeferred hK, ?_⟩⟩
        refine ⟨_, results_tmp2 rfl _ _ _, ?_, hBW.trans (belowK_b (w := w) (Nat.le_refl _) W D _ _ (by omega) hK rfl rfl)⟩
        rw [E1.out, E2.out, H0.out, if_neg h0]
        rfl
    case stop =>
      rintro D c pre W _ _ h _
      exact h.elim
  · have e1 : fitsErr s wo ks ds codes gs = askErr s wo ks ds codes gs := if_pos he
    have e2 : fitsN s wo ks ds codes gs = 0 := if_neg he
    rw [e1, e2]
    have hne : (askErr s wo ks ds codes gs != 0) = true := by simpa using he
    clear he e1 e2
    go_enter Try.func40, Try.ntmps40
    go_wp2_with (go_at_call 78; refine (asked_any s wo ak ks ck ad ds cd ac codes cc ag gs cg _ (hk.below (by (repeat (first | exact Below.refl _ _ | refine Below.alloc ?_ (by first | omega | (simp; done) | (simp; omega)) _ | refine Below.drew ?_ | refine Below.setCell ?_ (by first | omega | (simp; done) | (simp; omega)) _ | refine Below.trans ?_ (Below.mono (by assumption) (by first | omega | (simp; done) | (simp; omega))))))) (hd.below (by (repeat (first | exact Below.refl _ _ | refine Below.alloc ?_ (by first | omega | (simp; done) | (simp; omega)) _ | refine Below.drew ?_ | refine Below.setCell ?_ (by first | omega | (simp; done) | (simp; omega)) _ | refine Below.trans ?_ (Below.mono (by assumption) (by first | omega | (simp; done) | (simp; omega))))))) lk ld (hc.below (by (repeat (first | exact Below.refl _ _ | refine Below.alloc ?_ (by first | omega | (simp; done) | (simp; omega)) _ | refine Below.drew ?_ | refine Below.setCell ?_ (by first | omega | (simp; done) | (simp; omega)) _ | refine Below.trans ?_ (Below.mono (by assumption) (by first | omega | (simp; done) | (simp; omega))))))) lc (hg.below (by (repeat (first | exact Below.refl _ _ | refine Below.alloc ?_ (by first | omega | (simp; done) | (simp; omega)) _ | refine Below.drew ?_ | refine Below.setCell ?_ (by first | omega | (simp; done) | (simp; omega)) _ | refine Below.trans ?_ (Below.mono (by assumption) (by first | omega | (simp; done) | (simp; omega))))))) lg).mono ?_; rintro e w1 ⟨rfl, hb1⟩; obtain ⟨hc1, hf1, hz1⟩ := bcell hb1; (try simp at hz1); (try (have hy0 : w.heap.size < w1.heap.size := by omega)); (try (have hy1 : w.heap.size + 1 < w1.heap.size := by omega)); (try (have hy2 : w.heap.size + 2 < w1.heap.size := by omega)))
    go_ret2
    exact ⟨rfl, by (repeat (first | exact Below.refl _ _ | refine Below.alloc ?_ (by first | omega | (simp; done) | (simp; omega)) _ | refine Below.drew ?_ | refine Below.setCell ?_ (by first | omega | (simp; done) | (simp; omega)) _ | refine Below.trans ?_ (Below.mono (by assumption) (by first | omega | (simp; done) | (simp; omega)))))⟩
end Go.Proofs.Ytmplgcefhpobgaa
