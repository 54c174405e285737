/- cipher: extend (Plan$1) -/
import Derived.Test.YtmplgcefhpobgaaCq
import Derived.Outline
namespace Go.Proofs.Ytmplgcefhpobgaa
set_option linter.unusedVariables false
set_option linter.unusedSimpArgs false
set_option linter.unnecessarySimpa false
open Go.RowKit Go.Flow

/-- What extend's captured variables hold: all of them below B. -/
structure ExtAt (w : World) (B b0 bm bb bw bf bd : Nat) (ak : Option Addr) (nk ck : Nat) (ad : Option Addr) (nd cd : Nat) : Prop where
  k2 : w.cell? ⟨bb, 2, none⟩ = some (.slice ak nk ck)
  k3 : w.cell? ⟨bb, 3, none⟩ = some (.slice ad nd cd)
  kw : w.cell? ⟨bw, 0, none⟩ = some (.pointer (some ⟨b0, 0, none⟩))
  kf : w.cell? ⟨bf, 0, none⟩ = some (.func (.func 76) #[] #[.pointer (some ⟨bb, 0, none⟩), .pointer (some ⟨bw, 0, none⟩), .pointer (some ⟨bd, 0, none⟩), .pointer (some ⟨bf, 0, none⟩)])
  lb : bb < B
  lw : bw < B
  lf : bf < B
  ld : bd < B
  l0 : b0 < B
  lm : bm < B
  nb : bb ≠ bd
  nw : bw ≠ bd
  nf : bf ≠ bd
  n0 : b0 ≠ bd
  size : B ≤ w.heap.size
theorem ExtAt.keep {w w' : World} {B b0 bm bb bw bf bd : Nat} {ak : Option Addr} {nk ck : Nat} {ad : Option Addr} {nd cd : Nat} (h : ExtAt w B b0 bm bb bw bf bd ak nk ck ad nd cd) (k : Keep bm w w') : ExtAt w' B b0 bm bb bw bf bd ak nk ck ad nd cd :=
  ⟨k.cell h.k2, k.cell h.k3, k.cell h.kw, k.cell h.kf, h.lb, h.lw, h.lf, h.ld, h.l0, h.lm, h.nb, h.nw, h.nf, h.n0, Nat.le_trans h.size k.size⟩

theorem Keep.frozen {bm : Nat} {w w' : World} (h : Keep bm w w') {p : Addr} {v : Value} (hc : w.cell? p = some v) : w'.frozen? p = w.frozen? p :=
  World.frozen?_of_block (h.grown.block p.block (cell_lt hc) (fun e => h.old.ne hc (Option.some.inj e)))
theorem below_frozen {w w' : World} (hb : Below w.heap.size w w') {p : Addr} {v : Value} (hc : w.cell? p = some v) : w'.frozen? p = w.frozen? p := hb.frozen (cell_lt hc)
theorem grown_frozen {E : TypeId} {size base : Nat} {W w' : World} {a0 : Option Addr} {c0 n : Nat} {xs : List Value} {o : Obj} (hown : OwnL E size base W a0 c0 n xs) (hg : (W.alloc o).grownBy w' (Value.slice a0 n c0).ownBlock) {p : Addr} {v : Value}
    (hne : ∀ g, a0 = some ⟨g, 0, none⟩ → p.block ≠ g) (hc : W.cell? p = some v) : w'.frozen? p = W.frozen? p := by
  have hb := (Below.refl W.heap.size W).alloc (Nat.le_refl _) o
  refine (World.frozen?_of_block (hg.block p.block (cell_lt (below_cell hb hc)) ?_)).trans (below_frozen hb hc)
  rcases hown.form with ⟨rfl, _⟩ | ⟨g, rfl, _⟩
  · simp [Value.ownBlock]
  · simp [Value.ownBlock]
    exact hne g rfl

set_option maxRecDepth 100000 in
set_option maxHeartbeats 1000000 in
theorem extend_any (w0 : World) (B b0 bm bb bw bf bd : Nat) (ak : Option Addr) (nk ck : Nat) (ad : Option Addr) (nd cd : Nat) (al : Option Addr) (lost : List (Int × Int)) (cl : Nat) (m : Int) (hnk : nk ≤ 5) (hnd : nd ≤ 100) (ll : lost.length ≤ 1000)
    (hB0 : w0.heap.size ≤ bm) (hB1 : w0.heap.size ≤ bd) (hB2 : w0.heap.size ≤ B) (hmd : bm ≠ bd) (hl0 : Recs2At w0 al lost) :
    ∀ (r : Nat) (s : Spot) (left : Int) (pre : List Int) (a0 : Option Addr) (c0 n : Nat) (w : World), Below w0.heap.size w0 w → s.day + r = nd → s.Ok nd → 0 ≤ left → left ≤ 2000000 → pre.length + r ≤ 1000 → WorkAt w b0 bm ak nk ck ad nd cd al lost cl m →
      ExtAt w B b0 bm bb bw bf bd ak nk ck ad nd cd → w.cell? ⟨bd, 0, none⟩ = some (.slice a0 pre.length c0) → w.frozen? ⟨bd, 0, none⟩ = false → OwnL 3 1 B w a0 c0 pre.length (pre.map (Value.int .i64)) →
      MemoAt w bm n (fun s => fewR (fun k => hadN lost k) m nk (nd - s.day).toNat s) → n + cost (r + 1) < maxLen →
    Calls Try.prog 76 #[s.val, .int .i64 left, .pointer (some ⟨bb, 0, none⟩), .pointer (some ⟨bw, 0, none⟩), .pointer (some ⟨bd, 0, none⟩), .pointer (some ⟨bf, 0, none⟩)] w
      fun e w' => e = .returned (.tuple #[]) ∧ Below w0.heap.size w w' ∧ w'.frozen? ⟨bd, 0, none⟩ = false ∧ ∃ a' c', w'.cell? ⟨bd, 0, none⟩ = some (.slice a' (pre ++ planR (fun k => hadN lost k) m nk r s left).length c') ∧
        OwnL 3 1 B w' a' c' (pre ++ planR (fun k => hadN lost k) m nk r s left).length ((pre ++ planR (fun k => hadN lost k) m nk r s left).map (Value.int .i64)) := by
  generalize hG : (fun s : Spot => fewR (fun k => hadN lost k) m nk (nd - s.day).toNat s) = G
  intro r
  induction r with
  | zero =>
    rintro ⟨d, la, u0, u1, u2, u3, u4⟩ left pre a0 c0 n w hw0 hday hs hf0 hf1 hlen hw hx hcd hfz hown hm hn
    simp only at hday
    have hd : d = nd := by omega
    have hfine := hs.fine (by omega)
    have h2 := hx.k2
    have lbw : bb < w.heap.size := Nat.lt_of_lt_of_le hx.lb hx.size
    show Calls Try.prog 76 #[.agg #[.int .i64 d, .int .i64 la, .int .i64 u0, .int .i64 u1, .int .i64 u2, .int .i64 u3, .int .i64 u4], .int .i64 left, .pointer (some ⟨bb, 0, none⟩), .pointer (some ⟨bw, 0, none⟩), .pointer (some ⟨bd, 0, none⟩), .pointer (some ⟨bf, 0, none⟩)] w _
    obtain ⟨F, hF⟩ : ∃ F : Nat → Int, (fun k : Nat => hadN lost k) = F := ⟨_, rfl⟩
    rw [hF]
    have hFk : ∀ k : Nat, hadN lost k = F k := fun k => by rw [← hF]
    simp only [planR, List.append_nil]
    subst hd
    go_enter Try.func76, Try.ntmps76
    go_wp2
    obtain ⟨q0, q1, q2, q3, q4, q5, q6⟩ := box_spot (w := w) (T := 121) (Below.refl (w.heap.size + 1) (w.alloc (.cells #[.int .i64 nd, .int .i64 la, .int .i64 u0, .int .i64 u1, .int .i64 u2, .int .i64 u3, .int .i64 u4] 121)))
    obtain ⟨wS, hwS⟩ : ∃ x : World, x = w.alloc (.cells #[.int .i64 nd, .int .i64 la, .int .i64 u0, .int .i64 u1, .int .i64 u2, .int .i64 u3, .int .i64 u4] 121) := ⟨_, rfl⟩
    have hbS : Below w.heap.size w wS := by rw [hwS]; exact (Below.refl _ w).alloc (Nat.le_refl _) _
    have hzS : wS.heap.size = w.heap.size + 1 := by rw [hwS]; simp
    rw [← hwS] at q0 q1 q2 q3 q4 q5 q6 ⊢
    clear hwS h2
    have hkS := hw.below hbS
    have hxS := hx.keep (Keep.of_below hm.isMap hbS)
    have hcS := below_cell hbS hcd
    have hoS := hown.kept hbS
    have hiS := hm.isMap.below hbS
    go_loopw [8, 9, 10, 11, 15] (fun _ _ _ _ i wr => ∃ j : Nat, j ≤ nk ∧ i = .int .i64 j ∧ Below wS.heap.size wS wr)
      (fun _ _ _ _ i _ => nk - (intOf i).toNat)
    case atStart => exact ⟨0, Nat.zero_le _, rfl, Below.refl _ _⟩
    case round =>
      obtain ⟨j, hj, rfl, hbr⟩ := hrel
      have hkR := hkS.below hbr
      have hxR := hxS.keep (Keep.of_below hiS hbr)
      have p0 := below_cell hbr q0
      have p1 := below_cell hbr q1
      have p2 := below_cell hbr q2
      have p3 := below_cell hbr q3
      have p4 := below_cell hbr q4
      have p5 := below_cell hbr q5
      have p6 := below_cell hbr q6
      have hkz := hbr.size
      have g3 := hxR.k3
      have gw := hxR.kw
      have hzR : w.heap.size < wr.heap.size := by omega
      have hbR : bb < wr.heap.size := cell_lt g3
      have hwR : bw < wr.heap.size := cell_lt gw
      have h0R : b0 < wr.heap.size := hkR.lt
      by_cases hlt : j < nk
      · cases hB : mayB (F j) m ⟨nd, la, u0, u1, u2, u3, u4⟩ j
        · have hres : mayRes (F j) m ⟨nd, la, u0, u1, u2, u3, u4⟩ j = .tuple #[.agg #[.int .i64 nd, .int .i64 la, .int .i64 u0, .int .i64 u1, .int .i64 u2, .int .i64 u3, .int .i64 u4], .int .i64 0, .bool false] := by
            unfold mayRes; rw [hB]; rfl
          clear hB
          go_wp2_with (go_at_call 77; refine (may_any b0 al lost cl m ⟨nd, la, u0, u1, u2, u3, u4⟩ j (by omega) _ (by omega) hkR.c4 hkR.c5 hkR.hl ll hfine).mono ?_; rw [hFk, hres]; rintro e w1 ⟨rfl, hb1⟩; have hb1z := hb1.size)
          have hB1 : Below wr.heap.size wr (w1.alloc (.cells #[.int .i64 nd, .int .i64 la, .int .i64 u0, .int .i64 u1, .int .i64 u2, .int .i64 u3, .int .i64 u4] 121)) := hb1.alloc hb1.size _
          go_roundw
          case rel => exact ⟨j + 1, by omega, by go_num, hbr.trans (hB1.mono hbr.size)⟩
          case measure => simp [intOf]; omega
        · have hres : mayRes (F j) m ⟨nd, la, u0, u1, u2, u3, u4⟩ j = .tuple #[(Spot.bump ⟨nd, la, u0, u1, u2, u3, u4⟩ j).val, .int .i64 (mayC ⟨nd, la, u0, u1, u2, u3, u4⟩ j), .bool true] := by
            unfold mayRes; rw [hB]; rfl
          obtain ⟨cc, hcc⟩ : ∃ cc, mayC ⟨nd, la, u0, u1, u2, u3, u4⟩ j = cc := ⟨_, rfl⟩
          obtain ⟨s', hs'⟩ : ∃ s', Spot.bump ⟨nd, la, u0, u1, u2, u3, u4⟩ j = s' := ⟨_, rfl⟩
          rw [hs', hcc] at hres
          obtain ⟨d', la', v0, v1, v2, v3, v4⟩ := s'
          simp only [Spot.val] at hres
          clear hB hs' hcc
          go_wp2_with (go_at_call 77; refine (may_any b0 al lost cl m ⟨nd, la, u0, u1, u2, u3, u4⟩ j (by omega) _ (by omega) hkR.c4 hkR.c5 hkR.hl ll hfine).mono ?_; rw [hFk, hres]; rintro e w1 ⟨rfl, hb1⟩; have hb1z := hb1.size; have gb1 := below_cell hb1 g3; have hbb1 : bb < w1.heap.size := cell_lt gb1; have p01 := below_cell hb1 p0; have hsz1 : w.heap.size < w1.heap.size := cell_lt p01)
          have hB1 : Below wr.heap.size wr (w1.alloc (.cells #[.int .i64 d', .int .i64 la', .int .i64 v0, .int .i64 v1, .int .i64 v2, .int .i64 v3, .int .i64 v4] 121)) := hb1.alloc hb1.size _
          go_roundw
          case rel => exact ⟨j + 1, by omega, by go_num, hbr.trans (hB1.mono hbr.size)⟩
          case measure => simp [intOf]; omega
      · obtain rfl : nk = j := by omega
        go_wp2
        (try simp only [Exit.inBlock, Exit.then])
        refine bodyPost_end (results_none rfl _ _ _) rfl ?_
        exact ⟨rfl, (hbS.trans (hbr.mono hbS.size)).mono hw0.size, by rw [below_frozen hbr hcS, below_frozen hbS hcd]; exact hfz, a0, c0, below_cell hbr hcS, hoS.kept hbr⟩
  | succ r ih =>
    rintro ⟨d, la, u0, u1, u2, u3, u4⟩ left pre a0 c0 n w hw0 hday hs hf0 hf1 hlen hw hx hcd hfz hown hm hn
    simp only at hday
    have hdl : d < nd := by omega
    have hd0 := hs.d0
    simp only at hd0
    have t1 : decide (d < (nd : Int)) = true := by simpa using hdl
    have hfine := hs.fine (by omega)
    have h2 := hx.k2
    have lbw : bb < w.heap.size := Nat.lt_of_lt_of_le hx.lb hx.size
    show Calls Try.prog 76 #[.agg #[.int .i64 d, .int .i64 la, .int .i64 u0, .int .i64 u1, .int .i64 u2, .int .i64 u3, .int .i64 u4], .int .i64 left, .pointer (some ⟨bb, 0, none⟩), .pointer (some ⟨bw, 0, none⟩), .pointer (some ⟨bd, 0, none⟩), .pointer (some ⟨bf, 0, none⟩)] w _
    obtain ⟨F, hF⟩ : ∃ F : Nat → Int, (fun k : Nat => hadN lost k) = F := ⟨_, rfl⟩
    rw [hF] at ih ⊢
    have hFk : ∀ k : Nat, hadN lost k = F k := fun k => by rw [← hF]
    go_enter Try.func76, Try.ntmps76
    go_wp2
    obtain ⟨q0, q1, q2, q3, q4, q5, q6⟩ := box_spot (w := w) (T := 121) (Below.refl (w.heap.size + 1) (w.alloc (.cells #[.int .i64 d, .int .i64 la, .int .i64 u0, .int .i64 u1, .int .i64 u2, .int .i64 u3, .int .i64 u4] 121)))
    obtain ⟨wS, hwS⟩ : ∃ x : World, x = w.alloc (.cells #[.int .i64 d, .int .i64 la, .int .i64 u0, .int .i64 u1, .int .i64 u2, .int .i64 u3, .int .i64 u4] 121) := ⟨_, rfl⟩
    have hbS : Below w.heap.size w wS := by rw [hwS]; exact (Below.refl _ w).alloc (Nat.le_refl _) _
    have hzS : wS.heap.size = w.heap.size + 1 := by rw [hwS]; simp
    rw [← hwS] at q0 q1 q2 q3 q4 q5 q6 ⊢
    clear hwS h2
    have hmS := hm.below hbS
    have hkS := hw.below hbS
    have hxS := hx.keep (Keep.of_below hm.isMap hbS)
    have hcS := below_cell hbS hcd
    have hoS := hown.kept hbS
    go_loopw [8, 9, 10, 11, 15] (fun _ _ _ _ i wr => ∃ j : Nat, j ≤ nk ∧ i = .int .i64 j ∧ (∀ k, k < j → planPick F m nk r ⟨d, la, u0, u1, u2, u3, u4⟩ left k = false) ∧ Keep bm wS wr ∧ MemoAt wr bm (n + j * cost r) G)
      (fun _ _ _ _ i _ => nk - (intOf i).toNat)
    case atStart => exact ⟨0, Nat.zero_le _, rfl, fun k hk => absurd hk (Nat.not_lt_zero k), Keep.refl hmS.isMap, by simpa using hmS⟩
    case round =>
      obtain ⟨j, hj, rfl, hno, hkp, hmr⟩ := hrel
      have hkR := hkS.keep hkp
      have hxR := hxS.keep hkp
      have hcR := hkp.cell hcS
      have hoR := hoS.keep hkp
      have p0 := hkp.cell q0
      have p1 := hkp.cell q1
      have p2 := hkp.cell q2
      have p3 := hkp.cell q3
      have p4 := hkp.cell q4
      have p5 := hkp.cell q5
      have p6 := hkp.cell q6
      have hkz := hkp.size
      have g3 := hxR.k3
      have gw := hxR.kw
      have hzR : w.heap.size < wr.heap.size := by omega
      have hbR : bb < wr.heap.size := cell_lt g3
      have hwR : bw < wr.heap.size := cell_lt gw
      have h0R : b0 < wr.heap.size := hkR.lt
      by_cases hlt : j < nk
      · cases hB : mayB (F j) m ⟨d, la, u0, u1, u2, u3, u4⟩ j
        · have hp : planPick F m nk r ⟨d, la, u0, u1, u2, u3, u4⟩ left j = false := by simp [planPick, hB]
          have hno2 : ∀ k, k < j + 1 → planPick F m nk r ⟨d, la, u0, u1, u2, u3, u4⟩ left k = false := fun k hk => by
            by_cases e : k = j
            · rw [e]; exact hp
            · exact hno k (by omega)
          have hres : mayRes (F j) m ⟨d, la, u0, u1, u2, u3, u4⟩ j = .tuple #[.agg #[.int .i64 d, .int .i64 la, .int .i64 u0, .int .i64 u1, .int .i64 u2, .int .i64 u3, .int .i64 u4], .int .i64 0, .bool false] := by
            unfold mayRes; rw [hB]; rfl
          clear hp hB hno
          go_wp2_with (go_at_call 77; refine (may_any b0 al lost cl m ⟨d, la, u0, u1, u2, u3, u4⟩ j (by omega) _ (by omega) hkR.c4 hkR.c5 hkR.hl ll hfine).mono ?_; rw [hFk, hres]; rintro e w1 ⟨rfl, hb1⟩; have hb1z := hb1.size)
          have hB1 : Below wr.heap.size wr (w1.alloc (.cells #[.int .i64 d, .int .i64 la, .int .i64 u0, .int .i64 u1, .int .i64 u2, .int .i64 u3, .int .i64 u4] 121)) := hb1.alloc hb1.size _
          go_roundw
          case rel => exact ⟨j + 1, by omega, by go_num, hno2, hkp.below hB1, (hmr.below hB1).mono (Nat.add_le_add_left (Nat.mul_le_mul_right _ (Nat.le_succ j)) n)⟩
          case measure => simp [intOf]; omega
        · have hok := hs.bump (by simp only; omega) j
          have hdy := bump_day ⟨d, la, u0, u1, u2, u3, u4⟩ j
          have hgb := fewR_b F m nk r (Spot.bump ⟨d, la, u0, u1, u2, u3, u4⟩ j)
          have hcb := mayC_b ⟨d, la, u0, u1, u2, u3, u4⟩ j
          have hpk : planPick F m nk r ⟨d, la, u0, u1, u2, u3, u4⟩ left j = (mayC ⟨d, la, u0, u1, u2, u3, u4⟩ j + fewR F m nk r (Spot.bump ⟨d, la, u0, u1, u2, u3, u4⟩ j) == left) := by simp [planPick, hB]
          have hres : mayRes (F j) m ⟨d, la, u0, u1, u2, u3, u4⟩ j = .tuple #[(Spot.bump ⟨d, la, u0, u1, u2, u3, u4⟩ j).val, .int .i64 (mayC ⟨d, la, u0, u1, u2, u3, u4⟩ j), .bool true] := by
            unfold mayRes; rw [hB]; rfl
          obtain ⟨cc, hcc⟩ : ∃ cc, mayC ⟨d, la, u0, u1, u2, u3, u4⟩ j = cc := ⟨_, rfl⟩
          obtain ⟨s', hs'⟩ : ∃ s', Spot.bump ⟨d, la, u0, u1, u2, u3, u4⟩ j = s' := ⟨_, rfl⟩
          obtain ⟨gg, hgg⟩ : ∃ gg, fewR F m nk r s' = gg := ⟨_, rfl⟩
          rw [hs'] at hok hdy hgb hres hpk
          rw [hcc] at hcb hres hpk
          rw [hgg] at hgb hpk
          obtain ⟨d', la', v0, v1, v2, v3, v4⟩ := s'
          simp only at hdy
          subst hdy
          simp only [Spot.val] at hres
          have x0 : IntKind.i64.wrap (cc + gg) = cc + gg := IntWalk.i64_in _ (by omega)
          have hcost : n + j * cost r + cost r < maxLen := by
            have h5 : (j + 1) * cost r ≤ 5 * cost r := Nat.mul_le_mul_right _ (by omega)
            rw [Nat.succ_mul] at h5
            simp only [cost] at hn
            omega
          have hih : ∀ W, Below wr.heap.size wr W → Calls Try.prog 75 #[Value.pointer (some ⟨b0, 0, none⟩), .agg #[.int .i64 (d + 1), .int .i64 la', .int .i64 v0, .int .i64 v1, .int .i64 v2, .int .i64 v3, .int .i64 v4]] W
              fun e w' => e = .returned (.int .i64 gg) ∧ Keep bm W w' ∧ MemoAt w' bm (n + j * cost r + cost r) G := fun W hW => by
            have h9 := fewest_any b0 bm ak nk ck ad nd cd al lost cl m hnk hnd ll r ⟨d + 1, la', v0, v1, v2, v3, v4⟩ (n + j * cost r) W (by simp only; omega) hok (hkR.below hW) (by rw [hG]; exact hmr.below hW) hcost
            rw [hG, hF, hgg] at h9
            exact h9
          cases hT : (cc + gg == left)
          · have hno2 : ∀ k, k < j + 1 → planPick F m nk r ⟨d, la, u0, u1, u2, u3, u4⟩ left k = false := fun k hk => by
              by_cases e : k = j
              · rw [e, hpk]; exact hT
              · exact hno k (by omega)
            clear hB hs' hcc hgg hno ih hpk
            go_wp2_with (first
              | (go_at_call 77; refine (may_any b0 al lost cl m ⟨d, la, u0, u1, u2, u3, u4⟩ j (by omega) _ (by omega) hkR.c4 hkR.c5 hkR.hl ll hfine).mono ?_; rw [hFk, hres]; rintro e w1 ⟨rfl, hb1⟩; have hb1z := hb1.size; have gw1 := below_cell hb1 gw; have hbw1 : bw < w1.heap.size := cell_lt gw1; have gb1 := below_cell hb1 g3; have hbb1 : bb < w1.heap.size := cell_lt gb1; have p01 := below_cell hb1 p0; have hsz1 : w.heap.size < w1.heap.size := cell_lt p01)
              | (go_at_call 75; refine (hih _ (hb1.alloc hb1.size _)).mono ?_; rintro e w3 ⟨rfl, hk3, hm3⟩))
            have hB1 : Below wr.heap.size wr (w1.alloc (.cells #[.int .i64 (d + 1), .int .i64 la', .int .i64 v0, .int .i64 v1, .int .i64 v2, .int .i64 v3, .int .i64 v4] 121)) := hb1.alloc hb1.size _
            go_roundw
            case rel => exact ⟨j + 1, by omega, by go_num, hno2, (hkp.below hB1).trans hk3, hm3.mono (by rw [Nat.succ_mul]; omega)⟩
            case measure => simp [intOf]; omega
          · have hfp : (List.range nk).find? (planPick F m nk r ⟨d, la, u0, u1, u2, u3, u4⟩ left) = some j := find_first hlt hno (by rw [hpk]; exact hT)
            have hpl : planR F m nk (r + 1) ⟨d, la, u0, u1, u2, u3, u4⟩ left = (j : Int) :: planR F m nk r ⟨d + 1, la', v0, v1, v2, v3, v4⟩ (left - cc) := by
              simp only [planR, hfp]
              rw [hs', hcc]
            have hlft : cc + gg = left := by simpa using hT
            have x1 : IntKind.i64.wrap (left - cc) = left - cc := IntWalk.i64_in _ (by omega)
            have hrow : ∀ g, a0 = some ⟨g, 0, none⟩ → B ≤ g ∧ g < w.heap.size := fun g hg => by
              rcases hown.form with ⟨h1, _⟩ | ⟨g', h1, h3, h4, _⟩
              · rw [h1] at hg; cases hg
              · rw [h1] at hg; simp at hg; omega
            have Hpl := Lib.hid hpl
            have hlc : 0 ≤ left - cc ∧ left - cc ≤ 2000000 := by omega
            clear hB hs' hcc hgg hno hpk hfp hlft hpl
            go_wp2_with (first
              | (go_at_call 77; refine (may_any b0 al lost cl m ⟨d, la, u0, u1, u2, u3, u4⟩ j (by omega) _ (by omega) hkR.c4 hkR.c5 hkR.hl ll hfine).mono ?_; rw [hFk, hres]; rintro e w1 ⟨rfl, hb1⟩; have hb1z := hb1.size; have gw1 := below_cell hb1 gw; have hbw1 : bw < w1.heap.size := cell_lt gw1; have gb1 := below_cell hb1 g3; have hbb1 : bb < w1.heap.size := cell_lt gb1; have p01 := below_cell hb1 p0; have hsz1 : w.heap.size < w1.heap.size := cell_lt p01)
              | (go_at_call 75; refine (hih _ (hb1.alloc hb1.size _)).mono ?_; rintro e w3 ⟨rfl, hk3, hm3⟩; have hA : Below wr.heap.size wr (w1.alloc (.cells #[.int .i64 (d + 1), .int .i64 la', .int .i64 v0, .int .i64 v1, .int .i64 v2, .int .i64 v3, .int .i64 v4] 121)) := hb1.alloc hb1.size _; have yd := hk3.cell (below_cell hA hcR); have yf := hk3.cell (below_cell hA hxR.kf); obtain ⟨n0, n1, n2, n3, n4, n5, n6⟩ := box_spot (w := w1) (T := 121) (Below.refl (w1.heap.size + 1) (w1.alloc (.cells #[.int .i64 (d + 1), .int .i64 la', .int .i64 v0, .int .i64 v1, .int .i64 v2, .int .i64 v3, .int .i64 v4] 121))); have ho3 := (hoR.kept hA).keep hk3)
              | (at_builtin; refine wpList_app_lit_g elInt rfl _ _ rfl B a0 pre.length c0 _ rfl ho3 1 1 rfl rfl (fun u hu => ?f1) ?f2 ?f3 ?f4 ?_))
            case f1 => simp at hu; subst hu; rfl
            case f2 => unfold maxLen; omega
            case f3 => omega
            case f4 => have q1 := hk3.size; simp at q1; have q2 := hx.size; omega
            intro a2 c2 w4 hown4 hg4
            have hA : Below wr.heap.size wr (w1.alloc (.cells #[.int .i64 (d + 1), .int .i64 la', .int .i64 v0, .int .i64 v1, .int .i64 v2, .int .i64 v3, .int .i64 v4] 121)) := hb1.alloc hb1.size _
            have hBs := hx.size
            have hld := hx.ld
            have hw3 : Below w0.heap.size w w3 := (hbS.mono (by omega)).trans (((hkp.below hA).trans hk3).toBelow hB0 (by omega))
            have hz3 := hk3.size
            have hz4 : w.heap.size ≤ w3.heap.size := hw3.size
            have hT5 := turned_below ho3 hg4 hB2 (by omega) (p := ⟨bd, 0, none⟩) hB1 (.slice a2 (pre.length + 1) c2)
            have hx3 := (hxR.keep (Keep.of_below hmr.isMap hA)).keep hk3
            have hk3w := (hkR.below hA).keep hk3
            have hsz := hown4.2
            have hbig : B ≤ w3.heap.size := by omega
            have hne0 := hx.n0
            have hxb := hx.nb
            have hxw := hx.nw
            have hxf := hx.nf
            have hl0' := hx.l0
            have hlb' := hx.lb
            have hlw' := hx.lw
            have hlf' := hx.lf
            have w5w : WorkAt (w4.setCell ⟨bd, 0, none⟩ (.slice a2 (pre.length + 1) c2)) b0 bm ak nk ck ad nd cd al lost cl m :=
              ⟨turned_cell ho3 hg4 hl0' hk3w.c2 hne0 _, turned_cell ho3 hg4 hl0' hk3w.c3 hne0 _, turned_cell ho3 hg4 hl0' hk3w.c4 hne0 _, turned_cell ho3 hg4 hl0' hk3w.c5 hne0 _, turned_cell ho3 hg4 hl0' hk3w.c6 hne0 _,
                hl0.below ((hw0.trans hw3).trans hT5)⟩
            have w5x : ExtAt (w4.setCell ⟨bd, 0, none⟩ (.slice a2 (pre.length + 1) c2)) B b0 bm bb bw bf bd ak nk ck ad nd cd :=
              ⟨turned_cell ho3 hg4 hlb' hx3.k2 hxb _, turned_cell ho3 hg4 hlb' hx3.k3 hxb _, turned_cell ho3 hg4 hlw' hx3.kw hxw _, turned_cell ho3 hg4 hlf' hx3.kf hxf _, hlb', hlw', hlf', hld, hl0', hx.lm, hxb, hxw, hxf, hne0, Nat.le_trans hbig hT5.size⟩
            have y4 : w4.frozen? ⟨bd, 0, none⟩ = false := by rw [grown_frozen ho3 hg4 (fun g e => by have := hrow g e; simp only; omega) yd, hk3.frozen (below_cell hA hcR), below_frozen hA hcR, hkp.frozen hcS, below_frozen hbS hcd]; exact hfz
            have zd : w4.cell? ⟨bd, 0, none⟩ = some (.slice a0 pre.length c0) := grown_cell ho3 hg4 (fun g e => by have := hrow g e; simp only; omega) yd
            have w5c : (w4.setCell ⟨bd, 0, none⟩ (.slice a2 (pre.length + 1) c2)).cell? ⟨bd, 0, none⟩ = some (.slice a2 (pre ++ [(j : Int)]).length c2) := by
              rw [World.cell?_setCell_same _ _ _ zd, List.length_append]; rfl
            have w5o : OwnL 3 1 B (w4.setCell ⟨bd, 0, none⟩ (.slice a2 (pre.length + 1) c2)) a2 c2 (pre ++ [(j : Int)]).length ((pre ++ [(j : Int)]).map (Value.int .i64)) := by
              rw [List.length_append, List.map_append]; exact hown4.setCell hld _
            have w5m : MemoAt (w4.setCell ⟨bd, 0, none⟩ (.slice a2 (pre.length + 1) c2)) bm (n + j * cost r + cost r) G := hm3.turned ho3 hg4 hx.lm hmd _
            have hcost2 : n + j * cost r + cost r + cost (r + 1) < maxLen := by
              have h5 : (j + 1) * cost r ≤ 5 * cost r := Nat.mul_le_mul_right _ (by omega)
              rw [Nat.succ_mul] at h5
              simp only [cost] at hn ⊢
              omega
            have hrec := ih ⟨d + 1, la', v0, v1, v2, v3, v4⟩ (left - cc) (pre ++ [(j : Int)]) a2 c2 (n + j * cost r + cost r) _ ((hw0.trans hw3).trans hT5) (by simp only; omega) hok hlc.1 hlc.2 (by simp; omega) w5w w5x w5c (by rw [World.frozen?_setCell]; exact y4) w5o w5m hcost2
            have hass : (pre ++ [(j : Int)]) ++ planR F m nk r ⟨d + 1, la', v0, v1, v2, v3, v4⟩ (left - cc) = pre ++ planR F m nk (r + 1) ⟨d, la, u0, u1, u2, u3, u4⟩ left := by rw [Hpl.out]; simp
            rw [hass] at hrec
            have hne9 : w1.heap.size ≠ bd := by omega
            have zf := grown_cell ho3 hg4 (fun g e => by have := hrow g e; simp only; omega) yf
            have z0 := grown_cell ho3 hg4 (p := ⟨w1.heap.size, 0, none⟩) (fun g e => by have := hrow g e; simp only; omega) (hk3.cell n0)
            have z1 := grown_cell ho3 hg4 (p := ⟨w1.heap.size, 1, none⟩) (fun g e => by have := hrow g e; simp only; omega) (hk3.cell n1)
            have z2 := grown_cell ho3 hg4 (p := ⟨w1.heap.size, 2, none⟩) (fun g e => by have := hrow g e; simp only; omega) (hk3.cell n2)
            have z3 := grown_cell ho3 hg4 (p := ⟨w1.heap.size, 3, none⟩) (fun g e => by have := hrow g e; simp only; omega) (hk3.cell n3)
            have z4 := grown_cell ho3 hg4 (p := ⟨w1.heap.size, 4, none⟩) (fun g e => by have := hrow g e; simp only; omega) (hk3.cell n4)
            have z5 := grown_cell ho3 hg4 (p := ⟨w1.heap.size, 5, none⟩) (fun g e => by have := hrow g e; simp only; omega) (hk3.cell n5)
            have z6 := grown_cell ho3 hg4 (p := ⟨w1.heap.size, 6, none⟩) (fun g e => by have := hrow g e; simp only; omega) (hk3.cell n6)
            clear w5w w5x w5c w5o w5m hass ih n0 n1 n2 n3 n4 n5 n6 yd yf
            go_wp2_with (go_at_call 76; refine hrec.mono ?_; rintro e w6 ⟨rfl, hb6, hz6, a6, c6, hd6, ho6⟩)
            (try simp only [Exit.inBlock, Exit.then])
            refine bodyPost_ret (results_none rfl _ _ _) rfl ?_
            exact ⟨rfl, (hw3.trans hT5).trans hb6, hz6, a6, c6, hd6, ho6⟩
      · obtain rfl : nk = j := by omega
        have hpl : planR F m nk (r + 1) ⟨d, la, u0, u1, u2, u3, u4⟩ left = [] := by simp only [planR, find_none hno]
        have Hpl := Lib.hid hpl
        clear hno hpl ih
        go_wp2
        (try simp only [Exit.inBlock, Exit.then])
        refine bodyPost_end (results_none rfl _ _ _) rfl ?_
        rw [Hpl.out, List.append_nil]
        exact ⟨rfl, (hbS.mono hw0.size).trans (hkp.toBelow hB0 (by have := hw0.size; omega)), by rw [hkp.frozen hcS, below_frozen hbS hcd]; exact hfz, a0, c0, hcR, hoR⟩

end Go.Proofs.Ytmplgcefhpobgaa
