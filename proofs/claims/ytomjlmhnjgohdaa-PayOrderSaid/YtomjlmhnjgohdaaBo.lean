/- pay: the reference's Words -/
import Derived.Test.YtomjlmhnjgohdaaBn
namespace Go.Proofs.Ytomjlmhnjgohdaa
set_option linter.unusedVariables false
set_option linter.unusedSimpArgs false
set_option linter.unnecessarySimpa false
open Go.RowKit Go.Flow Go.Shelf

theorem idx_snoc (s : Int) : ∀ (l : List Int) (x : Int) (k : Nat), idxBy (fun y => s == y) (l ++ [x]) k = if 0 ≤ idxBy (fun y => s == y) l k then idxBy (fun y => s == y) l k else if s = x then ((k + l.length : Nat) : Int) else -1
  | [], x, k => by by_cases e : s = x <;> simp [idxBy, e]
  | a :: t, x, k => by
    have hle := idxBy_le (fun y => s == y) t (k + 1)
    simp only [List.cons_append, idxBy, List.length_cons]
    by_cases e : (s == a) = true
    · rw [if_pos e, if_pos e, if_pos (by omega)]
    · rw [if_neg e, if_neg e, idx_snoc s t x (k + 1)]
      have : k + 1 + t.length = k + (t.length + 1) := by omega
      rw [this]
theorem idx_take {ps : List Int} (hn : ps.Nodup) (s : Int) {m : Nat} (h : m < ps.length) : idxF (ps.take (m + 1)) s = if ps.getD m 0 = s then (m : Int) else idxF (ps.take m) s := by
  have ht : ps.take (m + 1) = ps.take m ++ [ps[m]] := List.take_succ_eq_append_getElem h
  have hg : ps.getD m 0 = ps[m] := by simp [h]
  have hle := idxBy_le (fun y => s == y) (ps.take m) 0
  unfold idxF
  rw [ht, idx_snoc, hg]
  have hlen : (ps.take m).length = m := by simp; omega
  rw [hlen]
  by_cases h0 : 0 ≤ idxBy (fun y => s == y) (ps.take m) 0
  · have hne : ps[m] ≠ s := fun e => by
      have hb := idxBy_any (fun y => s == y) (ps.take m) 0
      have : (ps.take m).any (fun y => s == y) = true := by rw [← hb]; simpa using h0
      rw [List.any_eq_true] at this
      obtain ⟨y, hy, he⟩ := this
      have he : s = y := by simpa using he
      obtain ⟨i, hi, e2⟩ := List.getElem_of_mem hy
      simp only [List.length_take] at hi
      rw [List.getElem_take] at e2
      rw [List.nodup_iff_pairwise_ne, List.pairwise_iff_getElem] at hn
      exact hn i m (by omega) h (by omega) (by rw [e2, ← he, e])
    rw [if_pos h0, if_neg hne]
  · rw [if_neg h0]
    by_cases e : s = ps[m]
    · rw [if_pos e, if_pos e.symm]; simp
    · rw [if_neg e, if_neg (fun h => e h.symm)]; omega
section
variable (st rate keeps : Int) (ds : List Dis) (ad : Option Addr) (cd : Nat) (cq cs cp : Int) (w : World) (hd : DisAt w ad ds) (h0 : accErr ⟨st, rate, keeps, ds⟩ = 0)
include h0
set_option maxRecDepth 100000 in
set_option maxHeartbeats 4000000 in
theorem rWords_out (hq : inR cq 0 ((ds.length : Int) - 1) = false) : Calls Try.prog 30 #[.agg #[.int .i64 st, .int .i64 rate, .int .i64 keeps, .slice ad ds.length cd], .agg #[.int .i64 cq, .int .i64 cs, .int .i64 cp]] w fun e w' => e = .returned (.tuple #[.slice none 0 0, .int .i64 2]) ∧ Below w.heap.size w w' := by
  have G := good_of h0
  simp only at G
  have hn6 := G.n
  have i1 := rin_any cq 0 ((ds.length : Int) - 1)
  rw [hq] at i1
  have wL : IntKind.i64.wrap ((ds.length : Int) - 1) = (ds.length : Int) - 1 := IntWalk.i64_in _ (by omega)
  clear hq G h0
  go_enter Try.func30, Try.ntmps30
  go_wp2_with (go_at_call 24; (with_reducible refine (i1 _).mono ?_); rintro e _ ⟨rfl, rfl⟩)
  go_ret2
  exact ⟨rfl, by (repeat (first | exact Below.refl _ _ | refine Below.alloc ?_ (by first | omega | (simp; done) | (simp; omega)) _ | refine Below.drew ?_ | refine Below.setCell ?_ (by first | omega | (simp; done) | (simp; omega)) _ | refine Below.trans ?_ (Below.mono (by assumption) (by first | omega | (simp; done) | (simp; omega)))))⟩
variable (i : Nat) (hi : i < ds.length)
include hd hi
set_option maxRecDepth 100000 in
set_option maxHeartbeats 4000000 in
theorem rWords_in : Calls Try.prog 30 #[.agg #[.int .i64 st, .int .i64 rate, .int .i64 keeps, .slice ad ds.length cd], .agg #[.int .i64 (i : Int), .int .i64 cs, .int .i64 cp]] w fun e w' => (∃ a c, e = .returned (.tuple #[.slice a (wordsOut rate keeps ds[i] cs cp).length c, .int .i64 (wordsErr rate keeps ds[i] cs cp)]) ∧ IntsAt w' a (wordsOut rate keeps ds[i] cs cp)) ∧ Below w.heap.size w w' := by
  have G := good_of h0
  simp only at G
  have hn6 := G.n
  have hGw := G.w _ (List.getElem_mem hi)
  have hGp := G.p _ (List.getElem_mem hi)
  have hD := disB_ok ((accErr_ok h0).dis _ (List.getElem_mem hi))
  have i1 := rin_any (i : Int) 0 ((ds.length : Int) - 1)
  rw [show inR (i : Int) 0 ((ds.length : Int) - 1) = true from inR_iff.2 (by omega)] at i1
  have wL : IntKind.i64.wrap ((ds.length : Int) - 1) = (ds.length : Int) - 1 := IntWalk.i64_in _ (by omega)
  have rsh := fun (n : Int) (hn : 1 ≤ n ∧ n ≤ 200) W (b : Below w.heap.size w W) => rShares_any st rate keeps ds ad cd i n W (hd.below b) G hi hn
  obtain ⟨bd, od, al, cl, rfl, hbd, d0, d1, d2, d3, hPa⟩ := hd i hi
  obtain ⟨d, hde⟩ : ∃ d, ds[i] = d := ⟨_, rfl⟩
  simp only [hde] at d0 d1 d2 d3 hPa rsh hGw hGp hD ⊢
  clear hde
  obtain ⟨py, lo, hi2, l⟩ := d
  dsimp only at d0 d1 d2 d3 hPa rsh hGw hGp
  have hE : wordsErr rate keeps ⟨py, lo, hi2, l⟩ cs cp = if idxF l cs < 0 then 7 else err11 (fitsL rate keeps ⟨py, lo, hi2, l⟩ (idxF l cs).toNat cp (hi2 - lo + 1).toNat) := rfl
  have hO : wordsOut rate keeps ⟨py, lo, hi2, l⟩ cs cp = if idxF l cs < 0 then [] else fitsL rate keeps ⟨py, lo, hi2, l⟩ (idxF l cs).toNat cp (hi2 - lo + 1).toNat := rfl
  obtain ⟨E, hEe⟩ : ∃ E, wordsErr rate keeps ⟨py, lo, hi2, l⟩ cs cp = E := ⟨_, rfl⟩
  obtain ⟨O, hOe⟩ : ∃ O, wordsOut rate keeps ⟨py, lo, hi2, l⟩ cs cp = O := ⟨_, rfl⟩
  rw [hEe] at hE ⊢
  rw [hOe] at hO ⊢
  have HE := Lib.hid hE
  have HO := Lib.hid hO
  have Hnd := Lib.hid hD.nd
  have hiI : (i : Int) < (ds.length : Int) := by omega
  clear hE hO hEe hOe hD G h0 hd
  obtain ⟨W0, hW0⟩ : ∃ z : World, z = (w.alloc (.cells #[.int .i64 st, .int .i64 rate, .int .i64 keeps, .slice (some ⟨bd, od, none⟩) ds.length cd] 24)).alloc (.cells #[.int .i64 (i : Int), .int .i64 cs, .int .i64 cp] 50) := ⟨_, rfl⟩
  have hz0 : W0.heap.size = w.heap.size + 1 + 1 := by rw [hW0]; simp
  have b0 : Below w.heap.size w W0 := by rw [hW0]; (repeat (first | exact Below.refl _ _ | refine Below.alloc ?_ (by first | omega | (simp; done) | (simp; omega)) _ | refine Below.drew ?_ | refine Below.setCell ?_ (by first | omega | (simp; done) | (simp; omega)) _ | refine Below.trans ?_ (Below.mono (by assumption) (by first | omega | (simp; done) | (simp; omega)))))
  have C0 : Cells W0 w.heap.size #[.int .i64 st, .int .i64 rate, .int .i64 keeps, .slice (some ⟨bd, od, none⟩) ds.length cd] 24 := by rw [hW0]; exact (Cells.new _ _ _).alloc _
  have K0 : Cells W0 (w.heap.size + 1) #[.int .i64 (i : Int), .int .i64 cs, .int .i64 cp] 50 := by rw [hW0]; exact Cells.new' _ _ _ _ (by simp)
  go_enter Try.func30, Try.ntmps30
  go_wp2_with (go_at_call 24; (with_reducible refine (i1 _).mono ?_); rintro e _ ⟨rfl, rfl⟩)
  rw [← hW0]
  obtain ⟨W1, hW1⟩ : ∃ z : World, z = W0.alloc (.cells #[.int .i64 py, .int .i64 lo, .int .i64 hi2, .slice al l.length cl] 43) := ⟨_, rfl⟩
  have b1 : Below W0.heap.size W0 W1 := by rw [hW1]; exact (Below.refl _ _).alloc (Nat.le_refl _) _
  have D1 : Cells W1 (w.heap.size + 1 + 1) #[.int .i64 py, .int .i64 lo, .int .i64 hi2, .slice al l.length cl] 43 := by rw [hW1]; exact Cells.new' _ _ _ _ hz0.symm
  rw [← hW1]
  clear hW0 hW1 i1
  have t1 : Below w.heap.size w W1 := b0.trans (b1.mono b0.size)
  have C1 := C0.below b1
  have K1 := K0.below b1
  clear d0 d1 d2 d3 C0 K0 b0 b1
  go_loopw [7, 8] (fun u v X => ∃ k : Nat, k ≤ l.length ∧ v = .int .i64 k ∧ u = .int .i64 (idxF (l.take k) cs) ∧ Below W1.heap.size W1 X) (fun _ v _ => l.length - (intOf v).toNat)
  case atStart => exact ⟨0, Nat.zero_le _, rfl, by simp [idxF, idxBy], Below.refl _ _⟩
  case round =>
    obtain ⟨k, hk, rfl, rfl, hbX⟩ := hrel
    rename World => X
    have tX := t1.trans (hbX.mono t1.size)
    have D2 := D1.below hbX
    have K2 := K1.below hbX
    have p2 := D2.cell 3
    have lp := D2.lt
    have k1 := K2.cell 1
    have lk := K2.lt
    simp at p2 k1
    by_cases hlt : k < l.length
    · have hkI : (k : Int) < (l.length : Int) := by omega
      have hit := idx_take Hnd.out cs hlt
      obtain ⟨bp, op, rfl, hbp, hcp⟩ := (hPa.at_.below tX) k hlt
      obtain ⟨x, hx⟩ : ∃ x, l.getD k 0 = x := ⟨_, rfl⟩
      rw [hx] at hcp hit
      clear hx
      by_cases hxs : x = cs
      · have hxb : (x == cs) = true := by simpa using hxs
        rw [if_pos hxs] at hit
        have Hit := Lib.hid hit
        clear hit hxs
        go_wp2
        (refine wp_region_ext 8 (by kernel_rfl) (by kernel_rfl) ?_; simp only [List.take_succ_cons, List.take_zero, List.drop_succ_cons, List.drop_zero]; (repeat (go_big_quiet_step ((fail)))); refine wpQuiet_nil ?_; rintro _ ⟨ex, rfl⟩; have hex := ex.below; have hexz := ex.size; (try simp at hexz); (try (have hy0 : w.heap.size < ex.to.heap.size := by omega)); (try (have hy1 : w.heap.size + 1 < ex.to.heap.size := by omega)); (try (have hy2 : w.heap.size + 2 < ex.to.heap.size := by omega)))
        go_wp2
        go_roundw
        case rel => exact ⟨k + 1, by omega, by go_num, by rw [Hit.out], hbX.trans (hex.mono hbX.size)⟩
        case measure => simp [intOf]; omega
      · have hxb : (x == cs) = false := by simpa using hxs
        rw [if_neg hxs] at hit
        have Hit := Lib.hid hit
        clear hit hxs
        go_wp2
        (refine wp_region_ext 8 (by kernel_rfl) (by kernel_rfl) ?_; simp only [List.take_succ_cons, List.take_zero, List.drop_succ_cons, List.drop_zero]; (repeat (go_big_quiet_step ((fail)))); refine wpQuiet_nil ?_; rintro _ ⟨ex, rfl⟩; have hex := ex.below; have hexz := ex.size; (try simp at hexz); (try (have hy0 : w.heap.size < ex.to.heap.size := by omega)); (try (have hy1 : w.heap.size + 1 < ex.to.heap.size := by omega)); (try (have hy2 : w.heap.size + 2 < ex.to.heap.size := by omega)))
        go_wp2
        go_roundw
        case rel => exact ⟨k + 1, by omega, by go_num, by rw [Hit.out], hbX.trans (hex.mono hbX.size)⟩
        case measure => simp [intOf]; omega
    · obtain rfl : k = l.length := by omega
      rw [List.take_length]
      have hib := idxF_bd l cs
      have C2 := C1.below hbX
      by_cases hneg : idxF l cs < 0
      · have e1 := HE.out
        have e2 := HO.out
        rw [if_pos hneg] at e1 e2
        subst e1 e2
        obtain ⟨a_, ha_⟩ : ∃ a_, idxF l cs = a_ := ⟨_, rfl⟩
        rw [ha_] at hneg ⊢
        clear HE HO ha_ hib
        go_wp2
        go_ret2
        exact ⟨⟨none, 0, rfl, IntsAt.nil _ _⟩, tX⟩
      · have e1 := HE.out
        have e2 := HO.out
        rw [if_neg hneg] at e1 e2
        obtain ⟨j, hj⟩ : ∃ j : Nat, idxF l cs = (j : Int) := ⟨(idxF l cs).toNat, by omega⟩
        rw [hj] at e1 e2 ⊢
        simp only [Int.toNat_natCast] at e1 e2
        have hjl : j < l.length := by omega
        have hjI : (j : Int) < (l.length : Int) := by omega
        have HE2 := Lib.hid e1
        have HO2 := Lib.hid e2
        have y1 := D2.cell 1
        simp at y1
        have hfv : ∀ n, fitB rate keeps ⟨py, lo, hi2, l⟩ j cp n = ((sharesF rate keeps l.length n).getD j 0 == cp) := fun n => rfl
        have Hfv := Lib.hid hfv
        clear e1 e2 HE HO hneg hib hj hfv
        go_wp2
        clear y1
        go_loopw [9, 10] (fun u v Y => ∃ (k : Nat) (ao : Option Addr) (co : Nat), (k : Int) ≤ hi2 - lo + 1 ∧ v = .int .i64 (lo + (k : Int)) ∧ u = .slice ao (fitsL rate keeps ⟨py, lo, hi2, l⟩ j cp k).length co ∧ OwnL 3 1 X.heap.size Y ao co (fitsL rate keeps ⟨py, lo, hi2, l⟩ j cp k).length ((fitsL rate keeps ⟨py, lo, hi2, l⟩ j cp k).map (Value.int .i64)) ∧ Below X.heap.size X Y) (fun _ v _ => (hi2 + 1 - intOf v).toNat)
        case atStart => exact ⟨0, none, 0, by omega, by simp, rfl, OwnL.nil _ _ _ _, Below.refl _ _⟩
        case round =>
          obtain ⟨k, ao, co, hk2, rfl, rfl, own, hbY⟩ := hrel
          rename World => Y
          have tY := tX.trans (hbY.mono tX.size)
          have C3 := C2.below hbY
          have D3 := D2.below hbY
          have K3 := K2.below hbY
          have q0 := C3.cell 0
          have q1 := C3.cell 1
          have q2 := C3.cell 2
          have q3 := C3.cell 3
          have lq := C3.lt
          have y2 := D3.cell 2
          have yl := D3.lt
          have k0 := K3.cell 0
          have k2 := K3.cell 2
          have lk2 := K3.lt
          simp at q0 q1 q2 q3 y2 k0 k2
          have hfl := fitsL_len rate keeps ⟨py, lo, hi2, l⟩ j cp k
          have hsu := fitsL_succ rate keeps ⟨py, lo, hi2, l⟩ j cp k
          by_cases hle : lo + (k : Int) ≤ hi2
          · have hf := Hfv.out (lo + (k : Int))
            have en : lo + ((k + 1 : Nat) : Int) = lo + (k : Int) + 1 := by push_cast; omega
            simp only at hsu
            obtain ⟨N, hN⟩ : ∃ N, lo + (k : Int) = N := ⟨_, rfl⟩
            rw [hN] at hsu hf hle en ⊢
            have hNb : 1 ≤ N ∧ N ≤ 200 := by omega
            have rc := fun W (b : Below w.heap.size w W) => rsh N hNb W b
            have wn : IntKind.i64.wrap (N + 1) = N + 1 := IntWalk.i64_in _ (by omega)
            have HN := Lib.hid hN
            have hk200 : k ≤ 200 := by omega
            obtain ⟨S, hS⟩ : ∃ S, sharesF rate keeps l.length N = S := ⟨_, rfl⟩
            have hSl : S.length = l.length := by rw [← hS]; exact sharesF_len _ _ _ _
            rw [hS] at hf
            simp only [hS] at rc
            obtain ⟨x, hx⟩ : ∃ x, S.getD j 0 = x := ⟨_, rfl⟩
            rw [hx] at hf
            have hrow : ∀ (g : Nat) (V : World), RowI V g S → V.cell? ⟨g, j, none⟩ = some (.int .i64 x) := fun g V h => by
              have cx := h.cell (k := j) (by rw [hSl]; exact hjl)
              rw [hx] at cx; exact cx
            obtain ⟨b, hb⟩ : ∃ b, (x == cp) = b := ⟨_, rfl⟩
            rw [hb] at hf
            rw [hf] at hsu
            have Hen := Lib.hid en
            have Hsu := Lib.hid hsu
            obtain ⟨fl, hfe⟩ : ∃ fl, fitsL rate keeps ⟨py, lo, hi2, l⟩ j cp k = fl := ⟨_, rfl⟩
            rw [hfe] at hfl own Hsu ⊢
            clear hsu hf hS hSl hx hN en hfe
            have Hb := Lib.hid hb
            clear hb
            go_wp2
            (refine wp_region_seq 11 [] [] 72 [true, true, true, true, false, true, false, false, true, true, false] [RowV l.length S, CellV j (.int .i64 x), IntV x, EqV (.bool b)] (by kernel_rfl) (by kernel_rfl) rfl (mono_cons (fun v w w' h hb => h.kept hb) (mono_cons (fun v w w' h hb => h.kept hb) (mono_cons (fun v w w' h hb => h.kept hb) (mono_cons (fun v w w' h hb => h.kept hb) mono_nil)))) ?_; simp only [pickOps, List.filterMap_cons, List.filterMap_nil, List.getElem?_toArray, List.getElem?_cons_succ, List.getElem?_cons_zero]; (repeat (refine wpFl_step _ rfl (fun w => (by go_simp; rfl)) ?_)); refine wpFl_nil ?_; simp only [maskOps, dummy, Act.put, List.setIfInBounds_toArray, List.set_cons_zero, List.set_cons_succ, List.take_succ_cons, List.take_zero, List.drop_succ_cons, List.drop_zero]; (repeat (refine wpQB_step (fun K hK => ?_); go_simp; first | (refine hK _ ?_; clear hK K) | (apply Exists.intro; refine ⟨fun ex => ?_, hK _ ?_⟩; (fail); clear hK K))); refine wpQB_nil ?_; simp only [relObl2, under, relEnd, and_true, List.nil_append, List.cons_append])
            refine ⟨⟨?_, ?_, ?_, ?_⟩, ?_⟩
            · intro e
              go_simp
              refine (rc e.to (tY.trans (e.below.mono tY.size))).mono ?_
              rintro r w' ⟨⟨g, c, rfl, _, hR⟩, hb⟩
              exact ⟨hb, g, c, rfl, hR⟩
            · intro e v1 h1
              obtain ⟨g, c, rfl, hR⟩ := h1 (by kernel_rfl)
              go_simp
              exact ⟨Below.refl _ _, g, rfl, hrow g _ hR⟩
            · intro e v1 _ v2 h2
              obtain ⟨g, rfl, cx⟩ := h2 (by kernel_rfl)
              have lx := cell_ltK cx
              go_simp
              exact ⟨Below.refl _ _, rfl⟩
            · intro e v1 _ v2 _ v3 h3
              obtain rfl := h3 (by kernel_rfl)
              go_simp
              exact ⟨Below.refl _ _, by unfold EqV; rw [← Hb.out]⟩
            rintro e v1 - v2 - v3 - v4 h4
            obtain rfl : v4 = .bool b := h4
            simp only [Act.put, List.setIfInBounds_toArray, List.set_cons_zero, List.set_cons_succ]
            have b2 := e.below
            obtain ⟨W2, hW2⟩ : ∃ z : World, z = e.to := ⟨_, rfl⟩
            rw [← hW2] at b2 ⊢
            clear hW2 hrow rc q0 q1 q2 q3 lq y2 yl k0 k2 lk2
            have own2 := own.kept b2
            have bY2 := hbY.trans (b2.mono hbY.size)
            cases b
            · have Hs2 : Hid (fitsL rate keeps ⟨py, lo, hi2, l⟩ j cp (k + 1) = fl) := Lib.hid (by rw [Hsu.out]; simp)
              clear Hsu Hb
              go_wp2
              go_roundw
              case rel => exact ⟨k + 1, ao, co, by have := HN.out; push_cast; omega, by rw [Hen.out], by rw [Hs2.out], by rw [Hs2.out]; exact own2, bY2⟩
              case measure => simp [intOf]; omega
            · have Hs2 : Hid (fitsL rate keeps ⟨py, lo, hi2, l⟩ j cp (k + 1) = fl ++ [N]) := Lib.hid (by rw [Hsu.out]; simp)
              clear Hsu Hb
              go_wp2_with (at_builtin; refine wpList_app_lit_at elInt rfl _ _ rfl X.heap.size ao fl.length co _ rfl own2 1 1 rfl rfl (fun u hu => by simp at hu; subst hu; rfl) (by unfold maxLen; omega) (by omega) bY2.size ?_; intro a9 c9 Y3 o9 b9 _)
              have b19 := bY2.trans b9
              go_roundw
              case rel => exact ⟨k + 1, a9, c9, by have := HN.out; push_cast; omega, by rw [Hen.out], by rw [Hs2.out]; simp, by rw [Hs2.out, List.map_append, List.length_append]; exact o9, b19⟩
              case measure => simp [intOf]; omega
          · have hkk : k = (hi2 - lo + 1).toNat := by omega
            rw [← hkk] at HE2 HO2
            obtain ⟨fl, hfe⟩ : ∃ fl, fitsL rate keeps ⟨py, lo, hi2, l⟩ j cp k = fl := ⟨_, rfl⟩
            rw [hfe] at HE2 HO2 hfl own ⊢
            obtain rfl : O = fl := HO2.out
            have e1 := HE2.out
            have hI := own.ints.1
            clear HE2 HO2 hfe hsu hkk
            by_cases h00 : O = []
            · subst h00
              obtain rfl : E = 11 := by rw [e1]; rfl
              clear e1
              go_wp2
              go_ret2
              first | exact ⟨⟨none, ⟨0, rfl⟩, IntsAt.nil _ _⟩, tY⟩ | exact ⟨⟨none, 0, rfl, IntsAt.nil _ _⟩, tY⟩
            · obtain rfl : E = 0 := by rw [e1, err11, if_neg h00]
              have hlb : ((O.length : Int) == 0) = false := by
                have := List.length_pos_iff.2 h00
                rw [beq_eq_false_iff_ne]; omega
              clear e1 h00
              go_wp2
              go_ret2
              first | exact ⟨⟨ao, ⟨co, rfl⟩, hI⟩, tY⟩ | exact ⟨⟨ao, co, rfl, hI⟩, tY⟩
end
end Go.Proofs.Ytomjlmhnjgohdaa
