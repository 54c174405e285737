/- pay: payments, back and forth; the reference's Settles -/
import Derived.Test.YtomjlmhnjgohdaaBq
namespace Go.Proofs.Ytomjlmhnjgohdaa
set_option linter.unusedVariables false
set_option linter.unusedSimpArgs false
set_option linter.unnecessarySimpa false
open Go.RowKit Go.Flow Go.Shelf

theorem info_rpay : (Try.prog.info? 113).map (fun i => (i.zero, i.size, i.bytes)) = some (some (.agg #[.int .i64 0, .int .i64 0, .int .i64 0]), 3, 24) := by kernel_rfl
theorem elRPay : Elem Try.prog 56 113 (.agg #[.int .i64 0, .int .i64 0, .int .i64 0]) 3 24 := ⟨Try.underlying56, info_parts info_rpay, rfl, by decide⟩
section
variable (ap : Option Addr) (ps : List (Int × Int × Int)) (cp : Nat) (w : World) (hp : Recs3At w ap ps) (hpl : ps.length ≤ 1000)
include hp hpl
set_option maxRecDepth 100000 in
set_option maxHeartbeats 2000000 in
theorem payments_any : Calls Try.prog 33 #[.slice ap ps.length cp] w fun e w' => (∃ a c, e = .returned (.slice a ps.length c) ∧ Recs3At w' a ps) ∧ Below w.heap.size w w' := by
  go_enter Try.func33, Try.ntmps33
  go_wp2
  go_loopw [3, 4] (fun u v X => ∃ (k : Nat) (ao : Option Addr) (co : Nat), k ≤ ps.length ∧ v = .int .i64 k ∧ u = .slice ao k co ∧ OwnL 91 3 w.heap.size X ao co k (flat3 (ps.take k)) ∧ Below w.heap.size w X) (fun _ v _ => ps.length - (intOf v).toNat)
  case atStart => exact ⟨0, none, 0, Nat.zero_le _, rfl, rfl, OwnL.nil _ _ _ _, Below.refl _ _⟩
  case round =>
    obtain ⟨k, ao, co, hk, rfl, rfl, own, hbX⟩ := hrel
    rename World => X
    by_cases hlt : k < ps.length
    · have hkI : (k : Int) < (ps.length : Int) := by omega
      obtain ⟨f, t, m, he⟩ : ∃ f t m, ps[k] = (f, t, m) := ⟨_, _, _, rfl⟩
      obtain ⟨b, off, rfl, hbl, p0, p1, p2⟩ := (hp.below hbX).read hlt he
      have hft := flat3_take ps k hlt
      rw [he] at hft
      have Hft := Lib.hid hft
      have hzX := hbX.size
      clear hft he
      go_wp2
      (refine wp_region_seq 18 [] [18, 19] 31 [true, true, true, true, true, true, true, true, true, true, true, true, true, true, true, true, true, false] [LitV X.heap.size 1 #[.int .i64 f, .int .i64 t, .int .i64 m] 91] (by kernel_rfl) (by kernel_rfl) rfl (mono_cons (fun v w w' h hb => h.kept hb) mono_nil) ?_; simp only [pickOps, List.filterMap_cons, List.filterMap_nil, List.getElem?_toArray, List.getElem?_cons_succ, List.getElem?_cons_zero]; (repeat (refine wpFl_step _ rfl (fun w => (by go_simp; rfl)) ?_)); refine wpFl_nil ?_; simp only [maskOps, dummy, Act.put, List.setIfInBounds_toArray, List.set_cons_zero, List.set_cons_succ, List.take_succ_cons, List.take_zero, List.drop_succ_cons, List.drop_zero]; (repeat (refine wpQB_step (fun K hK => ?_); go_simp; first | (refine hK _ ?_; clear hK K) | (apply Exists.intro; refine ⟨fun ex => ?_, hK _ ?_⟩; (fail); clear hK K))); refine wpQB_nil ?_; simp only [relObl2, under, relEnd, and_true, List.nil_append, List.cons_append])
      refine ⟨fun e => ?_, fun e => ?_⟩
      · go_simp
        exact ⟨(Below.refl _ _).alloc (Nat.le_refl _) _, e.to.heap.size, rfl, by have := e.size; omega, Cells.new _ _ _⟩
      rintro v1 ⟨gg, rfl, hg1, hgg⟩
      simp only [Act.put, List.setIfInBounds_toArray, List.set_cons_zero, List.set_cons_succ]
      have heb := e.below
      have own4 := own.kept heb
      obtain ⟨w5, hw5⟩ : ∃ x : World, x = e.to := ⟨_, rfl⟩
      rw [← hw5] at heb hgg own4 ⊢
      clear hw5 e
      have b5 := hbX.trans (heb.mono hzX)
      refine wpList_app_g elPay rfl _ _ rfl w.heap.size ao k co _ rfl own4 (some ⟨gg, 0, none⟩) 1 1 _ rfl (fun h => by cases h) rfl hgg.src (fun u hu => by simp at hu; rcases hu with rfl | rfl | rfl <;> rfl) (by unfold maxLen; omega) (by omega) b5.size ?_
      intro a6 c6 w6 own6 hb6 hg6
      have b6 := b5.trans hb6
      go_wp2
      go_roundw
      case rel => exact ⟨k + 1, a6, c6, by omega, by go_num, rfl, by rw [Hft.out]; exact own6, b6⟩
      case measure => simp [intOf]; omega
    · obtain rfl : k = ps.length := by omega
      rw [List.take_length] at own
      have hI := own.recs3
      go_wp2
      go_ret
      first | exact ⟨⟨ao, ⟨co, rfl⟩, hI⟩, hbX⟩ | exact ⟨⟨ao, co, rfl, hI⟩, hbX⟩
set_option maxRecDepth 100000 in
set_option maxHeartbeats 2000000 in
theorem back_any : Calls Try.prog 37 #[.slice ap ps.length cp] w fun e w' => (∃ a c, e = .returned (.slice a ps.length c) ∧ Recs3At w' a ps) ∧ Below w.heap.size w w' := by
  go_enter Try.func37, Try.ntmps37
  go_wp2
  go_loopw [3, 4] (fun u v X => ∃ (k : Nat) (ao : Option Addr) (co : Nat), k ≤ ps.length ∧ v = .int .i64 k ∧ u = .slice ao k co ∧ OwnL 113 3 w.heap.size X ao co k (flat3 (ps.take k)) ∧ Below w.heap.size w X) (fun _ v _ => ps.length - (intOf v).toNat)
  case atStart => exact ⟨0, none, 0, Nat.zero_le _, rfl, rfl, OwnL.nil _ _ _ _, Below.refl _ _⟩
  case round =>
    obtain ⟨k, ao, co, hk, rfl, rfl, own, hbX⟩ := hrel
    rename World => X
    by_cases hlt : k < ps.length
    · have hkI : (k : Int) < (ps.length : Int) := by omega
      obtain ⟨f, t, m, he⟩ : ∃ f t m, ps[k] = (f, t, m) := ⟨_, _, _, rfl⟩
      obtain ⟨b, off, rfl, hbl, p0, p1, p2⟩ := (hp.below hbX).read hlt he
      have hft := flat3_take ps k hlt
      rw [he] at hft
      have Hft := Lib.hid hft
      have hzX := hbX.size
      clear hft he
      go_wp2
      (refine wp_region_seq 18 [] [18, 19] 31 [true, true, true, true, true, true, true, true, true, true, true, true, true, true, true, true, true, false] [LitV X.heap.size 1 #[.int .i64 f, .int .i64 t, .int .i64 m] 113] (by kernel_rfl) (by kernel_rfl) rfl (mono_cons (fun v w w' h hb => h.kept hb) mono_nil) ?_; simp only [pickOps, List.filterMap_cons, List.filterMap_nil, List.getElem?_toArray, List.getElem?_cons_succ, List.getElem?_cons_zero]; (repeat (refine wpFl_step _ rfl (fun w => (by go_simp; rfl)) ?_)); refine wpFl_nil ?_; simp only [maskOps, dummy, Act.put, List.setIfInBounds_toArray, List.set_cons_zero, List.set_cons_succ, List.take_succ_cons, List.take_zero, List.drop_succ_cons, List.drop_zero]; (repeat (refine wpQB_step (fun K hK => ?_); go_simp; first | (refine hK _ ?_; clear hK K) | (apply Exists.intro; refine ⟨fun ex => ?_, hK _ ?_⟩; (fail); clear hK K))); refine wpQB_nil ?_; simp only [relObl2, under, relEnd, and_true, List.nil_append, List.cons_append])
      refine ⟨fun e => ?_, fun e => ?_⟩
      · go_simp
        exact ⟨(Below.refl _ _).alloc (Nat.le_refl _) _, e.to.heap.size, rfl, by have := e.size; omega, Cells.new _ _ _⟩
      rintro v1 ⟨gg, rfl, hg1, hgg⟩
      simp only [Act.put, List.setIfInBounds_toArray, List.set_cons_zero, List.set_cons_succ]
      have heb := e.below
      have own4 := own.kept heb
      obtain ⟨w5, hw5⟩ : ∃ x : World, x = e.to := ⟨_, rfl⟩
      rw [← hw5] at heb hgg own4 ⊢
      clear hw5 e
      have b5 := hbX.trans (heb.mono hzX)
      refine wpList_app_g elRPay rfl _ _ rfl w.heap.size ao k co _ rfl own4 (some ⟨gg, 0, none⟩) 1 1 _ rfl (fun h => by cases h) rfl hgg.src (fun u hu => by simp at hu; rcases hu with rfl | rfl | rfl <;> rfl) (by unfold maxLen; omega) (by omega) b5.size ?_
      intro a6 c6 w6 own6 hb6 hg6
      have b6 := b5.trans hb6
      go_wp2
      go_roundw
      case rel => exact ⟨k + 1, a6, c6, by omega, by go_num, rfl, by rw [Hft.out]; exact own6, b6⟩
      case measure => simp [intOf]; omega
    · obtain rfl : k = ps.length := by omega
      rw [List.take_length] at own
      have hI := own.recs3
      go_wp2
      go_ret
      first | exact ⟨⟨ao, ⟨co, rfl⟩, hI⟩, hbX⟩ | exact ⟨⟨ao, co, rfl, hI⟩, hbX⟩
variable (a : Option Addr) (l : List Int) (c : Nat) (hx : IntsAt w a l) (h0 : balsErr l = 0)
include hx h0
set_option maxRecDepth 100000 in
set_option maxHeartbeats 4000000 in
theorem rSettles_any : Calls Try.prog 35 #[.slice a l.length c, .slice ap ps.length cp] w fun e w' => e = .returned (.bool (settlesF l.length l ps)) ∧ Below w.heap.size w w' := by
  obtain ⟨hl7, hne, hd, hz⟩ := balsErr_ok h0
  have hlp : 0 < l.length := List.length_pos_iff.2 hne
  have hbd : BdI l 100000 := debts hd
  obtain ⟨Z, hZ⟩ : ∃ Z, settlesF l.length l ps = Z := ⟨_, rfl⟩
  rw [hZ]
  have HZ := Lib.hid hZ
  have Hbd := Lib.hid hbd
  have wL : IntKind.i64.wrap ((l.length : Int) - 1) = (l.length : Int) - 1 := IntWalk.i64_in _ (by omega)
  clear hZ hbd hd hz hne h0
  have hnn : a = none → l.length = 0 ∧ c = 0 := fun h => by
    obtain ⟨b, off, e, _⟩ := hx 0 hlp
    rw [h] at e; cases e
  go_enter Try.func35, Try.ntmps35
  go_wp2_with (at_builtin; refine wpList_app elInt rfl _ _ rfl w.heap.size _ _ _ _ rfl (OwnL.lit #[] (Nat.le_refl _) (by decide) rfl) a l.length c _ rfl hnn (by simp) (SrcAt.ints (hx.below ((Below.refl _ _).alloc (Nat.le_refl _) _))) (fun u hu => by obtain ⟨z, _, rfl⟩ := List.mem_map.1 hu; rfl) (by unfold maxLen; omega) (by omega) (by simp) ?_; intro a2 c2 w2 own2 b2)
  obtain ⟨g, rfl⟩ : ∃ g, a2 = some ⟨g, 0, none⟩ := by
    rcases own2.form with ⟨_, _, h, _⟩ | ⟨g, h, _⟩
    · omega
    · exact ⟨g, h⟩
  obtain ⟨hgb, hrow⟩ := own2.row
  have hr : RowI w2 g l := by simpa [RowI] using hrow
  have t2 : Below w.heap.size w w2 := ((Below.refl _ _).alloc (Nat.le_refl _) _).trans b2
  clear hrow own2 hnn b2
  go_loopw [6, 7] (fun j _ X => ∃ (k : Nat) (L : List Int), k ≤ ps.length ∧ j = .int .i64 k ∧ L.length = l.length ∧ RowI X g L ∧ BdI L (100000 * (k + 1 : Nat)) ∧ Below w.heap.size w X ∧ settlesF l.length L (ps.drop k) = Z) (fun j _ _ => ps.length - (intOf j).toNat)
  case atStart => exact ⟨0, l, Nat.zero_le _, rfl, rfl, hr, by simpa using Hbd.out, t2, HZ.out⟩
  case round =>
    obtain ⟨k, L, hk, rfl, hLl, hR, hB, hbX, hs⟩ := hrel
    rename World => X
    have HLl := Lib.hid hLl
    have Hs := Lib.hid hs
    clear hs
    by_cases hlt : k < ps.length
    · have hkI : (k : Int) < (ps.length : Int) := by omega
      obtain ⟨f, t, m, he⟩ : ∃ f t m, ps[k] = (f, t, m) := ⟨_, _, _, rfl⟩
      obtain ⟨b, off, rfl, hbl, p0, p1, p2⟩ := (hp.below hbX).read hlt he
      have hst := settles_at l.length L ps hlt
      rw [he, payB_eq, Hs.out] at hst
      have Hst := Lib.hid hst
      clear hst he hLl
      have has1 := rin_any f 0 ((l.length : Int) - 1)
      have has2 := rin_any t 0 ((l.length : Int) - 1)
      have wi := rin_any m 1 100000
      obtain ⟨V1, hV1⟩ : ∃ V, inR f 0 ((l.length : Int) - 1) = V := ⟨_, rfl⟩
      obtain ⟨V2, hV2⟩ : ∃ V, inR t 0 ((l.length : Int) - 1) = V := ⟨_, rfl⟩
      obtain ⟨V4, hV4⟩ : ∃ V, inR m 1 100000 = V := ⟨_, rfl⟩
      rw [hV1] at has1
      rw [hV2] at has2
      rw [hV4] at wi
      have HV1 := Lib.hid hV1
      have HV2 := Lib.hid hV2
      have HV4 := Lib.hid hV4
      clear hV1 hV2 hV4
      cases V1
      · obtain rfl : Z = false := by rw [Hst.out, HV1.out]; rfl
        go_wp2_with (go_at_call 24; (with_reducible refine (has1 _).mono ?_); rintro e _ ⟨rfl, rfl⟩)
        go_ret
        exact ⟨rfl, hbX.alloc hbX.size _⟩
      cases V2
      · obtain rfl : Z = false := by rw [Hst.out, HV2.out]; simp
        go_wp2_with (first | (go_at_call 24; (with_reducible refine (has1 _).mono ?_); rintro e _ ⟨rfl, rfl⟩) | (go_at_call 24; (with_reducible refine (has2 _).mono ?_); rintro e _ ⟨rfl, rfl⟩))
        go_ret
        exact ⟨rfl, hbX.alloc hbX.size _⟩
      by_cases hft : f = t
      · obtain rfl : Z = false := by rw [Hst.out, hft]; simp
        have hfb : (f == t) = true := by simpa using hft
        clear hft
        go_wp2_with (first | (go_at_call 24; (with_reducible refine (has1 _).mono ?_); rintro e _ ⟨rfl, rfl⟩) | (go_at_call 24; (with_reducible refine (has2 _).mono ?_); rintro e _ ⟨rfl, rfl⟩))
        go_ret
        exact ⟨rfl, hbX.alloc hbX.size _⟩
      have hfb : (f == t) = false := by simpa using hft
      cases V4
      · obtain rfl : Z = false := by rw [Hst.out, HV4.out]; simp
        clear hft
        go_wp2_with (first | (go_at_call 24; (with_reducible refine (wi _).mono ?_); rintro e _ ⟨rfl, rfl⟩) | (go_at_call 24; (with_reducible refine (has1 _).mono ?_); rintro e _ ⟨rfl, rfl⟩) | (go_at_call 24; (with_reducible refine (has2 _).mono ?_); rintro e _ ⟨rfl, rfl⟩))
        go_ret
        exact ⟨rfl, hbX.alloc hbX.size _⟩
      have g1 := inR_iff.1 HV1.out
      have g2 := inR_iff.1 HV2.out
      have g4 := inR_iff.1 HV4.out
      obtain ⟨fN, rfl⟩ : ∃ fN : Nat, f = (fN : Int) := ⟨f.toNat, by omega⟩
      obtain ⟨tN, rfl⟩ : ∃ tN : Nat, t = (tN : Int) := ⟨t.toNat, by omega⟩
      have hnl := HLl.out
      have hfl : fN < L.length := by omega
      have htl : tN < L.length := by omega
      have hZ3 : Z = settlesF l.length (payF L ((fN : Int), (tN : Int), m)) (ps.drop (k + 1)) := by
        have := Hst.out
        rw [HV1.out, HV2.out, HV4.out] at this
        have e : ((fN : Int) != (tN : Int)) = true := by simpa using hft
        rw [e] at this
        simpa using this
      have hPF : payF L ((fN : Int), (tN : Int), m) = (L.set fN (L.getD fN 0 + m)).set tN ((L.set fN (L.getD fN 0 + m)).getD tN 0 - m) := by simp [payF]
      have hLt : (L.set fN (L.getD fN 0 + m)).getD tN 0 = L.getD tN 0 := by
        have : ¬ fN = tN := by omega
        simp [List.getElem?_set, this]
      have hbf := hB.at_ fN hfl
      have hbt := hB.at_ tN htl
      rw [hLt] at hPF
      obtain ⟨x, hxe⟩ : ∃ x, L.getD fN 0 = x := ⟨_, rfl⟩
      obtain ⟨y, hye⟩ : ∃ y, L.getD tN 0 = y := ⟨_, rfl⟩
      rw [hxe] at hPF hLt hbf
      rw [hye] at hPF hbt hLt
      have wA : IntKind.i64.wrap (x + m) = x + m := IntWalk.i64_in _ (by omega)
      have wB : IntKind.i64.wrap (y - m) = y - m := IntWalk.i64_in _ (by omega)
      have hfI : (fN : Int) < (l.length : Int) := by omega
      have htI : (tN : Int) < (l.length : Int) := by omega
      have hB2 : BdI ((L.set fN (x + m)).set tN (y - m)) (100000 * (k + 1 + 1 : Nat)) := (hB.set fN (x + m) _ (by push_cast; omega) (by push_cast; push_cast at hbf; omega)).set tN (y - m) _ (Int.le_refl _) (by push_cast; push_cast at hbt; omega)
      have HB2 := Lib.hid hB2
      have HZ3 := Lib.hid hZ3
      have HPF := Lib.hid hPF
      have HLt := Lib.hid hLt
      have Hft := Lib.hid hft
      have Hxe := Lib.hid hxe
      clear hft hB2 hZ3 hPF hLt hxe hye hnl g1 g2 hB
      have C3 := Cells.new X #[.int .i64 (fN : Int), .int .i64 (tN : Int), .int .i64 m] 113
      have bC : Below X.heap.size X (X.alloc (.cells #[.int .i64 (fN : Int), .int .i64 (tN : Int), .int .i64 m] 113)) := (Below.refl _ _).alloc (Nat.le_refl _) _
      obtain ⟨X4, hX4⟩ : ∃ z : World, z = X.alloc (.cells #[.int .i64 (fN : Int), .int .i64 (tN : Int), .int .i64 m] 113) := ⟨_, rfl⟩
      rw [← hX4] at C3 bC
      go_wp2_with (first | (go_at_call 24; (with_reducible refine (wi _).mono ?_); rintro e _ ⟨rfl, rfl⟩) | (go_at_call 24; (with_reducible refine (has1 _).mono ?_); rintro e _ ⟨rfl, rfl⟩) | (go_at_call 24; (with_reducible refine (has2 _).mono ?_); rintro e _ ⟨rfl, rfl⟩))
      rw [← hX4]
      clear hX4 p0 p1 p2
      have hR4 := hR.below bC
      have bX4 := hbX.trans (bC.mono hbX.size)
      have hgX : X.heap.size ≠ g := by have := hR.lt; omega
      have cf := hR4.cell hfl
      rw [Hxe.out] at cf
      have gl := hR4.lt
      have y0 := C3.cell 0
      have y2 := C3.cell 2
      have yl := C3.lt
      simp at y0 y2
      (refine wp_region_seq 9 [] [9] 80 [true, true, true, true, true, true, true, true, true] [] (by kernel_rfl) (by kernel_rfl) rfl mono_nil ?_; simp only [pickOps, List.filterMap_cons, List.filterMap_nil, List.getElem?_toArray, List.getElem?_cons_succ, List.getElem?_cons_zero]; (repeat (refine wpFl_step _ rfl (fun w => (by go_simp; rfl)) ?_)); refine wpFl_nil ?_; simp only [maskOps, dummy, Act.put, List.setIfInBounds_toArray, List.set_cons_zero, List.set_cons_succ, List.take_succ_cons, List.take_zero, List.drop_succ_cons, List.drop_zero]; (repeat (refine wpQB_step (fun K hK => ?_); go_simp; first | (refine hK _ ?_; clear hK K) | (apply Exists.intro; refine ⟨fun ex => ?_, hK _ ?_⟩; (fail); clear hK K))); refine wpQB_nil ?_; simp only [relObl2, under, relEnd, and_true, List.nil_append, List.cons_append])
      refine ⟨trivial, fun e => ?_⟩
      have b5 := e.below
      obtain ⟨w5, hw5⟩ : ∃ x : World, x = e.to := ⟨_, rfl⟩
      rw [← hw5] at b5 ⊢
      clear hw5 e
      have cf5 := below_cell b5 cf
      have ff5 := (hR4.below b5).frozen fN
      have C5 := C3.below b5
      have gl5 := Nat.lt_of_lt_of_le gl b5.size
      clear cf y0 y2 yl
      go_upto_region 9 with fail
      obtain ⟨W6, hW6⟩ : ∃ z : World, z = w5.setCell ⟨g, fN, none⟩ (.int .i64 (x + m)) := ⟨_, rfl⟩
      have hR6 : RowI W6 g (L.set fN (x + m)) := by rw [hW6]; exact (hR4.below b5).set fN _
      have C6 : Cells W6 X.heap.size #[.int .i64 (fN : Int), .int .i64 (tN : Int), .int .i64 m] 113 := by rw [hW6]; exact C5.other hgX _ _
      have b6 : Below w.heap.size w W6 := by rw [hW6]; exact (bX4.trans (b5.mono bX4.size)).setCell (p := ⟨g, fN, none⟩) hgb _
      rw [← hW6]
      have ct := hR6.cell (k := tN) (by simpa using htl)
      rw [HLt.out] at ct
      have gl6 := hR6.lt
      have y1 := C6.cell 1
      have y2 := C6.cell 2
      have yl := C6.lt
      simp at y1 y2
      clear hW6 cf5 ff5 C5 gl5
      (refine wp_region_seq 9 [] [9] 80 [true, true, true, true, true, true, true, true, true] [] (by kernel_rfl) (by kernel_rfl) rfl mono_nil ?_; simp only [pickOps, List.filterMap_cons, List.filterMap_nil, List.getElem?_toArray, List.getElem?_cons_succ, List.getElem?_cons_zero]; (repeat (refine wpFl_step _ rfl (fun w => (by go_simp; rfl)) ?_)); refine wpFl_nil ?_; simp only [maskOps, dummy, Act.put, List.setIfInBounds_toArray, List.set_cons_zero, List.set_cons_succ, List.take_succ_cons, List.take_zero, List.drop_succ_cons, List.drop_zero]; (repeat (refine wpQB_step (fun K hK => ?_); go_simp; first | (refine hK _ ?_; clear hK K) | (apply Exists.intro; refine ⟨fun ex => ?_, hK _ ?_⟩; (fail); clear hK K))); refine wpQB_nil ?_; simp only [relObl2, under, relEnd, and_true, List.nil_append, List.cons_append])
      refine ⟨trivial, fun e => ?_⟩
      have b7 := e.below
      obtain ⟨w7, hw7⟩ : ∃ x : World, x = e.to := ⟨_, rfl⟩
      rw [← hw7] at b7 ⊢
      clear hw7 e
      have ct7 := below_cell b7 ct
      have hR7 := hR6.below b7
      have ff7 := hR7.frozen tN
      have gl7 := hR7.lt
      have b17 := b6.trans (b7.mono b6.size)
      clear ct y1 y2 yl
      go_wp2
      go_roundw
      case rel => exact ⟨k + 1, (L.set fN (x + m)).set tN (y - m), by omega, by go_num, by simp only [List.length_set]; exact HLl.out, hR7.set tN _, HB2.out, b17.setCell (p := ⟨g, tN, none⟩) hgb _, by rw [← HPF.out]; exact HZ3.out.symm⟩
      case measure => simp [intOf]; omega
    · obtain rfl : k = ps.length := by omega
      have hZ3 : L.all (· == 0) = Z := by
        have := Hs.out
        rw [List.drop_length] at this
        exact this
      have HZ3 := Lib.hid hZ3
      clear hZ3 hLl
      go_wp2
      go_loopw [8] (fun u Y => ∃ j : Nat, j ≤ l.length ∧ u = .int .i64 j ∧ Y = X ∧ (L.take j).all (· == 0) = true) (fun u _ => l.length - (intOf u).toNat)
      case atStart => exact ⟨0, Nat.zero_le _, rfl, rfl, rfl⟩
      case round =>
        obtain ⟨j, hj, rfl, rfl, hall⟩ := hrel
        have Hall := Lib.hid hall
        clear hall
        by_cases hjl : j < l.length
        · have hjI : (j : Int) < (l.length : Int) := by omega
          have hjL : j < L.length := by rw [HLl.out]; exact hjl
          have cx := hR.cell hjL
          have gl := hR.lt
          have htk : (L.take (j + 1)).all (· == 0) = ((L.take j).all (· == 0) && (L.getD j 0 == 0)) := by
            rw [List.take_succ_eq_append_getElem hjL, List.all_append]
            simp [hjL]
          obtain ⟨x, hxe⟩ : ∃ x, L.getD j 0 = x := ⟨_, rfl⟩
          rw [hxe] at cx htk
          have Hxe := Lib.hid hxe
          clear hxe
          by_cases hx0 : x = 0
          · have hb0 : (x != 0) = false := by simpa using hx0
            have Htk : Hid ((L.take (j + 1)).all (· == 0) = true) := Lib.hid (by rw [htk, Hall.out, hx0]; rfl)
            clear htk hx0
            go_wp2
            go_roundw
            case rel => exact ⟨j + 1, by omega, by go_num, by trivial, Htk.out⟩
            case measure => simp [intOf]; omega
          · have hb0 : (x != 0) = true := by simpa using hx0
            obtain rfl : Z = false := by
              rw [← HZ3.out, List.all_eq_false]
              exact ⟨L.getD j 0, getD_mem' hjL, by rw [Hxe.out]; simpa using hx0⟩
            clear htk hx0 HZ3
            go_wp2
            go_ret
            exact ⟨rfl, hbX⟩
        · obtain rfl : j = l.length := by omega
          obtain rfl : Z = true := by
            have := Hall.out
            rw [← HLl.out, List.take_length] at this
            rw [← HZ3.out, this]
          clear HZ3
          go_wp2
          go_ret
          exact ⟨rfl, hbX⟩
end
end Go.Proofs.Ytomjlmhnjgohdaa
