/- pay: the words that fit a claim, in a list of their own -/
import Derived.Test.YtomjlmhnjgohdaaAr
import Derived.Deep.Cut
namespace Go.Proofs.Ytomjlmhnjgohdaa
set_option linter.unusedVariables false
set_option linter.unusedSimpArgs false
set_option linter.unnecessarySimpa false
open Go.RowKit Go.Flow Go.Shelf

section
variable (st rate keeps : Int) (ds : List Dis) (ad : Option Addr) (cd : Nat) (i : Nat) (cs cp : Int) (w : World) (hd : DisAt w ad ds) (sm : AccSmall ⟨st, rate, keeps, ds⟩)
include hd sm
set_option maxRecDepth 100000 in
set_option maxHeartbeats 4000000 in
theorem Words_own (h0 : accErr ⟨st, rate, keeps, ds⟩ = 0) (hi : i < ds.length) : Calls Try.prog 29 #[.agg #[.int .i64 st, .int .i64 rate, .int .i64 keeps, .slice ad ds.length cd], .agg #[.int .i64 (i : Int), .int .i64 cs, .int .i64 cp]] w fun e w' => (∃ a c, e = .returned (.tuple #[.slice a (wordsOut rate keeps ds[i] cs cp).length c, .int .i64 (wordsErr rate keeps ds[i] cs cp)]) ∧ OwnL 3 1 w.heap.size w' a c (wordsOut rate keeps ds[i] cs cp).length ((wordsOut rate keeps ds[i] cs cp).map (Value.int .i64))) ∧ Below w.heap.size w w' := by
  have G := good_of h0
  simp only at G
  have hn6 := G.n
  have hGw := G.w _ (List.getElem_mem hi)
  have hGp := G.p _ (List.getElem_mem hi)
  have hiI : (i : Int) < (ds.length : Int) := by omega
  have wk := fun W (b : Below w.heap.size w W) => work_ok st rate keeps ds ad cd W (hd.below b) sm h0
  have C0 := (Cells.new w #[.int .i64 st, .int .i64 rate, .int .i64 keeps, .slice ad ds.length cd] 32).alloc (.cells #[.int .i64 (i : Int), .int .i64 cs, .int .i64 cp] 52)
  have D0 := Cells.new' (w.alloc (.cells #[.int .i64 st, .int .i64 rate, .int .i64 keeps, .slice ad ds.length cd] 32)) #[.int .i64 (i : Int), .int .i64 cs, .int .i64 cp] 52 (w.heap.size + 1) (by simp)
  have wl : IntKind.i64.wrap ((ds.length : Int) - 1) = (ds.length : Int) - 1 := IntWalk.i64_in _ (by omega)
  have wt := within_any (i : Int) 0 ((ds.length : Int) - 1)
  rw [show inR (i : Int) 0 ((ds.length : Int) - 1) = true from inR_iff.2 (by omega)] at wt
  have hO : wordsOut rate keeps ds[i] cs cp = if idxF ds[i].passed cs < 0 then [] else fitsL rate keeps ds[i] (idxF ds[i].passed cs).toNat cp (ds[i].hi - ds[i].lo + 1).toNat := rfl
  have hE : wordsErr rate keeps ds[i] cs cp = if idxF ds[i].passed cs < 0 then 7 else err11 (fitsL rate keeps ds[i] (idxF ds[i].passed cs).toNat cp (ds[i].hi - ds[i].lo + 1).toNat) := rfl
  obtain ⟨O, hOO⟩ : ∃ O, wordsOut rate keeps ds[i] cs cp = O := ⟨_, rfl⟩
  obtain ⟨E, hEE⟩ : ∃ E, wordsErr rate keeps ds[i] cs cp = E := ⟨_, rfl⟩
  rw [hOO] at hO ⊢
  rw [hEE] at hE ⊢
  clear hOO hEE
  have hib := idxF_bd ds[i].passed cs
  have hsb := fun (x : Int) (hx : 1 ≤ x ∧ x ≤ 200) => shares_bd (k := ds[i].passed.length) G.r G.k hx hGp.1
  have HO := Lib.hid hO
  have HE := Lib.hid hE
  have Hsb := Lib.hid hsb
  clear hO hE hsb
  go_enter Try.func29, Try.ntmps29
  go_wp2_with fail
  go_at_call 56
  refine (wk _ (by (repeat (first | exact Below.refl _ _ | refine Below.alloc ?_ (by first | omega | (simp; done) | (simp; omega)) _ | refine Below.drew ?_ | refine Below.setCell ?_ (by first | omega | (simp; done) | (simp; omega)) _ | refine Below.trans ?_ (Below.mono (by assumption) (by first | omega | (simp; done) | (simp; omega))))))).mono ?_
  rintro e w1 ⟨⟨B, bm, rfl, lB, lb, hw, hM⟩, b1⟩
  have t1 : Below w.heap.size w w1 := by (repeat (first | exact Below.refl _ _ | refine Below.alloc ?_ (by first | omega | (simp; done) | (simp; omega)) _ | refine Below.drew ?_ | refine Below.setCell ?_ (by first | omega | (simp; done) | (simp; omega)) _ | refine Below.trans ?_ (Below.mono (by assumption) (by first | omega | (simp; done) | (simp; omega)))))
  have lb' : w.heap.size ≤ bm := by simp at lb; omega
  clear lB lb wk
  have hshr := fun (x : Int) (n : Nat) (W : World) (kW : Keep bm w1 W) av hav hM hx hn => shares_any B bm st rate keeps ds ad cd i x n W (hw.keep kW) ((hd.below t1).keep kW) av hav hM hi G.r G.k hx hGp (by omega) hn
  have C1 := C0.below b1
  have D1 := D0.below b1
  have q3 := C1.cell 3
  have lq := C1.lt
  have d0 := D1.cell 0
  have d1 := D1.cell 1
  have d2 := D1.cell 2
  have ld := D1.lt
  simp at q3 d0 d1 d2
  obtain ⟨bd, od, al, cl, rfl, hbd, e0, e1, e2, e3, hPa⟩ := (hd.below t1) i hi
  obtain ⟨d, hde⟩ : ∃ d, ds[i] = d := ⟨_, rfl⟩
  have HO2 : Hid (O = if idxF d.passed cs < 0 then [] else fitsL rate keeps d (idxF d.passed cs).toNat cp (d.hi - d.lo + 1).toNat) := Lib.hid (by rw [← hde]; exact HO.out)
  have HE2 : Hid (E = if idxF d.passed cs < 0 then 7 else err11 (fitsL rate keeps d (idxF d.passed cs).toNat cp (d.hi - d.lo + 1).toNat)) := Lib.hid (by rw [← hde]; exact HE.out)
  have Hsb2 : Hid (∀ x : Int, 1 ≤ x ∧ x ≤ 200 → ∀ v ∈ sharesF rate keeps d.passed.length x, 0 ≤ v ∧ v ≤ 8001) := Lib.hid (by rw [← hde]; exact Hsb.out)
  simp only [hde] at hshr
  rw [hde] at e0 e1 e2 e3 hPa hib hGw hGp
  clear HO HE Hsb hde
  obtain ⟨py, lo, hi2, l⟩ := d
  dsimp only at e0 e1 e2 e3 hPa hib hGw hGp hshr
  obtain ⟨W2, hW2⟩ : ∃ z : World, z = w1.alloc (.cells #[.int .i64 py, .int .i64 lo, .int .i64 hi2, .slice al l.length cl] 93) := ⟨_, rfl⟩
  have b2 : Below w1.heap.size w1 W2 := by rw [hW2]; exact (Below.refl _ _).alloc (Nat.le_refl _) _
  have CD : Cells W2 w1.heap.size #[.int .i64 py, .int .i64 lo, .int .i64 hi2, .slice al l.length cl] 93 := by rw [hW2]; exact Cells.new _ _ _
  have t2 := t1.trans (b2.mono t1.size)
  have iU := (hPa.below b2).at_
  have idx := index_any al l cl cs W2 (by omega) iU
  obtain ⟨ix, hix⟩ : ∃ ix, idxF l cs = ix := ⟨_, rfl⟩
  have ho := HO2.out
  have he := HE2.out
  dsimp only at ho he
  rw [hix] at hib ho he
  rw [show idxBy (fun y => cs == y) l 0 = ix from hix] at idx
  have HO := Lib.hid ho
  have HE := Lib.hid he
  clear ho he HO2 HE2 hix
  have C2 := C1.below b2
  have D2 := D1.below b2
  have f0 := D2.cell 0
  have f1 := D2.cell 1
  have f2 := D2.cell 2
  have lf := D2.lt
  have y1 := CD.cell 1
  have y2 := CD.cell 2
  have y3 := CD.cell 3
  have yl := CD.lt
  simp at f0 f1 f2 y1 y2 y3
  go_upto_region 7 with (first
    | (go_at_call 55; (with_reducible refine (wt _).mono ?_); rintro e _ ⟨rfl, rfl⟩)
    | fail)
  rw [← hW2]
  clear hW2
  go_wp2_with fail
  go_at_call 63
  refine idx.mono ?_
  rintro e _ ⟨rfl, rfl⟩
  by_cases h9 : ix < 0
  · have hd9 : decide (ix < 0) = true := by simpa using h9
    obtain rfl : O = [] := by rw [HO.out, if_pos h9]
    obtain rfl : E = 7 := by rw [HE.out, if_pos h9]
    clear HO HE
    go_wp2
    go_ret2
    first | exact ⟨⟨none, 0, rfl, OwnL.nil _ _ _ _⟩, t2⟩ | exact ⟨⟨none, ⟨0, rfl, OwnL.nil _ _ _ _⟩⟩, t2⟩ | exact ⟨⟨none, ⟨0, rfl⟩, OwnL.nil _ _ _ _⟩, t2⟩
  · obtain ⟨j, rfl⟩ : ∃ j : Nat, ix = (j : Int) := ⟨ix.toNat, by omega⟩
    have hjl : j < l.length := by omega
    have hjI : (j : Int) < (l.length : Int) := by omega
    have hd9 : decide ((j : Int) < 0) = false := by simp
    obtain ⟨m, hm⟩ : ∃ m : Nat, hi2 - lo + 1 = (m : Int) := ⟨(hi2 - lo + 1).toNat, by omega⟩
    have ho := HO.out
    have he := HE.out
    rw [if_neg h9, hm] at ho he
    simp only [Int.toNat_natCast] at ho he
    have HO2 := Lib.hid ho
    have HE2 := Lib.hid he
    have m200 : m ≤ 200 := by omega
    have him : hi2 = lo + (m : Int) - 1 := by omega
    subst him
    have wm : IntKind.i64.wrap (lo + (m : Int) - 1 - lo) = (m : Int) - 1 := by rw [IntWalk.i64_in _ (by omega)]; omega
    have wm2 : IntKind.i64.wrap ((m : Int) - 1 + 1) = (m : Int) := by rw [IntWalk.i64_in _ (by omega)]; omega
    clear ho he HO HE hm h9
    have hMk := hM.below b2
    have k0 : Keep bm w1 W2 := Keep.of_below hM.isMap b2
    go_wp2
    go_loopw [10, 11, 12, 52] (fun u _ _ k X => ∃ (s : Nat) (ao : Option Addr) (co : Nat), s ≤ m ∧ k = .int .i64 s ∧ u = .slice ao (fitsL rate keeps ⟨py, lo, lo + (m : Int) - 1, l⟩ j cp s).length co ∧ OwnL 3 1 W2.heap.size X ao co (fitsL rate keeps ⟨py, lo, lo + (m : Int) - 1, l⟩ j cp s).length ((fitsL rate keeps ⟨py, lo, lo + (m : Int) - 1, l⟩ j cp s).map (Value.int .i64)) ∧ Keep bm W2 X ∧ MemoL X bm s (shF rate keeps ds) [(Value.slice ao (fitsL rate keeps ⟨py, lo, lo + (m : Int) - 1, l⟩ j cp s).length co).ownBlock]) (fun _ _ _ k _ => m - (intOf k).toNat)
    case atStart => exact ⟨0, none, 0, Nat.zero_le _, rfl, rfl, (OwnL.nil _ _ _ _ : OwnL 3 1 W2.heap.size W2 none 0 0 []), Keep.refl hMk.isMap, by have := hMk.avoid (av' := [(Value.slice none 0 0).ownBlock]) (fun q e => by simp [Value.ownBlock] at e); exact this⟩
    case round =>
      obtain ⟨s, ao, co, hs, rfl, rfl, own, kp, hMs⟩ := hrel
      rename World => X
      have hob := own_block own hMs.isMap
      have hln := fitsL_len rate keeps ⟨py, lo, lo + (m : Int) - 1, l⟩ j cp s
      have hsu := fitsL_succ rate keeps ⟨py, lo, lo + (m : Int) - 1, l⟩ j cp s
      obtain ⟨q, hq⟩ : ∃ q, (fitsL rate keeps ⟨py, lo, lo + (m : Int) - 1, l⟩ j cp s) = q := ⟨_, rfl⟩
      rw [hq] at own hMs hob hln hsu ⊢
      by_cases hlt : s < m
      · have hsI : (s : Int) < (m : Int) := by omega
        obtain ⟨x, hx⟩ : ∃ x, lo + (s : Int) = x := ⟨_, rfl⟩
        have hxb : 1 ≤ x ∧ x ≤ 200 := by omega
        have wx : IntKind.i64.wrap (lo + (s : Int)) = x := by rw [hx]; exact IntWalk.i64_in _ (by omega)
        have hfit : fitB rate keeps ⟨py, lo, lo + (m : Int) - 1, l⟩ j cp (lo + (s : Int)) = ((sharesF rate keeps l.length x).getD j 0 == cp) := by rw [hx]; rfl
        have hsh := fun (W : World) (kW : Keep bm X W) (mW : MemoL W bm s (shF rate keeps ds) [(Value.slice ao q.length co).ownBlock]) => hshr x s W ((k0.trans kp).trans kW) _ (fun r e => Nat.lt_of_lt_of_le (hob.2 r (List.mem_singleton.1 e).symm).2 kW.size) mW hxb (by unfold maxLen; omega)
        have hlen := sharesF_len rate keeps l.length x
        obtain ⟨v, hv⟩ : ∃ v, (sharesF rate keeps l.length x).getD j 0 = v := ⟨_, rfl⟩
        rw [hv] at hfit
        simp only [show lo + (s : Int) = x from hx] at hsu
        rw [show fitB rate keeps ⟨py, lo, lo + (m : Int) - 1, l⟩ j cp x = (v == cp) by rw [← hx]; exact hfit] at hsu
        have g0 := kp.cell f0
        have g2 := kp.cell f2
        have gl := Nat.lt_of_lt_of_le lf kp.size
        have z1 := kp.cell y1
        have zl := Nat.lt_of_lt_of_le yl kp.size
        have Hsu := Lib.hid hsu
        have Hob := Lib.hid hob
        have Hx := Lib.hid hx
        have Hlen := Lib.hid hlen
        have Hv := Lib.hid hv
        have hj2 : j < (sharesF rate keeps l.length x).length := by rw [hlen]; exact hjl
        clear hsu hob hx hlen hv hfit hq
        have kk : Keep bm X X.drew := Keep.of_below hMs.isMap (Below.refl _ _).drew
        have mm := hMs.below (Below.refl _ _).drew
        go_wp2
        go_region_law (first | (go_simp; go_at_call 59; (with_reducible refine (hsh _ kk mm).mono ?_); rintro e w9 ⟨⟨g9, c9, rfl, i9⟩, k9, m9⟩; have g2' := (kk.trans k9).cell g2; obtain ⟨b8, o8, h8, l8, e8⟩ := i9 j hj2; cases h8; rw [Hv.out] at e8; simp only [Nat.zero_add] at e8) | fail)
        all_goals
          have k19 := kk.trans k9
          have kp5 := kp.trans k19
          have own5 := own.keep k19
          have ob5 := own_block own5 m9.isMap
          cases hV : v == cp
          · rw [hV] at Hsu
            go_wp2
            go_roundw
            case rel =>
              have e1 := Hsu.out
              simp only [Bool.false_eq_true, if_false, List.append_nil] at e1
              exact ⟨s + 1, ao, co, by omega, by go_num, by rw [e1], by rw [e1]; exact own5, kp5, by rw [e1]; exact m9⟩
            case measure => simp [intOf]; omega
          · rw [hV] at Hsu
            go_wp2_with (at_builtin; refine wpList_app_lit_av elInt rfl _ _ rfl W2.heap.size ao q.length co _ rfl own5 1 1 rfl rfl (fun u hu => by simp at hu; subst hu; rfl) (by unfold maxLen; omega) (by omega) kp5.size (by omega) ?_; intro a9 c8 U3 own6 hg6 hv6)
            have bl : Below w9.heap.size w9 (w9.alloc (.cells #[.int .i64 x] 3)) := (Below.refl _ _).alloc (Nat.le_refl _) _
            have M6 := (m9.below bl).turn hg6 ob5.1 hv6
            have kp6 := (kp5.below bl).own hg6 (fun q e => (ob5.2 q e).1) ob5.1
            go_wp2
            go_roundw
            case rel =>
              have e1 := Hsu.out
              simp only [if_true] at e1
              exact ⟨s + 1, a9, c8, by omega, by go_num, by rw [e1]; simp, by rw [e1, List.map_append]; simpa using own6, kp6, by rw [e1]; simpa using M6⟩
            case measure => simp [intOf]; omega
      · obtain rfl : s = m := by omega
        have i9 := own.base_le (base' := w.heap.size) t2.size
        have hkb := below_keep t2 kp lb'
        have ho := HO2.out
        have he := HE2.out
        rw [hq] at ho he
        subst ho
        have He := Lib.hid he
        clear he HO2 HE2 hq
        by_cases hz : O = []
        · subst hz
          obtain rfl : E = 11 := by rw [He.out]; rfl
          have hb0 : (((([] : List Int).length : Nat) : Int) == 0) = true := by simp
          go_wp2
          go_ret2
          first | exact ⟨⟨none, ⟨0, rfl⟩, OwnL.nil _ _ _ _⟩, hkb⟩ | exact ⟨⟨none, 0, rfl, OwnL.nil _ _ _ _⟩, hkb⟩
        · obtain rfl : E = 0 := by rw [He.out, err11, if_neg hz]
          have hb0 : ((O.length : Int) == 0) = false := by
            have : O.length ≠ 0 := fun e => hz (List.eq_nil_of_length_eq_zero e)
            simp; omega
          go_wp2
          go_ret2
          first | exact ⟨⟨ao, ⟨co, rfl⟩, i9⟩, hkb⟩ | exact ⟨⟨ao, co, rfl, i9⟩, hkb⟩
end
end Go.Proofs.Ytomjlmhnjgohdaa
