/- pay: by how much a dispatch changes a balance · pay: the balance of a station in a truth -/
import Derived.Test.YtaphfibfjepceaaAh
namespace Go.Proofs.Ytaphfibfjepceaa
set_option linter.unusedVariables false
set_option linter.unusedSimpArgs false
set_option linter.unnecessarySimpa false
open Go.RowKit Go.Flow Go.Shelf

theorem shares_bd {rate keeps : Int} {k : Nat} {x : Int} (hr : 0 ≤ rate ∧ rate ≤ 20) (hk : 0 ≤ keeps ∧ keeps ≤ 100) (hx : 1 ≤ x ∧ x ≤ 200) (hp : 1 ≤ k) : ∀ v ∈ sharesF rate keeps k x, 0 ≤ v ∧ v ≤ 8001 := by
  have hP0 : 0 ≤ x * rate := Int.mul_nonneg (by omega) hr.1
  have hP1 : x * rate ≤ 4000 := Int.le_trans (Int.mul_le_mul hx.2 hr.2 hr.1 (by omega)) (by decide)
  intro v hv
  unfold sharesF keptF at hv
  obtain ⟨P, hPe⟩ : ∃ P, x * rate = P := ⟨_, rfl⟩
  rw [hPe] at hP0 hP1 hv
  have hY0 : 0 ≤ P * keeps := Int.mul_nonneg hP0 hk.1
  have hY1 : P * keeps ≤ P * 100 := Int.mul_le_mul_of_nonneg_left hk.2 hP0
  obtain ⟨Y, hYe⟩ : ∃ Y, P * keeps = Y := ⟨_, rfl⟩
  rw [hYe] at hY0 hY1 hv
  obtain ⟨kp, hkp⟩ : ∃ kp, Y / 100 = kp := ⟨_, rfl⟩
  rw [hkp] at hv
  have hkp1 : 0 ≤ kp ∧ kp ≤ P := by omega
  have hba1 : 0 ≤ (P - kp) / (k : Int) ∧ (P - kp) / (k : Int) ≤ 4000 := ⟨Int.ediv_nonneg (by omega) (by omega), Int.le_trans (Int.ediv_le_self _ (by omega)) (by omega)⟩
  obtain ⟨b, hb⟩ : ∃ b, (P - kp) / (k : Int) = b := ⟨_, rfl⟩
  rw [hb] at hba1 hv
  simp only [List.mem_map] at hv
  obtain ⟨i, _, rfl⟩ := hv
  constructor <;> (split <;> split <;> omega)
def idxF (l : List Int) (s : Int) : Int := idxBy (fun y => s == y) l 0
def chF (rate keeps : Int) (d : Dis) (x s : Int) : Int :=
  (if d.payer = s then - (x * rate) else 0) + (if 0 ≤ idxF d.passed s then (sharesF rate keeps d.passed.length x).getD (idxF d.passed s).toNat 0 else 0)
theorem idx_lt (l : List Int) (s : Int) : ∀ (k : Nat), idxBy (fun y => s == y) (l.drop k) k < (l.length : Int) ∨ l.length < k := by
  intro k
  by_cases h : k < l.length
  · have := idxBy_le (fun y => s == y) (l.drop k) k
    left
    have e : (l.drop k).length = l.length - k := by simp
    have aux : ∀ (xs : List Int) (j : Nat), idxBy (fun y => s == y) xs j < (j : Int) + xs.length ∨ xs = [] := by
      intro xs
      induction xs with
      | nil => intro j; exact .inr rfl
      | cons a t ih =>
        intro j
        left
        simp only [idxBy, List.length_cons]
        split
        · omega
        · rcases ih (j + 1) with h1 | h1
          · omega
          · subst h1; simp [idxBy]; omega
    rcases aux (l.drop k) k with h1 | h1
    · omega
    · have := congrArg List.length h1
      simp at this; omega
  · by_cases h2 : l.length < k
    · exact .inr h2
    · left
      rw [List.drop_of_length_le (by omega)]
      simp [idxBy]; omega
theorem idxF_bd (l : List Int) (s : Int) : -1 ≤ idxF l s ∧ idxF l s < (l.length : Int) := by
  refine ⟨(idxBy_le _ l 0).1, ?_⟩
  rcases idx_lt l s 0 with h | h
  · simpa [idxF] using h
  · omega

section
variable (B bm : Nat) (st rate keeps : Int) (ds : List Dis) (ad : Option Addr) (cd : Nat) (i : Nat) (x s : Int) (n : Nat) (w : World) (hw : WkAt w B bm st rate keeps ad ds.length cd) (hd : DisAt w ad ds) (av : List (Option Nat)) (hav : ∀ q, some q ∈ av → q < w.heap.size) (hM : MemoL w bm n (shF rate keeps ds) av) (hi : i < ds.length) (hr : 0 ≤ rate ∧ rate ≤ 20) (hk : 0 ≤ keeps ∧ keeps ≤ 100) (hx : 1 ≤ x ∧ x ≤ 200) (hp : 1 ≤ ds[i].passed.length ∧ ds[i].passed.length ≤ 5) (hl : ds.length ≤ 1000) (hn : n < maxLen)
include hav hw hd hM hi hr hk hx hp hl hn
set_option maxRecDepth 100000 in
set_option maxHeartbeats 4000000 in
theorem change_any : Calls Try.prog 53 #[.pointer (some ⟨B, 0, none⟩), .agg #[.int .i64 (i : Int), .int .i64 x], .int .i64 s] w fun e w' => e = .returned (.int .i64 (chF rate keeps ds[i] x s)) ∧ Keep bm w w' ∧ MemoL w' bm (n + 1) (shF rate keeps ds) av := by
  obtain ⟨W1, hW1⟩ : ∃ z : World, z = w.alloc (.cells #[.int .i64 (i : Int), .int .i64 x] 91) := ⟨_, rfl⟩
  have t1 : Below w.heap.size w W1 := by rw [hW1]; (repeat (first | exact Below.refl _ _ | refine Below.alloc ?_ (by first | omega | (simp; done) | (simp; omega)) _ | refine Below.drew ?_ | refine Below.setCell ?_ (by first | omega | (simp; done) | (simp; omega)) _ | refine Below.trans ?_ (Below.mono (by assumption) (by first | omega | (simp; done) | (simp; omega)))))
  have CP : Cells W1 w.heap.size #[.int .i64 (i : Int), .int .i64 x] 91 := by rw [hW1]; exact Cells.new _ _ _
  have K1 := hw.below t1
  have q3 := K1.c3
  have lB := K1.lt
  have p0 := CP.cell 0
  have lp := CP.lt
  simp at p0
  obtain ⟨bd, od, al, cl, rfl, hbd, e0, e1, e2, e3, hPa⟩ := (hd.below t1) i hi
  have hsb := shares_bd (k := ds[i].passed.length) hr hk hx hp.1
  have hib := idxF_bd ds[i].passed s
  have hsh := fun (n : Nat) (W : World) (b : Below w.heap.size w W) (h : n < maxLen) (hm : MemoL W bm n (shF rate keeps ds) av) => shares_any B bm st rate keeps ds (some ⟨bd, od, none⟩) cd i x n W (hw.below b) (hd.below b) av (fun q e => Nat.lt_of_lt_of_le (hav q e) b.size) hm hi hr hk hx hp hl h
  have hP0 : 0 ≤ x * rate := Int.mul_nonneg (by omega) hr.1
  have hP1 : x * rate ≤ 4000 := Int.le_trans (Int.mul_le_mul hx.2 hr.2 hr.1 (by omega)) (by decide)
  have wP : IntKind.i64.wrap (x * rate) = x * rate := IntWalk.i64_in _ (by omega)
  have wN : IntKind.i64.wrap (0 - x * rate) = - (x * rate) := by rw [IntWalk.i64_in _ (by omega)]; omega
  have hch : chF rate keeps ds[i] x s = (if ds[i].payer = s then - (x * rate) else 0) + (if 0 ≤ idxF ds[i].passed s then (sharesF rate keeps ds[i].passed.length x).getD (idxF ds[i].passed s).toNat 0 else 0) := rfl
  obtain ⟨d, hde⟩ : ∃ d, ds[i] = d := ⟨_, rfl⟩
  rw [hde] at e0 e1 e2 e3 hPa hsb hib hsh hp hch ⊢
  obtain ⟨py, lo, hi2, l⟩ := d
  dsimp only at e0 e1 e2 e3 hPa hsb hib hsh hp hch
  have Hch := Lib.hid hch
  clear hch
  have hiI : (i : Int) < (ds.length : Int) := by omega
  go_enter Try.func53, Try.ntmps53
  go_wp2
  rw [← hW1]
  clear hW1
  (refine wp_region_seq 10 [] [10] 47 [true, true, true, true, true, true, true, true, true, false] [PtrV W1.heap.size #[.int .i64 0, .int .i64 0, .int .i64 0, .slice none 0 0] 67] (by kernel_rfl) (by kernel_rfl) rfl (mono_cons (fun v w w' h hb => h.kept hb) mono_nil) ?_; simp only [pickOps, List.filterMap_cons, List.filterMap_nil, List.getElem?_toArray, List.getElem?_cons_succ, List.getElem?_cons_zero]; (repeat (refine wpFl_step _ rfl (fun w => (by go_simp; rfl)) ?_)); refine wpFl_nil ?_; simp only [maskOps, dummy, Act.put, List.setIfInBounds_toArray, List.set_cons_zero, List.set_cons_succ, List.take_succ_cons, List.take_zero, List.drop_succ_cons, List.drop_zero]; (repeat (refine wpQB_step (fun K hK => ?_); go_simp; first | (refine hK _ ?_; clear hK K) | (apply Exists.intro; refine ⟨fun ex => ?_, hK _ ?_⟩; (fail); clear hK K))); refine wpQB_nil ?_; simp only [relObl2, under, relEnd, and_true, List.nil_append, List.cons_append])
  refine ⟨fun e => ?_, fun e => ?_⟩
  · go_simp
    exact ⟨(Below.refl _ _).alloc (Nat.le_refl _) _, e.to.heap.size, rfl, e.size, Cells.new _ _ _⟩
  rintro v1 ⟨g7, rfl, hg7, C7⟩
  simp only [Act.put, List.setIfInBounds_toArray, List.set_cons_zero, List.set_cons_succ]
  have b2 := e.below
  obtain ⟨W2, hW2⟩ : ∃ z : World, z = e.to := ⟨_, rfl⟩
  rw [← hW2] at b2 C7 ⊢
  clear hW2 e
  have y0 := C7.cell 0
  have y1 := C7.cell 1
  have y2 := C7.cell 2
  have y3 := C7.cell 3
  have f0 := C7.frozen 0
  have f1 := C7.frozen 1
  have f2 := C7.frozen 2
  have f3 := C7.frozen 3
  have yl := C7.lt
  simp at y0 y1 y2 y3
  go_upto_region 2 with fail
  obtain ⟨W3, hW3⟩ : ∃ z : World, z = (((W2.setCell ⟨g7, 0, none⟩ (.int .i64 py)).setCell ⟨g7, 1, none⟩ (.int .i64 lo)).setCell ⟨g7, 2, none⟩ (.int .i64 hi2)).setCell ⟨g7, 3, none⟩ (.slice al l.length cl) := ⟨_, rfl⟩
  have b3 : Below W1.heap.size W1 W3 := by rw [hW3]; exact (((b2.setCell (p := ⟨g7, 0, none⟩) hg7 _).setCell (p := ⟨g7, 1, none⟩) hg7 _).setCell (p := ⟨g7, 2, none⟩) hg7 _).setCell (p := ⟨g7, 3, none⟩) hg7 _
  have C3 : Cells W3 g7 #[.int .i64 py, .int .i64 lo, .int .i64 hi2, .slice al l.length cl] 67 := by rw [hW3]; exact (((C7.set 0 _).set 1 _).set 2 _).set 3 _
  rw [← hW3]
  clear hW3 y0 y1 y2 y3 f0 f1 f2 f3 yl C7 b2 e0 e1 e2 e3 p0 lp q3 lB
  have z0 := C3.cell 0
  have zl := C3.lt
  simp at z0
  have hlb : l.length ≤ 1000 := by omega
  cases hps : (py == s)
  · have hpn : ¬ (py = s) := by simpa using hps
    have bU := b3
    have UC := C3

    have CU := UC
    have K5 := K1.below bU
    have tU := t1.trans (bU.mono t1.size)
    have MU := hM.below tU
    have y0 := CU.cell 0
    have y3 := CU.cell 3
    have yl := CU.lt
    simp at y0 y3
    have pU0 := below_cell bU (CP.cell 0)
    have pU1 := below_cell bU (CP.cell 1)
    have lpU := Nat.lt_of_lt_of_le CP.lt bU.size
    simp at pU0 pU1
    have iU := (hPa.below bU).at_
    have idx := index_any al l cl s W3 (by omega) iU
    obtain ⟨ix, hix⟩ : ∃ ix, idxF l s = ix := ⟨_, rfl⟩
    have hib' := hib
    have hch := Hch.out
    rw [hix] at hib' hch
    rw [show idxBy (fun y => s == y) l 0 = ix from hix] at idx
    have Hch2 := Lib.hid hch
    clear hch hix
    go_wp2_with fail
    go_at_call 40
    refine idx.mono ?_
    rintro e _ ⟨rfl, rfl⟩
    by_cases h0 : 0 ≤ ix
    · obtain ⟨j, rfl⟩ : ∃ j : Nat, ix = (j : Int) := ⟨ix.toNat, by omega⟩
      have hjl : j < l.length := by omega
      have hjI : (j : Int) < (l.length : Int) := by omega
      go_wp2_with fail
      go_at_call 39
      refine (hsh n W3 tU hn MU).mono ?_
      rintro e U2 ⟨⟨g, c, rfl, hI⟩, k2, M2⟩
      have hlen := sharesF_len rate keeps l.length x
      obtain ⟨b9, o9, h9, lb9, c9⟩ := hI j (by rw [hlen]; exact hjl)
      cases h9
      obtain ⟨v, hv⟩ : ∃ v, (sharesF rate keeps l.length x).getD j 0 = v := ⟨_, rfl⟩
      rw [hv] at c9
      have hvb : 0 ≤ v ∧ v ≤ 8001 := by
        rw [← hv]
        have hjs : j < (sharesF rate keeps l.length x).length := by rw [hlen]; exact hjl
        rw [show (sharesF rate keeps l.length x).getD j 0 = (sharesF rate keeps l.length x)[j] by simp [hjs]]
        exact hsb _ (List.getElem_mem hjs)
      have wS : IntKind.i64.wrap (0 + v) = 0 + v := IntWalk.i64_in _ (by omega)
      simp at c9
      go_wp2
      go_ret
      refine ⟨?_, (Keep.of_below hM.isMap tU).trans k2, M2⟩
      refine ret_n ?_
      rw [Hch2.out, if_pos h0, Int.toNat_natCast, hv]
      rw [if_neg hpn]
      try omega
    · go_wp2
      go_ret
      refine ⟨?_, Keep.of_below hM.isMap tU, MU.mono (by omega)⟩
      refine ret_n ?_
      rw [Hch2.out, if_neg (show ¬ (0 ≤ ix) by omega)]
      rw [if_neg hpn]
      try omega
  · have hpy : py = s := by simpa using hps
    have q1 := below_cell b3 K1.c1
    have lB3 := cell_ltK q1
    have p1 := below_cell b3 (CP.cell 1)
    have lp3 := Nat.lt_of_lt_of_le CP.lt b3.size
    simp at p1
    go_wp2
    (refine wp_region_ext 10 (by kernel_rfl) (by kernel_rfl) ?_; simp only [List.take_succ_cons, List.take_zero, List.drop_succ_cons, List.drop_zero]; (repeat (go_big_quiet_step ((fail)))); refine wpQuiet_nil ?_; rintro _ ⟨ex, rfl⟩; have hex := ex.below; have hexz := ex.size; (try simp at hexz); (try (have hy0 : w.heap.size < ex.to.heap.size := by omega)); (try (have hy1 : w.heap.size + 1 < ex.to.heap.size := by omega)); (try (have hy2 : w.heap.size + 2 < ex.to.heap.size := by omega)))
    have b4 := ex.below
    obtain ⟨W4, hW4⟩ : ∃ z : World, z = ex.to := ⟨_, rfl⟩
    rw [← hW4] at b4 ⊢
    clear hW4 q1 lB3 p1 lp3
    have bU := b3.trans (b4.mono b3.size)
    have UC := C3.below b4

    have CU := UC
    have K5 := K1.below bU
    have tU := t1.trans (bU.mono t1.size)
    have MU := hM.below tU
    have y0 := CU.cell 0
    have y3 := CU.cell 3
    have yl := CU.lt
    simp at y0 y3
    have pU0 := below_cell bU (CP.cell 0)
    have pU1 := below_cell bU (CP.cell 1)
    have lpU := Nat.lt_of_lt_of_le CP.lt bU.size
    simp at pU0 pU1
    have iU := (hPa.below bU).at_
    have idx := index_any al l cl s W4 (by omega) iU
    obtain ⟨ix, hix⟩ : ∃ ix, idxF l s = ix := ⟨_, rfl⟩
    have hib' := hib
    have hch := Hch.out
    rw [hix] at hib' hch
    rw [show idxBy (fun y => s == y) l 0 = ix from hix] at idx
    have Hch2 := Lib.hid hch
    clear hch hix
    go_wp2_with fail
    go_at_call 40
    refine idx.mono ?_
    rintro e _ ⟨rfl, rfl⟩
    by_cases h0 : 0 ≤ ix
    · obtain ⟨j, rfl⟩ : ∃ j : Nat, ix = (j : Int) := ⟨ix.toNat, by omega⟩
      have hjl : j < l.length := by omega
      have hjI : (j : Int) < (l.length : Int) := by omega
      go_wp2_with fail
      go_at_call 39
      refine (hsh n W4 tU hn MU).mono ?_
      rintro e U2 ⟨⟨g, c, rfl, hI⟩, k2, M2⟩
      have hlen := sharesF_len rate keeps l.length x
      obtain ⟨b9, o9, h9, lb9, c9⟩ := hI j (by rw [hlen]; exact hjl)
      cases h9
      obtain ⟨v, hv⟩ : ∃ v, (sharesF rate keeps l.length x).getD j 0 = v := ⟨_, rfl⟩
      rw [hv] at c9
      have hvb : 0 ≤ v ∧ v ≤ 8001 := by
        rw [← hv]
        have hjs : j < (sharesF rate keeps l.length x).length := by rw [hlen]; exact hjl
        rw [show (sharesF rate keeps l.length x).getD j 0 = (sharesF rate keeps l.length x)[j] by simp [hjs]]
        exact hsb _ (List.getElem_mem hjs)
      have wS : IntKind.i64.wrap ((- (x * rate)) + v) = (- (x * rate)) + v := IntWalk.i64_in _ (by omega)
      simp at c9
      go_wp2
      go_ret
      refine ⟨?_, (Keep.of_below hM.isMap tU).trans k2, M2⟩
      refine ret_n ?_
      rw [Hch2.out, if_pos h0, Int.toNat_natCast, hv]
      rw [if_pos hpy]
      try omega
    · go_wp2
      go_ret
      refine ⟨?_, Keep.of_below hM.isMap tU, MU.mono (by omega)⟩
      refine ret_n ?_
      rw [Hch2.out, if_neg (show ¬ (0 ≤ ix) by omega)]
      rw [if_pos hpy]
      try omega
end
end Go.Proofs.Ytaphfibfjepceaa

namespace Go.Proofs.Ytaphfibfjepceaa
set_option linter.unusedVariables false
set_option linter.unusedSimpArgs false
set_option linter.unnecessarySimpa false
open Go.RowKit Go.Flow Go.Shelf

theorem chF_bd {rate keeps : Int} {d : Dis} {x s : Int} (hr : 0 ≤ rate ∧ rate ≤ 20) (hk : 0 ≤ keeps ∧ keeps ≤ 100) (hx : 1 ≤ x ∧ x ≤ 200) (hp : 1 ≤ d.passed.length) : -4000 ≤ chF rate keeps d x s ∧ chF rate keeps d x s ≤ 8001 := by
  have hP0 : 0 ≤ x * rate := Int.mul_nonneg (by omega) hr.1
  have hP1 : x * rate ≤ 4000 := Int.le_trans (Int.mul_le_mul hx.2 hr.2 hr.1 (by omega)) (by decide)
  have hsb := shares_bd (k := d.passed.length) hr hk hx hp
  have hib := idxF_bd d.passed s
  unfold chF
  have h2 : 0 ≤ (if 0 ≤ idxF d.passed s then (sharesF rate keeps d.passed.length x).getD (idxF d.passed s).toNat 0 else 0) ∧ (if 0 ≤ idxF d.passed s then (sharesF rate keeps d.passed.length x).getD (idxF d.passed s).toNat 0 else 0) ≤ 8001 := by
    split
    · have hj : (idxF d.passed s).toNat < (sharesF rate keeps d.passed.length x).length := by rw [sharesF_len]; omega
      rw [show (sharesF rate keeps d.passed.length x).getD (idxF d.passed s).toNat 0 = (sharesF rate keeps d.passed.length x)[(idxF d.passed s).toNat] by simp [hj]]
      exact hsb _ (List.getElem_mem hj)
    · omega
  obtain ⟨v, hv⟩ : ∃ v, (if 0 ≤ idxF d.passed s then (sharesF rate keeps d.passed.length x).getD (idxF d.passed s).toNat 0 else 0) = v := ⟨_, rfl⟩
  rw [hv] at h2 ⊢
  split <;> omega
/-- An account that can be worked with. -/
structure Good (rate keeps : Int) (ds : List Dis) : Prop where
  r : 0 ≤ rate ∧ rate ≤ 20
  k : 0 ≤ keeps ∧ keeps ≤ 100
  n : ds.length ≤ 6
  p : ∀ d ∈ ds, 1 ≤ d.passed.length ∧ d.passed.length ≤ 5
  w : ∀ d ∈ ds, 1 ≤ d.lo ∧ d.lo ≤ d.hi ∧ d.hi ≤ 200
theorem good_of {a : Acc} (h : accErr a = 0) : Good a.rate a.keeps a.ds := by
  have A := accErr_ok h
  exact ⟨A.rate, A.keeps, A.len, fun d hd => ⟨(disB_ok (A.dis d hd)).pos, A.few d hd⟩, fun d hd => ⟨(disB_ok (A.dis d hd)).lo, (disB_ok (A.dis d hd)).le, (disB_ok (A.dis d hd)).hi⟩⟩
def balN (rate keeps : Int) (ds : List Dis) (t : List Int) (s : Int) : Nat → Int
  | 0 => 0
  | k + 1 => balN rate keeps ds t s k + chF rate keeps (ds.getD k ⟨0, 0, 0, []⟩) (t.getD k 0) s
theorem balN_bd {rate keeps : Int} {ds : List Dis} {t : List Int} {s : Int} (G : Good rate keeps ds) (ht : ∀ x ∈ t, 1 ≤ x ∧ x ≤ 200) (hl : t.length ≤ ds.length) : ∀ k, k ≤ t.length → -4000 * (k : Int) ≤ balN rate keeps ds t s k ∧ balN rate keeps ds t s k ≤ 8001 * (k : Int)
  | 0, _ => by simp [balN]
  | k + 1, h => by
    have ih := balN_bd (s := s) G ht hl k (by omega)
    have hk1 : k < t.length := by omega
    have hk2 : k < ds.length := by omega
    have e1 : ds.getD k ⟨0, 0, 0, []⟩ = ds[k] := by simp [hk2]
    have e2 : t.getD k 0 = t[k] := by simp [hk1]
    have := chF_bd (s := s) G.r G.k (ht _ (List.getElem_mem hk1)) (G.p _ (List.getElem_mem hk2)).1
    rw [balN, e1, e2]
    push_cast
    omega

section
variable (B bm : Nat) (st rate keeps : Int) (ds : List Dis) (ad : Option Addr) (cd : Nat) (at_ : Option Addr) (t : List Int) (ct : Nat) (s : Int) (n : Nat) (w : World) (hw : WkAt w B bm st rate keeps ad ds.length cd) (hd : DisAt w ad ds) (av : List (Option Nat)) (hav : ∀ q, some q ∈ av → q < w.heap.size) (hM : MemoL w bm n (shF rate keeps ds) av) (G : Good rate keeps ds) (ht : IntsAt w at_ t) (hx : ∀ x ∈ t, 1 ≤ x ∧ x ≤ 200) (hl : t.length ≤ ds.length) (hn : n + 6 < maxLen)
include hav hw hd hM G ht hx hl hn
set_option maxRecDepth 100000 in
set_option maxHeartbeats 4000000 in
theorem balance_any : Calls Try.prog 33 #[.pointer (some ⟨B, 0, none⟩), .slice at_ t.length ct, .int .i64 s] w fun e w' => e = .returned (.int .i64 (balN rate keeps ds t s t.length)) ∧ Keep bm w w' ∧ MemoL w' bm (n + t.length) (shF rate keeps ds) av := by
  have hn6 := G.n
  go_enter Try.func33, Try.ntmps33
  go_wp2
  go_loopw [6, 7, 8, 11] (fun v _ _ j wr => ∃ k : Nat, k ≤ t.length ∧ j = .int .i64 k ∧ v = .int .i64 (balN rate keeps ds t s k) ∧ Keep bm w wr ∧ MemoL wr bm (n + k) (shF rate keeps ds) av) (fun _ _ _ j _ => t.length - (intOf j).toNat)
  case atStart => exact ⟨0, Nat.zero_le _, rfl, rfl, Keep.refl hM.isMap, hM⟩
  case round =>
    obtain ⟨k, hk, rfl, rfl, hkp, hMk⟩ := hrel
    by_cases hlt : k < t.length
    · have hkI : (k : Int) < (t.length : Int) := by omega
      have hkd : k < ds.length := by omega
      obtain ⟨b, off, rfl, hb, hc⟩ := (ht.keep hkp) k hlt
      have hb1 := balN_bd (s := s) G hx hl k hk
      have hb2 := balN_bd (s := s) G hx hl (k + 1) hlt
      have hxk := hx _ (List.getElem_mem hlt)
      have e1 : ds.getD k ⟨0, 0, 0, []⟩ = ds[k] := by simp [hkd]
      have e2 : t.getD k 0 = t[k] := by simp [hlt]
      have hsu : balN rate keeps ds t s (k + 1) = balN rate keeps ds t s k + chF rate keeps ds[k] t[k] s := by rw [balN, e1, e2]
      rw [e2] at hc
      obtain ⟨x, hxe⟩ : ∃ x, t[k] = x := ⟨_, rfl⟩
      rw [hxe] at hc hsu hxk
      obtain ⟨v, hv⟩ : ∃ v, chF rate keeps ds[k] x s = v := ⟨_, rfl⟩
      obtain ⟨u, hu⟩ : ∃ u, balN rate keeps ds t s k = u := ⟨_, rfl⟩
      have hch := change_any B bm st rate keeps ds ad cd k x s (n + k) wr (hw.keep hkp) (hd.keep hkp) av (fun q e => Nat.lt_of_lt_of_le (hav q e) hkp.size) hMk hkd G.r G.k hxk (G.p _ (List.getElem_mem hkd)) (by omega) (by omega)
      rw [hv] at hch hsu
      rw [hu] at hsu hb1 ⊢
      rw [hsu] at hb2
      have Hsu := Lib.hid hsu
      have wS : IntKind.i64.wrap (u + v) = u + v := IntWalk.i64_in _ (by push_cast at hb2; omega)
      clear hsu hv hu e1 e2 hxe
      go_wp2_with fail
      go_at_call 53
      refine hch.mono ?_
      rintro e w2 ⟨rfl, k2, M2⟩
      go_wp2
      go_roundw
      case rel => exact ⟨k + 1, by omega, by go_num, by rw [Hsu.out], hkp.trans k2, M2⟩
      case measure => simp [intOf]; omega
    · obtain rfl : k = t.length := by omega
      go_wp2
      go_ret
      exact ⟨rfl, hkp, hMk⟩
end
end Go.Proofs.Ytaphfibfjepceaa
