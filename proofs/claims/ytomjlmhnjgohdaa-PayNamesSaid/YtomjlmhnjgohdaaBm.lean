/- pay: the reference's Ends, Reach -/
import Derived.Test.YtomjlmhnjgohdaaBl
import Derived.Test.YtomjlmhnjgohdaaAr
namespace Go.Proofs.Ytomjlmhnjgohdaa
set_option linter.unusedVariables false
set_option linter.unusedSimpArgs false
set_option linter.unnecessarySimpa false
open Go.RowKit Go.Flow Go.Shelf

/-! ### plain: the ends of a change -/
theorem chF_mono {rate keeps : Int} (hr : 0 ≤ rate) (hk : 0 ≤ keeps ∧ keeps ≤ 100) (d : Dis) (h5 : 1 ≤ d.passed.length ∧ d.passed.length ≤ 5) (s : Int) {n m : Int} (hm : n ≤ m) :
    (d.payer ≠ s → chF rate keeps d n s ≤ chF rate keeps d m s) ∧ (d.payer = s → chF rate keeps d m s ≤ chF rate keeps d n s) := by
  have hP : n * rate ≤ m * rate := Int.mul_le_mul_of_nonneg_right hm hr
  unfold chF
  by_cases hi : 0 ≤ idxF d.passed s
  · have hlt : (idxF d.passed s).toNat < d.passed.length := by have := idxF_bd d.passed s; omega
    have h1 := shares_mono hr hk h5 hm _ hlt
    have h2 := shares_price hr hk h5 hm _ hlt
    rw [if_pos hi, if_pos hi]
    constructor
    · intro h; rw [if_neg h, if_neg h]; omega
    · intro h; rw [if_pos h, if_pos h]; omega
  · rw [if_neg hi, if_neg hi]
    constructor
    · intro h; rw [if_neg h, if_neg h]; omega
    · intro h; rw [if_pos h, if_pos h]; omega
/-- All words are tried: the first with which the change is at an end. -/
def endsP (f : Int → Int) (high : Bool) (lo : Int) : Nat → Int × Int
  | 0 => (lo, f lo)
  | k + 1 => if (if high then (endsP f high lo k).2 < f (lo + ((k + 1 : Nat) : Int)) else f (lo + ((k + 1 : Nat) : Int)) < (endsP f high lo k).2) then (lo + ((k + 1 : Nat) : Int), f (lo + ((k + 1 : Nat) : Int))) else endsP f high lo k
/-- No number from lo on, of k more, has a change beyond b. -/
def Beyond (f : Int → Int) (high : Bool) (lo : Int) (k : Nat) (b : Int) : Prop := ∀ j : Nat, j ≤ k → if high then f (lo + (j : Int)) ≤ b else b ≤ f (lo + (j : Int))
theorem endsP_spec (f : Int → Int) (high : Bool) (lo : Int) : ∀ k : Nat, ∃ j : Nat, j ≤ k ∧ (endsP f high lo k).1 = lo + (j : Int) ∧ (endsP f high lo k).2 = f (lo + (j : Int)) ∧ Beyond f high lo k (f (lo + (j : Int))) ∧ ∀ i : Nat, i < j → f (lo + (i : Int)) ≠ f (lo + (j : Int))
  | 0 => ⟨0, Nat.le_refl _, by simp [endsP], by simp [endsP], fun j hj => (by obtain rfl : j = 0 := (by omega); cases high <;> simp), fun i hi => by omega⟩
  | k + 1 => by
    obtain ⟨j, h1, h2, h3, h4, h5⟩ := endsP_spec f high lo k
    rw [endsP, h3]
    by_cases h : (if high then f (lo + (j : Int)) < f (lo + ((k + 1 : Nat) : Int)) else f (lo + ((k + 1 : Nat) : Int)) < f (lo + (j : Int)))
    · rw [if_pos h]
      refine ⟨k + 1, Nat.le_refl _, rfl, rfl, fun i hi => ?_, fun i hi e => ?_⟩
      · have hb := h4 i
        by_cases e : i = k + 1
        · subst e; cases high <;> simp
        · have hb := hb (by omega)
          cases high <;> simp only [Bool.false_eq_true, if_false, if_true] at h hb ⊢ <;> omega
      · have hb := h4 i (by omega)
        cases high <;> simp only [Bool.false_eq_true, if_false, if_true] at h hb <;> omega
    · rw [if_neg h]
      refine ⟨j, by omega, h2, h3, fun i hi => ?_, h5⟩
      by_cases e : i = k + 1
      · subst e; cases high <;> simp only [Bool.false_eq_true, if_false, if_true] at h ⊢ <;> omega
      · exact h4 i (by omega)
theorem firstN_is {f : Int → Int} {b : Int} : ∀ (K : Nat) (lo : Int) (j : Nat), j ≤ K → (∀ i : Nat, i < j → f (lo + (i : Int)) ≠ b) → f (lo + (j : Int)) = b → firstN f b K lo = lo + (j : Int)
  | 0, lo, j, hj, _, _ => by obtain rfl : j = 0 := (by omega); simp [firstN]
  | K + 1, lo, 0, _, _, h => by rw [firstN, if_pos (by simpa using h)]; simp
  | K + 1, lo, j + 1, hj, hn, h => by
    have h0 := hn 0 (by omega)
    rw [firstN, if_neg (by simpa using h0), firstN_is K (lo + 1) j (by omega) (fun i hi => by
      have := hn (i + 1) (by omega)
      rwa [show lo + 1 + (i : Int) = lo + ((i + 1 : Nat) : Int) by push_cast; omega]) (by rw [← h]; congr 1; push_cast; omega)]
    push_cast; omega
theorem endsP_is {f : Int → Int} {high : Bool} {lo x : Int} {k : Nat} (hx : lo ≤ x ∧ x ≤ lo + (k : Int)) (hb : Beyond f high lo k (f x)) : endsP f high lo k = (firstN f (f x) k lo, f x) := by
  obtain ⟨j, h1, h2, h3, h4, h5⟩ := endsP_spec f high lo k
  have h6 := hb j h1
  have h7 := h4 (x - lo).toNat (by omega)
  rw [show lo + (((x - lo).toNat : Nat) : Int) = x by omega] at h7
  have e : f (lo + (j : Int)) = f x := by cases high <;> simp only [Bool.false_eq_true, if_false, if_true] at h6 h7 <;> omega
  rw [e] at h3 h5
  rw [firstN_is k lo j h1 h5 e]
  exact Prod.ext h2 h3
theorem end_beyond {rate keeps : Int} (hr : 0 ≤ rate) (hk : 0 ≤ keeps ∧ keeps ≤ 100) (d : Dis) (h5 : 1 ≤ d.passed.length ∧ d.passed.length ≤ 5) (hle : d.lo ≤ d.hi) (s : Int) (high : Bool) :
    Beyond (fun n => chF rate keeps d n s) high d.lo (d.hi - d.lo).toNat (chF rate keeps d (endX high d.lo d.hi (d.payer == s)) s) := by
  intro j hj
  have hm := fun {n m : Int} (h : n ≤ m) => chF_mono hr hk d h5 s h
  have hlo := hm (show d.lo ≤ d.lo + (j : Int) by omega)
  have hhi := hm (show d.lo + (j : Int) ≤ d.hi by omega)
  by_cases hp : d.payer = s
  · have e : (d.payer == s) = true := by simpa using hp
    cases high
    · simp only [endX, lowX, lowF, e, if_true, Bool.false_eq_true, if_false]; exact hhi.2 hp
    · simp only [endX, highX, lowF, e, if_true, Bool.not_true, Bool.false_eq_true, if_false]; exact hlo.2 hp
  · have e : (d.payer == s) = false := by simpa using hp
    cases high
    · simp only [endX, lowX, lowF, e, if_true, Bool.false_eq_true, if_false]; exact hlo.1 hp
    · simp only [endX, highX, lowF, e, if_true, Bool.not_false, Bool.false_eq_true, if_false]; exact hhi.1 hp
theorem endX_in (high : Bool) {lo hi : Int} (b : Bool) (h : lo ≤ hi) : lo ≤ endX high lo hi b ∧ endX high lo hi b ≤ hi := by
  cases high
  · exact lowX_in lo hi b h
  · exact highX_in lo hi b h
/-- The reference's end is the program's. -/
theorem ends_eq {rate keeps : Int} (hr : 0 ≤ rate) (hk : 0 ≤ keeps ∧ keeps ≤ 100) (d : Dis) (h5 : 1 ≤ d.passed.length ∧ d.passed.length ≤ 5) (hle : d.lo ≤ d.hi) (s : Int) (high : Bool) :
    endsP (fun n => chF rate keeps d n s) high d.lo (d.hi - d.lo).toNat = (reachD rate keeps (endX high) s d, chF rate keeps d (endX high d.lo d.hi (d.payer == s)) s) :=
  endsP_is (f := fun n => chF rate keeps d n s) (x := endX high d.lo d.hi (d.payer == s)) (by have := endX_in high (d.payer == s) hle; omega) (end_beyond hr hk d h5 hle s high)
theorem reach_at {rate keeps : Int} (hr : 0 ≤ rate) (hk : 0 ≤ keeps ∧ keeps ≤ 100) (d : Dis) (h5 : 1 ≤ d.passed.length ∧ d.passed.length ≤ 5) (hle : d.lo ≤ d.hi) (s : Int) (high : Bool) :
    chF rate keeps d (reachD rate keeps (endX high) s d) s = chF rate keeps d (endX high d.lo d.hi (d.payer == s)) s ∧ d.lo ≤ reachD rate keeps (endX high) s d ∧ reachD rate keeps (endX high) s d ≤ d.hi := by
  obtain ⟨j, h1, h2, h3, h4, h5'⟩ := endsP_spec (fun n => chF rate keeps d n s) high d.lo (d.hi - d.lo).toNat
  rw [ends_eq hr hk d h5 hle s high] at h2 h3
  simp only at h2 h3
  rw [h2, h3]
  exact ⟨rfl, by omega, by omega⟩

/-- The address of a cell. -/
def CellV (j : Nat) (x : Value) (v : Value) (w : World) : Prop := ∃ g, v = .pointer (some ⟨g, j, none⟩) ∧ w.cell? ⟨g, j, none⟩ = some x
theorem CellV.kept {j : Nat} {x v : Value} {w w' : World} (h : CellV j x v w) (hb : Below w.heap.size w w') : CellV j x v w' := let ⟨g, h1, h2⟩ := h; ⟨g, h1, below_cell hb h2⟩
section
variable (st rate keeps : Int) (ds : List Dis) (ad : Option Addr) (cd : Nat) (s : Nat) (i : Nat) (high : Bool) (w : World) (hd : DisAt w ad ds) (h0 : accErr ⟨st, rate, keeps, ds⟩ = 0) (hs : (s : Int) < st) (hi : i < ds.length)
include hd h0 hs hi
set_option maxRecDepth 100000 in
set_option maxHeartbeats 4000000 in
theorem rEnds_any : Calls Try.prog 78 #[.agg #[.int .i64 st, .int .i64 rate, .int .i64 keeps, .slice ad ds.length cd], .int .i64 (s : Int), .int .i64 (i : Int), .bool high] w fun e w' => e = .returned (.tuple #[.int .i64 (reachD rate keeps (endX high) (s : Int) ds[i]), .int .i64 (chF rate keeps ds[i] (endX high ds[i].lo ds[i].hi (ds[i].payer == (s : Int))) (s : Int))]) ∧ Below w.heap.size w w' := by
  have G := good_of h0
  simp only at G
  have hst := (accErr_ok h0).st
  simp only at hst
  have hn6 := G.n
  have hGw := G.w _ (List.getElem_mem hi)
  have hGp := G.p _ (List.getElem_mem hi)
  have hEe := ends_eq G.r.1 G.k ds[i] hGp hGw.2.1 (s : Int) high
  have rch := fun (n : Int) (hn : 1 ≤ n ∧ n ≤ 200) W (b : Below w.heap.size w W) => rChanges_any st rate keeps ds ad cd i n W (hd.below b) h0 hi hn
  have hchb := fun (n : Int) (hn : 1 ≤ n ∧ n ≤ 200) => chF_bd (s := (s : Int)) G.r G.k hn hGp.1
  obtain ⟨m, rfl⟩ : ∃ m : Nat, st = (m : Int) := ⟨st.toNat, by omega⟩
  simp only [Int.toNat_natCast] at rch
  obtain ⟨bd, od, al, cl, rfl, hbd, d0, d1, d2, d3, hPa⟩ := hd i hi
  obtain ⟨d, hde⟩ : ∃ d, ds[i] = d := ⟨_, rfl⟩
  simp only [hde] at d0 d1 d2 d3 hPa rch hchb hGw hEe ⊢
  clear hde hPa d0 d3 hGp
  obtain ⟨W0, hW0⟩ : ∃ z : World, z = w.alloc (.cells #[.int .i64 (m : Int), .int .i64 rate, .int .i64 keeps, .slice (some ⟨bd, od, none⟩) ds.length cd] 24) := ⟨_, rfl⟩
  have b0 : Below w.heap.size w W0 := by rw [hW0]; (repeat (first | exact Below.refl _ _ | refine Below.alloc ?_ (by first | omega | (simp; done) | (simp; omega)) _ | refine Below.drew ?_ | refine Below.setCell ?_ (by first | omega | (simp; done) | (simp; omega)) _ | refine Below.trans ?_ (Below.mono (by assumption) (by first | omega | (simp; done) | (simp; omega)))))
  have C0 : Cells W0 w.heap.size #[.int .i64 (m : Int), .int .i64 rate, .int .i64 keeps, .slice (some ⟨bd, od, none⟩) ds.length cd] 24 := by rw [hW0]; exact Cells.new _ _ _
  have hz0 : W0.heap.size = w.heap.size + 1 := by rw [hW0]; simp
  have hsm : s < m := by omega
  have hsI : (s : Int) < (m : Int) := hs
  have hiI : (i : Int) < (ds.length : Int) := by omega
  obtain ⟨lo, hlo⟩ : ∃ x, d.lo = x := ⟨_, rfl⟩
  obtain ⟨hi2, hhi⟩ : ∃ x, d.hi = x := ⟨_, rfl⟩
  rw [hlo] at d1
  rw [hhi] at d2
  rw [hlo, hhi] at hGw hEe
  obtain ⟨R, hR⟩ : ∃ R, reachD rate keeps (endX high) (s : Int) d = R := ⟨_, rfl⟩
  obtain ⟨B, hB⟩ : ∃ B, chF rate keeps d (endX high d.lo d.hi (d.payer == (s : Int))) (s : Int) = B := ⟨_, rfl⟩
  rw [hlo, hhi] at hB
  rw [hlo, hhi, hR, hB]
  rw [hR, hB] at hEe
  obtain ⟨f, hf⟩ : ∃ f : Int → Int, f = fun n => chF rate keeps d n (s : Int) := ⟨_, rfl⟩
  rw [← hf] at hEe
  have hfv : ∀ n, (chL rate keeps d n m).getD s 0 = f n := fun n => by rw [chL_at _ _ _ _ hsm, hf]
  have hfb : ∀ n, 1 ≤ n ∧ n ≤ 200 → -4000 ≤ f n ∧ f n ≤ 8001 := fun n hn => by rw [hf]; exact hchb n hn
  have Hf := Lib.hid hfv
  have Hfb := Lib.hid hfb
  have HE := Lib.hid hEe
  clear hf hfv hfb hEe hchb hlo hhi hR hB G h0
  go_enter Try.func78, Try.ntmps78
  go_upto_region 2 with fail
  rw [← hW0]
  obtain ⟨W1, hW1⟩ : ∃ z : World, z = W0.alloc (.cells #[.int .i64 lo, .int .i64 hi2] 41) := ⟨_, rfl⟩
  have b1 : Below W0.heap.size W0 W1 := by rw [hW1]; exact (Below.refl _ _).alloc (Nat.le_refl _) _
  have C1 : Cells W1 (w.heap.size + 1) #[.int .i64 lo, .int .i64 hi2] 41 := by rw [hW1]; exact Cells.new' _ _ _ _ hz0.symm
  rw [← hW1]
  clear hW0 hW1
  have C2 := C0.below b1
  have t1 : Below w.heap.size w W1 := b0.trans (b1.mono b0.size)
  have q0 := C2.cell 0
  have q1 := C2.cell 1
  have q2 := C2.cell 2
  have q3 := C2.cell 3
  have lq := C2.lt
  have y0 := C1.cell 0
  have y1 := C1.cell 1
  have yl := C1.lt
  simp at q0 q1 q2 q3 y0 y1
  have rc0 := rch lo (by omega)
  (refine wp_region_seq 11 [] [11] 66 [true, true, true, true, true, true, false, true, false, false, true] [RowV m (chL rate keeps d lo m), CellV s (.int .i64 (f lo)), IntV (f lo)] (by kernel_rfl) (by kernel_rfl) rfl (mono_cons (fun v w w' h hb => h.kept hb) (mono_cons (fun v w w' h hb => h.kept hb) (mono_cons (fun v w w' h hb => h.kept hb) mono_nil))) ?_; simp only [pickOps, List.filterMap_cons, List.filterMap_nil, List.getElem?_toArray, List.getElem?_cons_succ, List.getElem?_cons_zero]; (repeat (refine wpFl_step _ rfl (fun w => (by go_simp; rfl)) ?_)); refine wpFl_nil ?_; simp only [maskOps, dummy, Act.put, List.setIfInBounds_toArray, List.set_cons_zero, List.set_cons_succ, List.take_succ_cons, List.take_zero, List.drop_succ_cons, List.drop_zero]; (repeat (refine wpQB_step (fun K hK => ?_); go_simp; first | (refine hK _ ?_; clear hK K) | (apply Exists.intro; refine ⟨fun ex => ?_, hK _ ?_⟩; (fail); clear hK K))); refine wpQB_nil ?_; simp only [relObl2, under, relEnd, and_true, List.nil_append, List.cons_append])
  refine ⟨⟨?_, ?_, ?_⟩, ?_⟩
  · intro e
    go_simp
    refine (rc0 e.to (t1.trans (e.below.mono t1.size))).mono ?_
    rintro r w' ⟨⟨g, c, rfl, _, hR⟩, hb⟩
    exact ⟨hb, g, c, rfl, hR⟩
  · intro e v1 h1
    obtain ⟨g, c, rfl, hR⟩ := h1 (by kernel_rfl)
    go_simp
    have cx := hR.cell (k := s) (by rw [chL_len]; exact hsm)
    rw [Hf.out] at cx
    exact ⟨Below.refl _ _, g, rfl, cx⟩
  · intro e v1 _ v2 h2
    obtain ⟨g, rfl, cx⟩ := h2 (by kernel_rfl)
    have lx := cell_ltK cx
    go_simp
    exact ⟨Below.refl _ _, rfl⟩
  rintro e v1 - v2 - v3 h3
  obtain rfl : v3 = .int .i64 (f lo) := h3
  simp only [Act.put, List.setIfInBounds_toArray, List.set_cons_zero, List.set_cons_succ]
  have b2 := e.below
  obtain ⟨W2, hW2⟩ : ∃ z : World, z = e.to := ⟨_, rfl⟩
  rw [← hW2] at b2 ⊢
  clear hW2 e
  have t2 : Below w.heap.size w W2 := t1.trans (b2.mono t1.size)
  have C3 := C2.below b2
  have C4 := C1.below b2
  clear q0 q1 q2 q3 lq y0 y1 yl C0 C1 C2 rc0 b2
  have y0 := C4.cell 0
  have yl := C4.lt
  simp at y0
  have wl : IntKind.i64.wrap (lo + 1) = lo + 1 := IntWalk.i64_in _ (by omega)
  obtain ⟨K, hK⟩ : ∃ K : Nat, hi2 = lo + (K : Int) := ⟨(hi2 - lo).toNat, by omega⟩
  have hKt : (hi2 - lo).toNat = K := by omega
  have HE2 : Hid (endsP f high lo K = (R, B)) := Lib.hid (by rw [← hKt]; exact HE.out)
  have HK := Lib.hid hK
  clear hK hKt
  go_wp2
  clear y0 yl
  go_loopw [11, 12, 13, 14] (fun u v n_ _ X => ∃ k : Nat, k ≤ K ∧ n_ = .int .i64 (lo + 1 + (k : Int)) ∧ u = .int .i64 (endsP f high lo k).1 ∧ v = .int .i64 (endsP f high lo k).2 ∧ Below W2.heap.size W2 X) (fun _ _ n_ _ _ => (hi2 + 1 - intOf n_).toNat)
  case atStart => exact ⟨0, Nat.zero_le _, by simp, rfl, rfl, Below.refl _ _⟩
  case round =>
    obtain ⟨k, hk, rfl, rfl, rfl, hbX⟩ := hrel
    rename World => X
    have tX := t2.trans (hbX.mono t2.size)
    have C5 := C3.below hbX
    have C6 := C4.below hbX
    have q0 := C5.cell 0
    have q1 := C5.cell 1
    have q2 := C5.cell 2
    have q3 := C5.cell 3
    have lq := C5.lt
    have y0 := C6.cell 0
    have y1 := C6.cell 1
    have yl := C6.lt
    simp at q0 q1 q2 q3 y0 y1
    have hsc : endsP f high lo (k + 1) = if (if high then (endsP f high lo k).2 < f (lo + ((k + 1 : Nat) : Int)) else f (lo + ((k + 1 : Nat) : Int)) < (endsP f high lo k).2) then (lo + ((k + 1 : Nat) : Int), f (lo + ((k + 1 : Nat) : Int))) else endsP f high lo k := rfl
    have en : lo + ((k + 1 : Nat) : Int) = lo + 1 + (k : Int) := by push_cast; omega
    rw [en] at hsc
    obtain ⟨N, hN⟩ : ∃ N, lo + 1 + (k : Int) = N := ⟨_, rfl⟩
    rw [hN] at hsc ⊢
    have hK := HK.out
    have hN1 : IntKind.i64.wrap (N + 1) = N + 1 := IntWalk.i64_in _ (by omega)
    have hNb : 1 ≤ N := by omega
    obtain ⟨W_, hW_⟩ : ∃ x, (endsP f high lo k).1 = x := ⟨_, rfl⟩
    obtain ⟨B_, hB_⟩ : ∃ x, (endsP f high lo k).2 = x := ⟨_, rfl⟩
    rw [hB_] at hsc
    rw [hW_, hB_]
    have HW_ := Lib.hid hW_
    have HB_ := Lib.hid hB_
    have HN := Lib.hid hN
    clear hW_ hB_ hN en hK
    by_cases hle : N ≤ hi2
    · have hkK : k + 1 ≤ K := by have := HN.out; have := HK.out; omega
      have rc := rch N (by omega) X tX
      obtain ⟨c, hc⟩ : ∃ c, f N = c := ⟨_, rfl⟩
      have hrow : ∀ (g : Nat) (Y : World), RowI Y g (chL rate keeps d N m) → Y.cell? ⟨g, s, none⟩ = some (.int .i64 c) := fun g Y h => by
        have cx := h.cell (k := s) (by rw [chL_len]; exact hsm)
        rw [Hf.out, hc] at cx
        exact cx
      rw [hc] at hsc
      have Hsc := Lib.hid hsc
      clear hsc hc
      cases high
      · by_cases hcb : c < B_
        · have Hr : Hid (endsP f false lo (k + 1) = (N, c)) := Lib.hid (by rw [Hsc.out]; simp [hcb])
          clear Hsc
          go_wp2_with (go_at_call 62; (with_reducible refine rc.mono ?_); rintro e Y ⟨⟨g, cc, rfl, _, hR⟩, hb⟩; have cx := hrow g Y hR; have lx := cell_ltK cx)
          go_roundw
          case rel => exact ⟨k + 1, hkK, by have := HN.out; push_cast; congr 1; omega, by rw [Hr.out], by rw [Hr.out], hbX.trans (hb.mono hbX.size)⟩
          case measure => simp [intOf]; omega
        · have Hr : Hid (endsP f false lo (k + 1) = endsP f false lo k) := Lib.hid (by rw [Hsc.out]; simp [hcb])
          have hcd : decide (c < B_) = false := by simpa using hcb
          clear Hsc
          go_wp2_with (go_at_call 62; (with_reducible refine rc.mono ?_); rintro e Y ⟨⟨g, cc, rfl, _, hR⟩, hb⟩; have cx := hrow g Y hR; have lx := cell_ltK cx)
          go_roundw
          case rel => exact ⟨k + 1, hkK, by have := HN.out; push_cast; congr 1; omega, by rw [Hr.out, HW_.out], by rw [Hr.out, HB_.out], hbX.trans (hb.mono hbX.size)⟩
          case measure => simp [intOf]; omega
      · by_cases hcb : B_ < c
        · have Hr : Hid (endsP f true lo (k + 1) = (N, c)) := Lib.hid (by rw [Hsc.out]; simp [hcb])
          have hcd : decide (B_ < c) = true := by simpa using hcb
          clear Hsc
          go_wp2_with (go_at_call 62; (with_reducible refine rc.mono ?_); rintro e Y ⟨⟨g, cc, rfl, _, hR⟩, hb⟩; have cx := hrow g Y hR; have lx := cell_ltK cx)
          go_roundw
          case rel => exact ⟨k + 1, hkK, by have := HN.out; push_cast; congr 1; omega, by rw [Hr.out], by rw [Hr.out], hbX.trans (hb.mono hbX.size)⟩
          case measure => simp [intOf]; omega
        · have Hr : Hid (endsP f true lo (k + 1) = endsP f true lo k) := Lib.hid (by rw [Hsc.out]; simp [hcb])
          have hcd : decide (B_ < c) = false := by simpa using hcb
          clear Hsc
          go_wp2_with (go_at_call 62; (with_reducible refine rc.mono ?_); rintro e Y ⟨⟨g, cc, rfl, _, hR⟩, hb⟩; have cx := hrow g Y hR; have lx := cell_ltK cx)
          go_roundw
          case rel => exact ⟨k + 1, hkK, by have := HN.out; push_cast; congr 1; omega, by rw [Hr.out, HW_.out], by rw [Hr.out, HB_.out], hbX.trans (hb.mono hbX.size)⟩
          case measure => simp [intOf]; omega
    · obtain rfl : k = K := by have := HN.out; have := HK.out; omega
      have e := HE2.out
      have e1 : W_ = R := by rw [← HW_.out, e]
      have e2 : B_ = B := by rw [← HB_.out, e]
      subst e1 e2
      clear e HE2 hsc
      go_wp2
      go_ret2
      exact ⟨rfl, tX⟩
end
end Go.Proofs.Ytomjlmhnjgohdaa
