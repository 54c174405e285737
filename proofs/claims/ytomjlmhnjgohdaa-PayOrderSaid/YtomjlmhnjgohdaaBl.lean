/- pay: the reference's IsTruth, Balance -/
import Derived.Test.YtomjlmhnjgohdaaBk
import Derived.Test.YtomjlmhnjgohdaaAk
namespace Go.Proofs.Ytomjlmhnjgohdaa
set_option linter.unusedVariables false
set_option linter.unusedSimpArgs false
set_option linter.unnecessarySimpa false
open Go.RowKit Go.Flow Go.Shelf

section
variable (st rate keeps : Int) (ds : List Dis) (ad : Option Addr) (cd : Nat) (at_ : Option Addr) (t : List Int) (ct : Nat) (w : World) (hd : DisAt w ad ds) (ht : IntsAt w at_ t) (hl : ds.length ≤ 1000)
include hd ht hl
set_option maxRecDepth 100000 in
set_option maxHeartbeats 4000000 in
theorem rTruth_any : Calls Try.prog 27 #[.agg #[.int .i64 st, .int .i64 rate, .int .i64 keeps, .slice ad ds.length cd], .slice at_ t.length ct] w fun e w' => e = .returned (.bool (isTruth ds t)) ∧ Below w.heap.size w w' := by
  obtain ⟨W0, hW0⟩ : ∃ z : World, z = w.alloc (.cells #[.int .i64 st, .int .i64 rate, .int .i64 keeps, .slice ad ds.length cd] 24) := ⟨_, rfl⟩
  have b0 : Below w.heap.size w W0 := by rw [hW0]; (repeat (first | exact Below.refl _ _ | refine Below.alloc ?_ (by first | omega | (simp; done) | (simp; omega)) _ | refine Below.drew ?_ | refine Below.setCell ?_ (by first | omega | (simp; done) | (simp; omega)) _ | refine Below.trans ?_ (Below.mono (by assumption) (by first | omega | (simp; done) | (simp; omega)))))
  have C0 : Cells W0 w.heap.size #[.int .i64 st, .int .i64 rate, .int .i64 keeps, .slice ad ds.length cd] 24 := by rw [hW0]; exact Cells.new _ _ _
  obtain ⟨Z, hZ⟩ : ∃ Z, isTruth ds t = Z := ⟨_, rfl⟩
  have hZ2 : (decide (t.length = ds.length) && wordsB ds t) = Z := hZ
  rw [hZ]
  have HZ := Lib.hid hZ2
  clear hZ hZ2
  by_cases hlen : t.length = ds.length
  · have hne : ((t.length : Int) != (ds.length : Int)) = false := by simp [hlen]
    have hz : ((List.range t.length).drop 0).all (fun k => inR (t.getD k 0) (ds.getD k ⟨0, 0, 0, []⟩).lo (ds.getD k ⟨0, 0, 0, []⟩).hi) = Z := by
      rw [← HZ.out, hlen]; simp [wordsB, hlen]
    have Hz := Lib.hid hz
    have Hlen := Lib.hid hlen
    have htl2 : t.length ≤ 1000 := by omega
    clear hz hlen HZ
    go_enter Try.func27, Try.ntmps27
    go_wp2
    rw [← hW0]
    clear hW0
    go_loopw [5] (fun u X => ∃ k : Nat, k ≤ t.length ∧ u = .int .i64 k ∧ Below W0.heap.size W0 X ∧ ((List.range t.length).drop k).all (fun k => inR (t.getD k 0) (ds.getD k ⟨0, 0, 0, []⟩).lo (ds.getD k ⟨0, 0, 0, []⟩).hi) = Z) (fun u _ => t.length - (intOf u).toNat)
    case atStart => exact ⟨0, Nat.zero_le _, rfl, Below.refl _ _, Hz.out⟩
    case round =>
      obtain ⟨k, hk, rfl, hbX, hs⟩ := hrel
      rename World => X
      have bX := b0.trans (hbX.mono b0.size)
      have Hs := Lib.hid hs
      clear hs
      by_cases hlt : k < t.length
      · have hkI : (k : Int) < (t.length : Int) := by omega
        have hkd : k < ds.length := by rw [← Hlen.out]; exact hlt
        have hkdI : (k : Int) < (ds.length : Int) := by omega
        have hst := Hs.out
        rw [words_drop ds t hlt] at hst
        obtain ⟨bt, ot, rfl, hbt, hct⟩ := (ht.below bX) k hlt
        obtain ⟨bd, od, al, cl, rfl, hbd, d0, d1, d2, d3, _⟩ := (hd.below bX) k hkd
        have C1 := C0.below hbX
        have q3 := C1.cell 3
        have lq := C1.lt
        simp at q3
        rw [show ds.getD k ⟨0, 0, 0, []⟩ = ds[k] by simp [hkd]] at hst
        rw [show t.getD k 0 = t[k] by simp [hlt]] at hct
        obtain ⟨x, hx⟩ : ∃ x, t[k] = x := ⟨_, rfl⟩
        obtain ⟨lo, hlo⟩ : ∃ x, ds[k].lo = x := ⟨_, rfl⟩
        obtain ⟨hi, hhi⟩ : ∃ x, ds[k].hi = x := ⟨_, rfl⟩
        rw [hx, hlo, hhi] at hst
        rw [hx] at hct
        rw [hlo] at d1
        rw [hhi] at d2
        have i1 := rin_any x lo hi
        obtain ⟨V, hV⟩ : ∃ V, inR x lo hi = V := ⟨_, rfl⟩
        rw [hV] at i1 hst
        clear hx hlo hhi hV d0 d3 Hs
        cases V
        · obtain rfl : Z = false := by rw [← hst]; rfl
          clear hst
          go_wp2
          (refine wp_region_ext 20 (by kernel_rfl) (by kernel_rfl) ?_; simp only [List.take_succ_cons, List.take_zero, List.drop_succ_cons, List.drop_zero]; (repeat (go_big_quiet_step (((go_at_call 24; refine Calls_ext_same (i1 _)))))); refine wpQuiet_nil ?_; rintro _ ⟨ex, rfl⟩; have hex := ex.below; have hexz := ex.size; (try simp at hexz); (try (have hy0 : w.heap.size < ex.to.heap.size := by omega)); (try (have hy1 : w.heap.size + 1 < ex.to.heap.size := by omega)); (try (have hy2 : w.heap.size + 2 < ex.to.heap.size := by omega)))
          go_wp2
          go_ret
          exact ⟨rfl, bX.trans (hex.mono bX.size)⟩
        · have Hst := Lib.hid hst
          clear hst
          go_wp2
          (refine wp_region_ext 20 (by kernel_rfl) (by kernel_rfl) ?_; simp only [List.take_succ_cons, List.take_zero, List.drop_succ_cons, List.drop_zero]; (repeat (go_big_quiet_step (((go_at_call 24; refine Calls_ext_same (i1 _)))))); refine wpQuiet_nil ?_; rintro _ ⟨ex, rfl⟩; have hex := ex.below; have hexz := ex.size; (try simp at hexz); (try (have hy0 : w.heap.size < ex.to.heap.size := by omega)); (try (have hy1 : w.heap.size + 1 < ex.to.heap.size := by omega)); (try (have hy2 : w.heap.size + 2 < ex.to.heap.size := by omega)))
          go_wp2
          go_roundw
          case rel => exact ⟨k + 1, by omega, by go_num, hbX.trans (hex.mono hbX.size), by rw [← Hst.out]; rfl⟩
          case measure => simp [intOf]; omega
      · obtain rfl : k = t.length := by omega
        obtain rfl : Z = true := by rw [← Hs.out, List.drop_of_length_le (by simp)]; rfl
        go_wp2
        go_ret
        exact ⟨rfl, bX⟩
  · have hne : ((t.length : Int) != (ds.length : Int)) = true := by simp; omega
    obtain rfl : Z = false := by rw [← HZ.out]; simp [hlen]
    clear HZ hlen
    go_enter Try.func27, Try.ntmps27
    go_wp2
    go_ret
    exact ⟨rfl, by (repeat (first | exact Below.refl _ _ | refine Below.alloc ?_ (by first | omega | (simp; done) | (simp; omega)) _ | refine Below.drew ?_ | refine Below.setCell ?_ (by first | omega | (simp; done) | (simp; omega)) _ | refine Below.trans ?_ (Below.mono (by assumption) (by first | omega | (simp; done) | (simp; omega)))))⟩
end

/-- The balances while the k-th dispatch is added: the first j stations have it. -/
def mixL (rate keeps : Int) (ds : List Dis) (t : List Int) (m k j : Nat) : List Int := (List.range m).map fun (s : Nat) => if s < j then balN rate keeps ds t (s : Int) (k + 1) else balN rate keeps ds t (s : Int) k
theorem mixL_len (rate keeps : Int) (ds : List Dis) (t : List Int) (m k j : Nat) : (mixL rate keeps ds t m k j).length = m := by simp [mixL]
theorem mixL_at (rate keeps : Int) (ds : List Dis) (t : List Int) {m : Nat} (k j : Nat) {s : Nat} (h : s < m) : (mixL rate keeps ds t m k j).getD s 0 = if s < j then balN rate keeps ds t (s : Int) (k + 1) else balN rate keeps ds t (s : Int) k := by simp [mixL, h]
theorem mixL_zero (rate keeps : Int) (ds : List Dis) (t : List Int) (m : Nat) : mixL rate keeps ds t m 0 0 = List.replicate m 0 := by
  apply list_ext_getD (by simp [mixL])
  intro i hi
  have hi : i < m := by simpa [mixL] using hi
  rw [mixL_at _ _ _ _ _ _ hi]; simp [balN, hi]
theorem mixL_next (rate keeps : Int) (ds : List Dis) (t : List Int) (m k : Nat) : mixL rate keeps ds t m k m = mixL rate keeps ds t m (k + 1) 0 := by
  apply list_ext_getD (by simp [mixL])
  intro i hi
  have hi : i < m := by simpa [mixL] using hi
  rw [mixL_at _ _ _ _ _ _ hi, mixL_at _ _ _ _ _ _ hi, if_pos hi, if_neg (by omega)]
theorem mixL_end (rate keeps : Int) (ds : List Dis) (t : List Int) (m : Nat) : mixL rate keeps ds t m t.length 0 = balL rate keeps ds t m := by
  unfold mixL balL
  exact List.map_congr_left fun s _ => by rw [if_neg (by omega)]
theorem mixL_step (rate keeps : Int) (ds : List Dis) (t : List Int) {m k j : Nat} (hj : j < m) {x y : Int} (hx : (mixL rate keeps ds t m k j).getD j 0 = x) (hy : chF rate keeps (ds.getD k ⟨0, 0, 0, []⟩) (t.getD k 0) (j : Int) = y) : (mixL rate keeps ds t m k j).set j (x + y) = mixL rate keeps ds t m k (j + 1) := by
  apply list_ext_getD (by simp [mixL])
  intro i hi
  have hi : i < m := by simpa [mixL] using hi
  rw [getD_set _ _ _ _ (by rw [mixL_len]; exact hj), mixL_at _ _ _ _ _ _ hi, mixL_at _ _ _ _ _ _ hi]
  rw [mixL_at _ _ _ _ _ _ hj, if_neg (by omega)] at hx
  by_cases e : j = i
  · subst e
    rw [if_pos rfl, if_pos (by omega), balN, hx, hy]
  · rw [if_neg e]
    by_cases e2 : i < j
    · rw [if_pos e2, if_pos (by omega)]
    · rw [if_neg e2, if_neg (by omega)]
theorem truth_len {ds : List Dis} {t : List Int} (h : isTruth ds t = true) : t.length = ds.length := by
  simp only [isTruth, Bool.and_eq_true, decide_eq_true_eq] at h; exact h.1
theorem truth_at {ds : List Dis} {t : List Int} (h : isTruth ds t = true) {k : Nat} (hk : k < ds.length) : ds[k].lo ≤ t.getD k 0 ∧ t.getD k 0 ≤ ds[k].hi := by
  have hl := truth_len h
  simp only [isTruth, Bool.and_eq_true, wordsB, List.all_eq_true] at h
  have := h.2 k (by simp; omega)
  rw [show ds.getD k ⟨0, 0, 0, []⟩ = ds[k] by simp [hk]] at this
  exact inR_iff.1 this
theorem truth_in {rate keeps : Int} {ds : List Dis} (G : Good rate keeps ds) {t : List Int} (h : isTruth ds t = true) : ∀ x ∈ t, 1 ≤ x ∧ x ≤ 200 := fun x hx => by
  obtain ⟨k, hk, rfl⟩ := List.getElem_of_mem hx
  have hl := truth_len h
  have h1 := truth_at h (show k < ds.length by omega)
  rw [show t.getD k 0 = t[k] by simp [hk]] at h1
  have h2 := G.w _ (List.getElem_mem (show k < ds.length by omega))
  omega
/-- A row that a callee has made. -/
def RowV (n : Nat) (l : List Int) (v : Value) (w : World) : Prop := ∃ g c, v = .slice (some ⟨g, 0, none⟩) n c ∧ RowI w g l
theorem RowV.kept {n : Nat} {l : List Int} {v : Value} {w w' : World} (h : RowV n l v w) (hb : Below w.heap.size w w') : RowV n l v w' := let ⟨g, c, h1, h2⟩ := h; ⟨g, c, h1, h2.below hb⟩
section
variable (st rate keeps : Int) (ds : List Dis) (ad : Option Addr) (cd : Nat) (at_ : Option Addr) (t : List Int) (ct : Nat) (w : World) (hd : DisAt w ad ds) (ht : IntsAt w at_ t) (h0 : accErr ⟨st, rate, keeps, ds⟩ = 0) (hT : isTruth ds t = true)
include hd ht h0 hT
set_option maxRecDepth 100000 in
set_option maxHeartbeats 4000000 in
theorem rBalance_any : Calls Try.prog 28 #[.agg #[.int .i64 st, .int .i64 rate, .int .i64 keeps, .slice ad ds.length cd], .slice at_ t.length ct] w fun e w' => (∃ g c, e = .returned (.slice (some ⟨g, 0, none⟩) st.toNat c) ∧ RowI w' g (balL rate keeps ds t st.toNat)) ∧ Below w.heap.size w w' := by
  have G := good_of h0
  simp only at G
  have hst := (accErr_ok h0).st
  simp only at hst
  have hn6 := G.n
  have htl := truth_len hT
  have hin := truth_in G hT
  have hB := fun s k => balN_bd (s := s) G hin (by omega) k
  obtain ⟨m, rfl⟩ : ∃ m : Nat, st = (m : Int) := ⟨st.toNat, by omega⟩
  have rch := fun (k : Nat) (hk : k < ds.length) W (b : Below w.heap.size w W) => rChanges_any (m : Int) rate keeps ds ad cd k (t.getD k 0) W (hd.below b) h0 hk (hin _ (getD_mem' (by omega)))
  have hchb := fun (k : Nat) (hk : k < ds.length) (s : Int) => chF_bd (s := s) G.r G.k (hin _ (getD_mem' (show k < t.length by omega))) (G.p _ (List.getElem_mem hk)).1
  simp only [Int.toNat_natCast] at rch ⊢
  obtain ⟨W0, hW0⟩ : ∃ z : World, z = w.alloc (.cells #[.int .i64 (m : Int), .int .i64 rate, .int .i64 keeps, .slice ad ds.length cd] 24) := ⟨_, rfl⟩
  have b0 : Below w.heap.size w W0 := by rw [hW0]; (repeat (first | exact Below.refl _ _ | refine Below.alloc ?_ (by first | omega | (simp; done) | (simp; omega)) _ | refine Below.drew ?_ | refine Below.setCell ?_ (by first | omega | (simp; done) | (simp; omega)) _ | refine Below.trans ?_ (Below.mono (by assumption) (by first | omega | (simp; done) | (simp; omega)))))
  have C0 : Cells W0 w.heap.size #[.int .i64 (m : Int), .int .i64 rate, .int .i64 keeps, .slice ad ds.length cd] 24 := by rw [hW0]; exact Cells.new _ _ _
  have hz0 : W0.heap.size = w.heap.size + 1 := by rw [hW0]; simp
  have hmk := fun W => make_ints m (by omega) W
  have Hbd := Lib.hid hB
  have Hch := Lib.hid hchb
  have Hlen := Lib.hid htl
  have htl7 : t.length ≤ 6 := by omega
  clear hB hchb htl G hin hT h0
  go_enter Try.func28, Try.ntmps28
  go_wp2
  rw [← hW0]
  obtain ⟨W1, hW1⟩ : ∃ z : World, z = W0.alloc (.cells (repV 0 0 m).toArray 3) := ⟨_, rfl⟩
  have b1 : Below W0.heap.size W0 W1 := by rw [hW1]; exact (Below.refl _ _).alloc (Nat.le_refl _) _
  have hR1 : RowI W1 (w.heap.size + 1) (List.replicate m 0) := by rw [hW1]; exact row_made hz0.symm
  rw [← hW1]
  clear hW0 hW1
  have C1 := C0.below b1
  have t1 : Below w.heap.size w W1 := b0.trans (b1.mono b0.size)
  obtain ⟨g, hg⟩ : ∃ g, w.heap.size + 1 = g := ⟨_, rfl⟩
  have hgw : w.heap.size ≤ g := by omega
  have hgn : w.heap.size ≠ g := by omega
  rw [hg] at hR1 ⊢
  go_loopw [6, 7, 8] (fun u _ _ X => ∃ k : Nat, k ≤ t.length ∧ u = .int .i64 k ∧ RowI X g (mixL rate keeps ds t m k 0) ∧ Cells X w.heap.size #[.int .i64 (m : Int), .int .i64 rate, .int .i64 keeps, .slice ad ds.length cd] 24 ∧ Below w.heap.size w X) (fun u _ _ _ => t.length - (intOf u).toNat)
  case atStart => exact ⟨0, Nat.zero_le _, rfl, by rw [mixL_zero]; exact hR1, C1, t1⟩
  case round =>
    obtain ⟨k, hk, rfl, hRX, hCX, hbX⟩ := hrel
    rename World => X
    by_cases hlt : k < t.length
    · have hkI : (k : Int) < (t.length : Int) := by omega
      have hkd : k < ds.length := by rw [← Hlen.out]; exact hlt
      obtain ⟨bt, ot, rfl, hbt, hct⟩ := (ht.below hbX) k hlt
      have rc := rch k hkd
      have q0 := hCX.cell 0
      have q1 := hCX.cell 1
      have q2 := hCX.cell 2
      have q3 := hCX.cell 3
      have lq := hCX.lt
      simp at q0 q1 q2 q3
      have Hchk : Hid (∀ s : Int, -4000 ≤ chF rate keeps (ds.getD k ⟨0, 0, 0, []⟩) (t.getD k 0) s ∧ chF rate keeps (ds.getD k ⟨0, 0, 0, []⟩) (t.getD k 0) s ≤ 8001) := Lib.hid fun s => by
        rw [show ds.getD k ⟨0, 0, 0, []⟩ = ds[k] by simp [hkd]]; exact Hch.out k hkd s
      rw [show ds[k] = ds.getD k ⟨0, 0, 0, []⟩ by simp [hkd]] at rc
      obtain ⟨x, hx⟩ : ∃ x, t.getD k 0 = x := ⟨_, rfl⟩
      obtain ⟨d, hde⟩ : ∃ d, ds.getD k ⟨0, 0, 0, []⟩ = d := ⟨_, rfl⟩
      have hms := fun (j : Nat) (hj : j < m) (x' y : Int) h1 h2 => mixL_step rate keeps ds t (k := k) hj (x := x') (y := y) h1 h2
      rw [hde, hx] at Hchk
      simp only [hde, hx] at rc hms
      rw [hx] at hct
      have Hms := Lib.hid hms
      clear hx hde hms
      go_wp2
      (refine wp_region_seq 6 [] [6, 7] 42 [true, true, true, true, true, true] [] (by kernel_rfl) (by kernel_rfl) rfl mono_nil ?_; simp only [pickOps, List.filterMap_cons, List.filterMap_nil, List.getElem?_toArray, List.getElem?_cons_succ, List.getElem?_cons_zero]; (repeat (refine wpFl_step _ rfl (fun w => (by go_simp; rfl)) ?_)); refine wpFl_nil ?_; simp only [maskOps, dummy, Act.put, List.setIfInBounds_toArray, List.set_cons_zero, List.set_cons_succ, List.take_succ_cons, List.take_zero, List.drop_succ_cons, List.drop_zero]; (repeat (refine wpQB_step (fun K hK => ?_); go_simp; first | (refine hK _ ?_; clear hK K) | (apply Exists.intro; refine ⟨fun ex => ?_, hK _ ?_⟩; (fail); clear hK K))); refine wpQB_nil ?_; simp only [relObl2, under, relEnd, and_true, List.nil_append, List.cons_append])
      refine ⟨trivial, fun e => ?_⟩
      have b2 := e.below
      obtain ⟨W2, hW2⟩ : ∃ x : World, x = e.to := ⟨_, rfl⟩
      rw [← hW2] at b2 ⊢
      clear hW2 e
      go_wp2_with fail
      go_at_call 62
      refine (rc _ (hbX.trans (b2.mono hbX.size))).mono ?_
      rintro e W3 ⟨⟨gc, cc, rfl, hgc, hRc⟩, b3⟩
      have b23 := b2.trans (b3.mono b2.size)
      have hR3 := hRX.below b23
      have C3 := hCX.below b23
      have t3 := hbX.trans (b23.mono hbX.size)
      have hgcg : gc ≠ g := by have := hRX.lt; have := b2.size; omega
      clear hRX hCX hbX b2 b3 b23 q0 q1 q2 q3 lq hct rc
      go_wp2
      go_loopw [8] (fun v Y => ∃ j : Nat, j ≤ m ∧ v = .int .i64 j ∧ RowI Y g (mixL rate keeps ds t m k j) ∧ RowI Y gc (chL rate keeps d x m) ∧ Cells Y w.heap.size #[.int .i64 (m : Int), .int .i64 rate, .int .i64 keeps, .slice ad ds.length cd] 24 ∧ Below w.heap.size w Y) (fun v _ => m - (intOf v).toNat)
      case atStart => exact ⟨0, Nat.zero_le _, rfl, hR3, hRc, C3, t3⟩
      case round =>
        obtain ⟨j, hj, rfl, hRY, hRc2, hCY, hbY⟩ := hrel
        rename World => Y
        have q0 := hCY.cell 0
        have lq := hCY.lt
        simp at q0
        by_cases hjm : j < m
        · have hjI : (j : Int) < (m : Int) := by omega
          have cx := hRY.cell (k := j) (by rw [mixL_len]; exact hjm)
          have cy := hRc2.cell (k := j) (by rw [chL_len]; exact hjm)
          rw [chL_at _ _ _ _ hjm] at cy
          have hm1 := fun x' y h1 h2 => Hms.out j hjm x' y h1 h2
          have hyb := Hchk.out (j : Int)
          have hxb : -50000 ≤ (mixL rate keeps ds t m k j).getD j 0 ∧ (mixL rate keeps ds t m k j).getD j 0 ≤ 50000 := by
            rw [mixL_at _ _ _ _ _ _ hjm, if_neg (by omega)]
            have := Hbd.out (j : Int) k (by omega)
            omega
          obtain ⟨a, ha⟩ : ∃ a, (mixL rate keeps ds t m k j).getD j 0 = a := ⟨_, rfl⟩
          obtain ⟨y, hy⟩ : ∃ y, chF rate keeps d x (j : Int) = y := ⟨_, rfl⟩
          have hst := hm1 a y ha hy
          rw [ha] at cx hxb
          rw [hy] at cy hyb
          have Hst := Lib.hid hst
          have wA : IntKind.i64.wrap (a + y) = a + y := IntWalk.i64_in _ (by omega)
          have fX := hRY.frozen j
          have lX := hRY.lt
          have lC := hRc2.lt
          clear hst ha hy hm1
          go_wp2
          (refine wp_region_seq 10 [] [10] 42 [true, true, true, true, true, true, true, true, true, true] [] (by kernel_rfl) (by kernel_rfl) rfl mono_nil ?_; simp only [pickOps, List.filterMap_cons, List.filterMap_nil, List.getElem?_toArray, List.getElem?_cons_succ, List.getElem?_cons_zero]; (repeat (refine wpFl_step _ rfl (fun w => (by go_simp; rfl)) ?_)); refine wpFl_nil ?_; simp only [maskOps, dummy, Act.put, List.setIfInBounds_toArray, List.set_cons_zero, List.set_cons_succ, List.take_succ_cons, List.take_zero, List.drop_succ_cons, List.drop_zero]; (repeat (refine wpQB_step (fun K hK => ?_); go_simp; first | (refine hK _ ?_; clear hK K) | (apply Exists.intro; refine ⟨fun ex => ?_, hK _ ?_⟩; (fail); clear hK K))); refine wpQB_nil ?_; simp only [relObl2, under, relEnd, and_true, List.nil_append, List.cons_append])
          refine ⟨trivial, fun e => ?_⟩
          have b4 := e.below
          obtain ⟨W4, hW4⟩ : ∃ x : World, x = e.to := ⟨_, rfl⟩
          rw [← hW4] at b4 ⊢
          clear hW4 e
          have cx4 := below_cell b4 cx
          have fx4 := (hRY.below b4).frozen j
          have lx4 := Nat.lt_of_lt_of_le lX b4.size
          have hR5 := (hRY.below b4).set j (a + y)
          rw [Hst.out] at hR5
          have hc5 := (hRc2.below b4).other hgcg j (.int .i64 (a + y))
          have C5 := (hCY.below b4).other hgn j (.int .i64 (a + y))
          have b5 := (hbY.trans (b4.mono hbY.size)).setCell (p := ⟨g, j, none⟩) hgw (.int .i64 (a + y))
          clear cx fX cy q0 lq lX lC
          go_wp2
          go_roundw
          case rel => exact ⟨j + 1, by omega, by go_num, hR5, hc5, C5, b5⟩
          case measure => simp [intOf]; omega
        · obtain rfl : j = m := by omega
          rw [mixL_next] at hRY
          go_wp2
          go_roundw
          case rel => exact ⟨k + 1, by omega, by go_num, hRY, hCY, hbY⟩
          case measure => simp [intOf]; omega
    · obtain rfl : k = t.length := by omega
      rw [mixL_end] at hRX
      go_wp2
      go_ret
      exact ⟨⟨g, m, rfl, hRX⟩, hbX⟩
end
end Go.Proofs.Ytomjlmhnjgohdaa
