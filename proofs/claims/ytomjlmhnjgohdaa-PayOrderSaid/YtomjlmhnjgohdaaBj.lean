/- pay: the reference's Shares -/
import Derived.Test.YtomjlmhnjgohdaaBi
import Derived.Test.YtomjlmhnjgohdaaBa
namespace Go.Proofs.Ytomjlmhnjgohdaa
set_option linter.unusedVariables false
set_option linter.unusedSimpArgs false
set_option linter.unnecessarySimpa false
open Go.RowKit Go.Flow Go.Shelf

/-- The shares when so many pennies are given: from the last one to the first one, again and again. -/
def pennyL (kp : Int) (n j : Nat) : List Int := (List.range n).map fun (i : Nat) => (((j + i) / n : Nat) : Int) + (if i = 0 then kp else 0)
theorem pennyL_len (kp : Int) (n j : Nat) : (pennyL kp n j).length = n := by simp [pennyL]
theorem pennyL_at (kp : Int) {n : Nat} (j : Nat) {i : Nat} (hi : i < n) : (pennyL kp n j).getD i 0 = (((j + i) / n : Nat) : Int) + (if i = 0 then kp else 0) := by simp [pennyL, hi]
theorem list_ext_getD {l m : List Int} (hl : l.length = m.length) (h : ∀ i, i < l.length → l.getD i 0 = m.getD i 0) : l = m := by
  apply List.ext_getElem hl
  intro i h1 h2
  have := h i h1
  rwa [List.getD_eq_getElem?_getD, List.getD_eq_getElem?_getD, List.getElem?_eq_getElem h1, List.getElem?_eq_getElem h2] at this
theorem getD_set (l : List Int) (k i : Nat) (v : Int) (hk : k < l.length) : (l.set k v).getD i 0 = if k = i then v else l.getD i 0 := by
  rw [List.getD_eq_getElem?_getD, List.getD_eq_getElem?_getD]
  by_cases e : k = i
  · subst e; rw [if_pos rfl]; simp [hk]
  · rw [if_neg e, List.getElem?_set_ne e]
theorem pennyL_zero (kp : Int) {n : Nat} (hn : 1 ≤ n) : (List.replicate n (0 : Int)).set 0 kp = pennyL kp n 0 := by
  apply list_ext_getD (by simp [pennyL])
  intro i hi
  have hi : i < n := by simpa using hi
  rw [pennyL_at kp 0 hi, Nat.zero_add, Nat.div_eq_of_lt hi, getD_set _ _ _ _ (by simp; omega)]
  by_cases e : i = 0
  · subst e; simp
  · rw [if_neg (fun h => e h.symm), if_neg e]; simp [hi]
theorem pennyL_step (kp : Int) {n : Nat} (hn : 1 ≤ n ∧ n ≤ 5) (j : Nat) : (pennyL kp n j).set (n - 1 - j % n) ((pennyL kp n j).getD (n - 1 - j % n) 0 + 1) = pennyL kp n (j + 1) := by
  have hlt : n - 1 - j % n < n := by omega
  apply list_ext_getD (by simp [pennyL])
  intro i hi
  have hi : i < n := by simpa [pennyL] using hi
  rw [getD_set _ _ _ _ (by rw [pennyL_len]; exact hlt), pennyL_at kp j hlt, pennyL_at kp j hi, pennyL_at kp (j + 1) hi]
  obtain rfl | rfl | rfl | rfl | rfl : n = 1 ∨ n = 2 ∨ n = 3 ∨ n = 4 ∨ n = 5 := by omega
  all_goals (split <;> split <;> (try split) <;> omega)
theorem pennyL_full {rate keeps : Int} {k : Nat} (n : Int) (hk : 1 ≤ k ∧ k ≤ 5) {R : Nat} (hR : n * rate - keptF rate keeps n = (R : Int)) : pennyL (keptF rate keeps n) k R = sharesF rate keeps k n := by
  apply list_ext_getD (by simp [pennyL, sharesF])
  intro i hi
  have hi : i < k := by simpa [pennyL] using hi
  rw [pennyL_at _ _ hi, sharesF_at n hk i hi, hR]
  push_cast
  rfl
theorem pennyL_bd (kp : Int) {n j : Nat} (hn : 1 ≤ n) (hj : j ≤ 4000) {i : Nat} (hi : i < n) (hn5 : n ≤ 5) (hk : 0 ≤ kp ∧ kp ≤ 4000) : 0 ≤ (pennyL kp n j).getD i 0 ∧ (pennyL kp n j).getD i 0 ≤ 9000 := by
  rw [pennyL_at _ _ hi]
  have h1 : (j + i) / n ≤ j + i := Nat.div_le_self _ _
  obtain ⟨q, hq⟩ : ∃ q, (j + i) / n = q := ⟨_, rfl⟩
  rw [hq] at h1 ⊢
  split <;> omega
section
variable (st rate keeps : Int) (ds : List Dis) (ad : Option Addr) (cd : Nat) (i : Nat) (n : Int) (w : World) (hd : DisAt w ad ds) (G : Good rate keeps ds) (hi : i < ds.length) (hn : 1 ≤ n ∧ n ≤ 200)
include hd G hi hn
set_option maxRecDepth 100000 in
set_option maxHeartbeats 4000000 in
theorem rShares_any : Calls Try.prog 26 #[.agg #[.int .i64 st, .int .i64 rate, .int .i64 keeps, .slice ad ds.length cd], .int .i64 (i : Int), .int .i64 n] w fun e w' => (∃ g c, e = .returned (.slice (some ⟨g, 0, none⟩) ds[i].passed.length c) ∧ w.heap.size ≤ g ∧ RowI w' g (sharesF rate keeps ds[i].passed.length n)) ∧ Below w.heap.size w w' := by
  have hn6 := G.n
  have hp := G.p _ (List.getElem_mem hi)
  obtain ⟨W0, hW0⟩ : ∃ z : World, z = w.alloc (.cells #[.int .i64 st, .int .i64 rate, .int .i64 keeps, .slice ad ds.length cd] 24) := ⟨_, rfl⟩
  have b0 : Below w.heap.size w W0 := by rw [hW0]; (repeat (first | exact Below.refl _ _ | refine Below.alloc ?_ (by first | omega | (simp; done) | (simp; omega)) _ | refine Below.drew ?_ | refine Below.setCell ?_ (by first | omega | (simp; done) | (simp; omega)) _ | refine Below.trans ?_ (Below.mono (by assumption) (by first | omega | (simp; done) | (simp; omega)))))
  have C0 : Cells W0 w.heap.size #[.int .i64 st, .int .i64 rate, .int .i64 keeps, .slice ad ds.length cd] 24 := by rw [hW0]; exact Cells.new _ _ _
  obtain ⟨bd, od, al, cl, rfl, hbd, _, _, _, d3, _⟩ := hd i hi
  obtain ⟨k, hk⟩ : ∃ k, ds[i].passed.length = k := ⟨_, rfl⟩
  rw [hk] at d3 hp ⊢
  have hP0 : 0 ≤ n * rate := Int.mul_nonneg (by omega) G.r.1
  have hP1 : n * rate ≤ 4000 := Int.le_trans (Int.mul_le_mul hn.2 G.r.2 G.r.1 (by omega)) (by decide)
  have hkb := kept_bd (n := n) G.r.1 G.k (by omega)
  have hful := fun (R : Nat) (h : n * rate - keptF rate keeps n = (R : Int)) => pennyL_full (rate := rate) (keeps := keeps) n hp h
  have hY0 : 0 ≤ n * rate * keeps := Int.mul_nonneg hP0 G.k.1
  have hY1 : n * rate * keeps ≤ n * rate * 100 := Int.mul_le_mul_of_nonneg_left G.k.2 hP0
  have hkeq : keptF rate keeps n = n * rate * keeps / 100 := rfl
  obtain ⟨P, hPe⟩ : ∃ P, n * rate = P := ⟨_, rfl⟩
  obtain ⟨Y, hYe⟩ : ∃ Y, P * keeps = Y := ⟨_, rfl⟩
  obtain ⟨kp, hkp⟩ : ∃ kp, keptF rate keeps n = kp := ⟨_, rfl⟩
  rw [hPe] at hP0 hP1 hY0 hY1
  rw [hYe] at hY0 hY1
  rw [hPe, hYe, hkp] at hkeq
  rw [hkp, hPe] at hkb
  simp only [hkp, hPe] at hful
  obtain ⟨R, hR⟩ : ∃ R : Nat, P - kp = (R : Int) := ⟨(P - kp).toNat, by omega⟩
  have hS := hful R hR
  obtain ⟨S, hSe⟩ : ∃ S, sharesF rate keeps k n = S := ⟨_, rfl⟩
  rw [hSe] at hS ⊢
  have wP : IntKind.i64.wrap (n * rate) = P := by rw [hPe]; exact IntWalk.i64_in _ (by omega)
  have wY : IntKind.i64.wrap (P * keeps) = Y := by rw [hYe]; exact IntWalk.i64_in _ (by omega)
  have wQ : Y.tdiv 100 = kp := by rw [Int.tdiv_eq_ediv_of_nonneg hY0]; exact hkeq.symm
  have wK : IntKind.i64.wrap kp = kp := IntWalk.i64_in _ (by omega)
  have wR : IntKind.i64.wrap (P - kp) = (R : Int) := by rw [hR]; exact IntWalk.i64_in _ (by omega)
  have w1_ : IntKind.i64.wrap ((k : Int) - 1) = ((k - 1 : Nat) : Int) := by rw [IntWalk.i64_in _ (by omega)]; omega
  have hR4 : R ≤ 4000 := by omega
  have HS := Lib.hid hS
  have q1 := C0.cell 1
  have q2 := C0.cell 2
  have q3 := C0.cell 3
  have lq := C0.lt
  simp at q1 q2 q3
  have hiI : (i : Int) < (ds.length : Int) := by omega
  have hmk := fun W => make_ints k (by omega) W
  clear hful hS hPe hYe hkp hkeq hk hSe hR
  have Hkb := Lib.hid hkb
  clear hkb
  have hk0 : (0 : Int) < (k : Int) := by omega
  go_enter Try.func26, Try.ntmps26
  go_upto_region 4 with fail
  rw [← hW0]
  obtain ⟨W1, hW1⟩ : ∃ z : World, z = W0.alloc (.cells (repV 0 0 k).toArray 3) := ⟨_, rfl⟩
  have hz0 : W0.heap.size = w.heap.size + 1 := by rw [hW0]; simp
  have b1 : Below W0.heap.size W0 W1 := by rw [hW1]; exact (Below.refl _ _).alloc (Nat.le_refl _) _
  have hR1 : RowI W1 (w.heap.size + 1) (List.replicate k 0) := by
    rw [hW1]
    refine ⟨_, Cells.new' _ _ _ _ hz0.symm, fun j u hu => ?_⟩
    have e : (List.replicate k (0 : Int)).map (Value.int .i64) = repV 0 0 k := by simp [repV]
    rw [e] at hu
    simpa using hu
  rw [← hW1]
  clear hW0 hW1
  obtain ⟨g, hg⟩ : ∃ g, w.heap.size + 1 = g := ⟨_, rfl⟩
  rw [hg] at hR1 ⊢
  have hgw : w.heap.size ≤ g := by omega
  have C1 := C0.below b1
  have t1 : Below w.heap.size w W1 := b0.trans (b1.mono b0.size)
  have c0 := hR1.cell (k := 0) (by simp; omega)
  have f0 := hR1.frozen 0
  have lg := hR1.lt
  have r2 := C1.cell 2
  have lr := C1.lt
  simp at r2
  go_upto_region 5 with fail
  obtain ⟨W2, hW2⟩ : ∃ z : World, z = W1.setCell ⟨g, 0, none⟩ (.int .i64 kp) := ⟨_, rfl⟩
  have hR2 : RowI W2 g (pennyL kp k 0) := by rw [hW2, ← pennyL_zero kp hp.1]; exact hR1.set 0 kp
  have t2 : Below w.heap.size w W2 := by rw [hW2]; exact t1.setCell (p := ⟨g, 0, none⟩) hgw _
  rw [← hW2]
  clear hW2 c0 f0 lg r2 lr C1 C0 q1 q2 q3 lq d3
  have c0 := hR2.cell (k := 0) (by rw [pennyL_len]; omega)
  rw [pennyL_at kp 0 (show 0 < k by omega), Nat.zero_add, Nat.div_eq_of_lt (show 0 < k by omega)] at c0
  simp at c0
  have lg := hR2.lt
  go_wp2
  clear c0
  go_loopw [10, 11] (fun a_ l_ X => ∃ j : Nat, j ≤ R ∧ a_ = .int .i64 ((k - 1 - j % k : Nat) : Int) ∧ l_ = .int .i64 ((R - j : Nat) : Int) ∧ RowI X g (pennyL kp k j) ∧ Below w.heap.size w X) (fun _ l_ _ => (intOf l_).toNat)
  case atStart => exact ⟨0, Nat.zero_le _, by simp, by simp, hR2, t2⟩
  case round =>
    obtain ⟨j, hj, rfl, rfl, hRX, hbX⟩ := hrel
    rename World => X
    by_cases hlt : j < R
    · have hgt : (0 : Int) < ((R - j : Nat) : Int) := by omega
      have hst := pennyL_step kp hp j
      have hmod : j % k < k := Nat.mod_lt _ (by omega)
      have hb := pennyL_bd kp hp.1 (show j ≤ 4000 by omega) (show k - 1 - j % k < k by omega) hp.2 (by have := Hkb.out; omega)
      have cx := hRX.cell (k := k - 1 - j % k) (by rw [pennyL_len]; omega)
      obtain ⟨v, hv⟩ : ∃ v, (pennyL kp k j).getD (k - 1 - j % k) 0 = v := ⟨_, rfl⟩
      rw [hv] at cx hb hst
      have hnx : (j % k = k - 1 → k - 1 = k - 1 - (j + 1) % k) ∧ (j % k ≠ k - 1 → k - 1 - j % k - 1 = k - 1 - (j + 1) % k) := by
        obtain rfl | rfl | rfl | rfl | rfl : k = 1 ∨ k = 2 ∨ k = 3 ∨ k = 4 ∨ k = 5 := by omega
        all_goals omega
      have hrr : R - j - 1 = R - (j + 1) := by omega
      have wl : IntKind.i64.wrap (((R - j : Nat) : Int) - 1) = ((R - (j + 1) : Nat) : Int) := by rw [IntWalk.i64_in _ (by omega)]; omega
      obtain ⟨a, ha⟩ : ∃ a, k - 1 - j % k = a := ⟨_, rfl⟩
      obtain ⟨L, hL⟩ : ∃ L, ((R - j : Nat) : Int) = L := ⟨_, rfl⟩
      rw [ha] at cx hst ⊢
      rw [hL] at wl hgt ⊢
      have hak : a < k := by omega
      have haI : (a : Int) < (k : Int) := by omega
      have fx := hRX.frozen a
      have lgx := hRX.lt
      have wv : IntKind.i64.wrap (v + 1) = v + 1 := IntWalk.i64_in _ (by omega)
      have Hnx := Lib.hid hnx
      have Hst := Lib.hid hst
      have Hv := Lib.hid hv
      have HL := Lib.hid hL
      have Hrx := Lib.hid (hRX.set a (v + 1))
      have hbn := hbX.setCell (p := ⟨g, a, none⟩) hgw (.int .i64 (v + 1))
      by_cases hz : a = 0
      · have hjk : j % k = k - 1 := by omega
        have e1 := (Hnx.out.1 hjk)
        have wa : IntKind.i64.wrap ((a : Int) - 1) = -1 := by rw [hz]; rfl
        have He := Lib.hid e1
        clear hnx hst hv hL hz hjk e1 hmod ha hRX hrr
        go_wp2
        go_roundw
        case rel => exact ⟨j + 1, by omega, by rw [← He.out], by trivial, by rw [← Hst.out]; exact Hrx.out, hbn⟩
        case measure => have := HL.out; simp [intOf]; omega
      · have hjk : j % k ≠ k - 1 := by omega
        have e1 := (Hnx.out.2 hjk)
        rw [ha] at e1
        have wa : IntKind.i64.wrap ((a : Int) - 1) = ((a - 1 : Nat) : Int) := by rw [IntWalk.i64_in _ (by omega)]; omega
        have hna : ¬ (((a - 1 : Nat) : Int) < 0) := by omega
        have He := Lib.hid e1
        clear hnx hst hv hL hz hjk e1 hmod ha hRX hrr
        go_wp2
        go_roundw
        case rel => exact ⟨j + 1, by omega, by rw [He.out], by trivial, by rw [← Hst.out]; exact Hrx.out, hbn⟩
        case measure => have := HL.out; simp [intOf]; omega
    · obtain rfl : j = R := by omega
      have e : ((j - j : Nat) : Int) = 0 := by simp
      rw [e]
      rw [HS.out] at hRX
      clear e
      go_wp2
      go_ret
      exact ⟨⟨g, k, rfl, hgw, hRX⟩, hbX⟩
end
end Go.Proofs.Ytomjlmhnjgohdaa
