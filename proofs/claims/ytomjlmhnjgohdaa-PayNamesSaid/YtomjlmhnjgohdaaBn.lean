/- pay: the reference's Reach, Words -/
import Derived.Test.YtomjlmhnjgohdaaBm
import Derived.Test.YtomjlmhnjgohdaaAr
namespace Go.Proofs.Ytomjlmhnjgohdaa
set_option linter.unusedVariables false
set_option linter.unusedSimpArgs false
set_option linter.unnecessarySimpa false
open Go.RowKit Go.Flow Go.Shelf

theorem balN_take (rate keeps : Int) (ds : List Dis) (t u : List Int) (s : Int) : ∀ k, (∀ j, j < k → t.getD j 0 = u.getD j 0) → balN rate keeps ds t s k = balN rate keeps ds u s k
  | 0, _ => rfl
  | k + 1, h => by rw [balN, balN, balN_take rate keeps ds t u s k (fun j hj => h j (by omega)), h k (by omega)]
theorem reachL_at (rate keeps : Int) (X : Int → Int → Bool → Int) (s : Int) (ds : List Dis) {k j : Nat} (hj : j < k) (hk : k ≤ ds.length) : (reachL rate keeps X s ds k).getD j 0 = reachD rate keeps X s (ds.getD j ⟨0, 0, 0, []⟩) := by
  have h1 : j < (reachL rate keeps X s ds k).length := by simp [reachL]; omega
  rw [List.getD_eq_getElem?_getD, List.getElem?_eq_getElem h1]
  simp [reachL, show j < ds.length by omega]
/-- The end that the first k dispatches reach. -/
def endN (rate keeps : Int) (ds : List Dis) (X : Int → Int → Bool → Int) (s : Int) (k : Nat) : Int := balN rate keeps ds (reachL rate keeps X s ds ds.length) s k
theorem endN_succ (rate keeps : Int) (ds : List Dis) (X : Int → Int → Bool → Int) (s : Int) {k : Nat} (h : k < ds.length) : endN rate keeps ds X s (k + 1) = endN rate keeps ds X s k + chF rate keeps ds[k] (reachD rate keeps X s ds[k]) s := by
  unfold endN
  rw [balN, reachL_at _ _ _ _ _ h (Nat.le_refl _)]
  simp [h]
section
variable (st rate keeps : Int) (ds : List Dis) (ad : Option Addr) (cd : Nat) (s : Nat) (high : Bool) (w : World) (hd : DisAt w ad ds) (h0 : accErr ⟨st, rate, keeps, ds⟩ = 0) (hs : (s : Int) < st)
include hd h0 hs
set_option maxRecDepth 100000 in
set_option maxHeartbeats 4000000 in
theorem rReach_any : Calls Try.prog 43 #[.agg #[.int .i64 st, .int .i64 rate, .int .i64 keeps, .slice ad ds.length cd], .int .i64 (s : Int), .bool high] w fun e w' => (∃ a c, e = .returned (.tuple #[.slice a ds.length c, .int .i64 (endB rate keeps ds (endX high) (s : Int))]) ∧ IntsAt w' a (reachL rate keeps (endX high) (s : Int) ds ds.length)) ∧ Below w.heap.size w w' := by
  have G := good_of h0
  simp only at G
  have hn6 := G.n
  have ren := fun (k : Nat) (hk : k < ds.length) W (b : Below w.heap.size w W) => rEnds_any st rate keeps ds ad cd s k high W (hd.below b) h0 hs hk
  have hbd : ∀ k, k ≤ ds.length → -4000 * (k : Int) ≤ endN rate keeps ds (endX high) (s : Int) k ∧ endN rate keeps ds (endX high) (s : Int) k ≤ 8001 * (k : Int) := fun k hk =>
    balN_bd G (reachL_bd G _ _ _) (by rw [reachL_len]; exact Nat.le_refl _) k (by rw [reachL_len]; exact hk)
  have hra : ∀ k (hk : k < ds.length), chF rate keeps ds[k] (endX high ds[k].lo ds[k].hi (ds[k].payer == (s : Int))) (s : Int) = chF rate keeps ds[k] (reachD rate keeps (endX high) (s : Int) ds[k]) (s : Int) := fun k hk =>
    (reach_at G.r.1 G.k ds[k] (G.p _ (List.getElem_mem hk)) (G.w _ (List.getElem_mem hk)).2.1 (s : Int) high).1.symm
  have hE : endB rate keeps ds (endX high) (s : Int) = endN rate keeps ds (endX high) (s : Int) ds.length := rfl
  rw [hE]
  obtain ⟨W0, hW0⟩ : ∃ z : World, z = w.alloc (.cells #[.int .i64 st, .int .i64 rate, .int .i64 keeps, .slice ad ds.length cd] 24) := ⟨_, rfl⟩
  have b0 : Below w.heap.size w W0 := by rw [hW0]; (repeat (first | exact Below.refl _ _ | refine Below.alloc ?_ (by first | omega | (simp; done) | (simp; omega)) _ | refine Below.drew ?_ | refine Below.setCell ?_ (by first | omega | (simp; done) | (simp; omega)) _ | refine Below.trans ?_ (Below.mono (by assumption) (by first | omega | (simp; done) | (simp; omega)))))
  have C0 : Cells W0 w.heap.size #[.int .i64 st, .int .i64 rate, .int .i64 keeps, .slice ad ds.length cd] 24 := by rw [hW0]; exact Cells.new _ _ _
  have Hbd := Lib.hid hbd
  have Hra := Lib.hid hra
  clear hbd hra hE G h0
  go_enter Try.func43, Try.ntmps43
  go_wp2
  rw [← hW0]
  clear hW0
  go_loopw [8, 9, 10, 11, 12] (fun u v j _ _ X => ∃ (k : Nat) (ao : Option Addr) (co : Nat), k ≤ ds.length ∧ j = .int .i64 k ∧ u = .slice ao k co ∧ v = .int .i64 (endN rate keeps ds (endX high) (s : Int) k) ∧ OwnL 3 1 W0.heap.size X ao co k ((reachL rate keeps (endX high) (s : Int) ds k).map (Value.int .i64)) ∧ Below W0.heap.size W0 X) (fun _ _ j _ _ _ => ds.length - (intOf j).toNat)
  case atStart => exact ⟨0, none, 0, Nat.zero_le _, rfl, rfl, rfl, OwnL.nil _ _ _ _, Below.refl _ _⟩
  case round =>
    obtain ⟨k, ao, co, hk, rfl, rfl, rfl, own, hbX⟩ := hrel
    rename World => X
    have tX := b0.trans (hbX.mono b0.size)
    have C1 := C0.below hbX
    have q0 := C1.cell 0
    have q1 := C1.cell 1
    have q2 := C1.cell 2
    have q3 := C1.cell 3
    have lq := C1.lt
    simp at q0 q1 q2 q3
    by_cases hlt : k < ds.length
    · have hkI : (k : Int) < (ds.length : Int) := by omega
      have rc := ren k hlt X tX
      rw [Hra.out k hlt] at rc
      have hsu := reachL_succ rate keeps (endX high) (s : Int) ds hlt
      have hes := endN_succ rate keeps ds (endX high) (s : Int) hlt
      have hb0 := Hbd.out k hk
      have hb1 := Hbd.out (k + 1) (by omega)
      rw [hes] at hb1
      obtain ⟨x, hx⟩ : ∃ x, reachD rate keeps (endX high) (s : Int) ds[k] = x := ⟨_, rfl⟩
      rw [hx] at rc hsu hes hb1
      obtain ⟨v, hv⟩ : ∃ v, chF rate keeps ds[k] x (s : Int) = v := ⟨_, rfl⟩
      rw [hv] at rc hes hb1
      obtain ⟨E, hE⟩ : ∃ E, endN rate keeps ds (endX high) (s : Int) k = E := ⟨_, rfl⟩
      rw [hE] at hes hb0 hb1 ⊢
      have Hsu := Lib.hid hsu
      have Hes := Lib.hid hes
      have wS : IntKind.i64.wrap (E + v) = E + v := IntWalk.i64_in _ (by push_cast at hb1; omega)
      clear hsu hes hx hv hE
      go_wp2_with fail
      go_at_call 78
      refine rc.mono ?_
      rintro e Y ⟨rfl, hb⟩
      have own2 := own.kept hb
      have bY := hbX.trans (hb.mono hbX.size)
      go_wp2_with (at_builtin; refine wpList_app_lit_at elInt rfl _ _ rfl W0.heap.size ao k co _ rfl own2 1 1 rfl rfl (fun u hu => by simp at hu; subst hu; rfl) (by unfold maxLen; omega) (by omega) bY.size ?_; intro a9 c9 Y3 o9 b9 _)
      have b19 := bY.trans b9
      go_wp2
      go_roundw
      case rel => exact ⟨k + 1, a9, c9, by omega, by go_num, rfl, by rw [Hes.out], by rw [Hsu.out, List.map_append]; exact o9, b19⟩
      case measure => simp [intOf]; omega
    · obtain rfl : k = ds.length := by omega
      have hI := own.ints.1
      go_wp2
      go_ret2
      exact ⟨⟨ao, co, rfl, hI⟩, tX⟩
end
end Go.Proofs.Ytomjlmhnjgohdaa
