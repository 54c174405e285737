/- pay: the words with which a balance is at an end -/
import Derived.Test.YtaphfibfjepceaaAk
import Derived.Test.YtaphfibfjepceaaAn
namespace Go.Proofs.Ytaphfibfjepceaa
set_option linter.unusedVariables false
set_option linter.unusedSimpArgs false
set_option linter.unnecessarySimpa false
open Go.RowKit Go.Flow Go.Shelf

/-- The first number from n on, of at most k, at which f is b. -/
def firstN (f : Int → Int) (b : Int) : Nat → Int → Int
  | 0, n => n
  | k + 1, n => if f n = b then n else firstN f b k (n + 1)
theorem firstN_hit {f : Int → Int} {b : Int} {n : Int} (h : f n = b) : ∀ k, firstN f b k n = n
  | 0 => rfl
  | k + 1 => by rw [firstN, if_pos h]
theorem firstN_miss {f : Int → Int} {b : Int} {n : Int} (h : f n ≠ b) (k : Nat) : firstN f b (k + 1) n = firstN f b k (n + 1) := by rw [firstN, if_neg h]
def reachD (rate keeps : Int) (X : Int → Int → Bool → Int) (s : Int) (d : Dis) : Int := firstN (fun n => chF rate keeps d n s) (chF rate keeps d (X d.lo d.hi (d.payer == s)) s) (d.hi - d.lo).toNat d.lo
def reachL (rate keeps : Int) (X : Int → Int → Bool → Int) (s : Int) (ds : List Dis) (k : Nat) : List Int := (ds.take k).map (reachD rate keeps X s)
theorem reachL_succ (rate keeps : Int) (X : Int → Int → Bool → Int) (s : Int) (ds : List Dis) {k : Nat} (h : k < ds.length) : reachL rate keeps X s ds (k + 1) = reachL rate keeps X s ds k ++ [reachD rate keeps X s ds[k]] := by
  rw [reachL, List.take_succ_eq_append_getElem h, List.map_append]; rfl

section
variable (B bm : Nat) (st rate keeps : Int) (ds : List Dis) (ad : Option Addr) (cd : Nat) (s : Int) (n : Nat) (w : World) (hw : WkAt w B bm st rate keeps ad ds.length cd) (hd : DisAt w ad ds) (av : List (Option Nat)) (hav : ∀ q, some q ∈ av → q < w.heap.size) (hM : MemoL w bm n (shF rate keeps ds) av) (G : Good rate keeps ds) (hn : n + 1300 < maxLen)
  (F : FuncId) (X : Int → Int → Bool → Int) (hg : ∀ args w, Sem.run Try.prog (callFunc F args) w = .ok (.enter F args) w) (hF : ∀ lo hi b w, Calls Try.prog F #[.agg #[.int .i64 lo, .int .i64 hi], .bool b] w fun e w' => e = .returned (.int .i64 (X lo hi b)) ∧ Below w.heap.size w w') (hX : ∀ lo hi b, lo ≤ hi → lo ≤ X lo hi b ∧ X lo hi b ≤ hi)
include hav hw hd hM G hn hg hF hX
set_option maxRecDepth 100000 in
set_option maxHeartbeats 4000000 in
theorem endTruth_any : Calls Try.prog 34 #[.agg #[.func (.func F) #[] #[]], .pointer (some ⟨B, 0, none⟩), .int .i64 s] w fun e w' => (∃ a c, e = .returned (.slice a ds.length c) ∧ IntsAt w' a (reachL rate keeps X s ds ds.length) ∧ (a = none → c = 0)) ∧ Keep bm w w' ∧ MemoL w' bm (n + 1300) (shF rate keeps ds) av := by
  have hn6 := G.n
  obtain ⟨W0, hW0⟩ : ∃ z : World, z = w.alloc (.cells #[.func (.func F) #[] #[]] 84) := ⟨_, rfl⟩
  have b0 : Below w.heap.size w W0 := by rw [hW0]; exact (Below.refl _ _).alloc (Nat.le_refl _) _
  have CF : Cells W0 w.heap.size #[.func (.func F) #[] #[]] 84 := by rw [hW0]; exact Cells.new _ _ _
  have f0 := CF.cell 0
  have f1 := CF.lt
  simp at f0
  have K0 := hw.below b0
  have D0 := hd.below b0
  have M0 := hM.below b0
  have q3 := K0.c3
  have lB := K0.lt
  have z0 := b0.size
  have q3w := hw.c3
  have lBw := hw.lt
  go_enter Try.func34, Try.ntmps34
  go_wp2
  rw [← hW0]
  clear hW0
  go_loopw [6, 7, 8, 9, 10, 17] (fun u _ _ _ _ j X1 => ∃ (k : Nat) (ao : Option Addr) (co : Nat), k ≤ ds.length ∧ j = .int .i64 k ∧ u = .slice ao k co ∧ OwnL 3 1 W0.heap.size X1 ao co k ((reachL rate keeps X s ds k).map (Value.int .i64)) ∧ Keep bm W0 X1 ∧ MemoL X1 bm (n + 201 * k) (shF rate keeps ds) ((Value.slice ao k co).ownBlock :: av)) (fun _ _ _ _ _ j _ => ds.length - (intOf j).toNat)
  case atStart => exact ⟨0, none, 0, Nat.zero_le _, rfl, rfl, (OwnL.nil _ _ _ _ : OwnL 3 1 W0.heap.size W0 none 0 0 []), Keep.refl M0.isMap, M0.avoid (fun q e => .inl (by simpa [Value.ownBlock] using e))⟩
  case round =>
    obtain ⟨k, ao, co, hk, rfl, rfl, own, kp, hMk⟩ := hrel
    have hob := own_block own hMk.isMap
    by_cases hlt : k < ds.length
    · have hkI : (k : Int) < (ds.length : Int) := by omega
      have hsu := reachL_succ rate keeps X s ds hlt
      obtain ⟨bd, od, al, cl, rfl, hbd, d0, d1, d2, d3, hPa⟩ := (D0.keep kp) k hlt
      have hrd : reachD rate keeps X s ds[k] = firstN (fun n => chF rate keeps ds[k] n s) (chF rate keeps ds[k] (X ds[k].lo ds[k].hi (ds[k].payer == s)) s) (ds[k].hi - ds[k].lo).toNat ds[k].lo := rfl
      have hGw := G.w _ (List.getElem_mem hlt)
      have hch := fun x (m : Nat) (hx : 1 ≤ x ∧ x ≤ 200) (W : World) (kW : Keep bm wr W) (hm : MemoL W bm m (shF rate keeps ds) ((Value.slice ao k co).ownBlock :: av)) (hmm : m < maxLen) => change_any B bm st rate keeps ds (some ⟨bd, od, none⟩) cd k x s m W ((K0.keep kp).keep kW) ((D0.keep kp).keep kW) ((Value.slice ao k co).ownBlock :: av) (fun q e => by
        rcases List.mem_cons.1 e with e | e
        · exact Nat.lt_of_lt_of_le (hob.2 q e.symm).2 kW.size
        · exact Nat.lt_of_lt_of_le (hav q e) (Nat.le_trans z0 (Nat.le_trans kp.size kW.size))) hm hlt G.r G.k hx (G.p _ (List.getElem_mem hlt)) (by omega) hmm
      obtain ⟨d, hde⟩ : ∃ d, ds[k] = d := ⟨_, rfl⟩
      rw [hde] at d0 d1 d2 d3 hPa hrd hsu hGw
      simp only [hde] at hch
      obtain ⟨py, lo, hi2, l⟩ := d
      dsimp only at d0 d1 d2 d3 hPa hrd hGw
      have q3' := kp.cell q3
      have f0' := kp.cell f0
      have lB' := Nat.lt_of_lt_of_le lB kp.size
      have f1' := Nat.lt_of_lt_of_le f1 kp.size
      have Hsu := Lib.hid hsu
      have Hrd := Lib.hid hrd
      have Hob := Lib.hid hob
      clear hsu hrd hob hde
      have hf := hF lo hi2 (py == s)
      have hx := hX lo hi2 (py == s) hGw.2.1
      obtain ⟨x, hxe⟩ : ∃ x, X lo hi2 (py == s) = x := ⟨_, rfl⟩
      rw [hxe] at hf hx
      have CD : Cells (wr.alloc (.cells #[.int .i64 py, .int .i64 lo, .int .i64 hi2, .slice al l.length cl] 67)) wr.heap.size #[.int .i64 py, .int .i64 lo, .int .i64 hi2, .slice al l.length cl] 67 := Cells.new _ _ _
      have bD : Below wr.heap.size wr (wr.alloc (.cells #[.int .i64 py, .int .i64 lo, .int .i64 hi2, .slice al l.length cl] 67)) := (Below.refl _ _).alloc (Nat.le_refl _) _
      go_wp2_with fail
      refine (hf _).mono ?_
      rintro e w2 ⟨rfl, b2⟩
      have C2 := CD.below b2
      have b12 := bD.trans (b2.mono bD.size)
      have kW := Keep.of_below hMk.isMap b12
      have M2 := hMk.below b12
      have hxb : 1 ≤ x ∧ x ≤ 200 := by omega
      have hc1 := hch x (n + 201 * k) hxb w2 kW M2 (by omega)
      obtain ⟨v, hv⟩ : ∃ v, chF rate keeps ⟨py, lo, hi2, l⟩ x s = v := ⟨_, rfl⟩
      rw [hv] at hc1
      clear bD CD b2
      go_wp2_with fail
      go_at_call 53
      refine hc1.mono ?_
      rintro e w3 ⟨rfl, k3, M3⟩
      have y1 := k3.cell (C2.cell 1)
      have yl := cell_ltK y1
      simp at y1
      have k13 := kW.trans k3
      have Hv := Lib.hid hv
      have hrd2 : reachD rate keeps X s ⟨py, lo, hi2, l⟩ = firstN (fun n => chF rate keeps ⟨py, lo, hi2, l⟩ n s) v (hi2 - lo).toNat lo := by rw [Hrd.out, hxe, hv]
      have Hrd2 := Lib.hid hrd2
      clear hv hrd2 hxe Hrd
      go_wp2
      go_loopw [10] (fun u X2 => ∃ m : Nat, u = .int .i64 (lo + m) ∧ lo + m ≤ x ∧ Keep bm w3 X2 ∧ MemoL X2 bm (n + 201 * k + 1 + m) (shF rate keeps ds) ((Value.slice ao k co).ownBlock :: av) ∧ reachD rate keeps X s ⟨py, lo, hi2, l⟩ = firstN (fun n => chF rate keeps ⟨py, lo, hi2, l⟩ n s) v ((hi2 - lo).toNat - m) (lo + m)) (fun u _ => (x - intOf u).toNat)
      case atStart => exact ⟨0, by simp, by simp; omega, Keep.refl M3.isMap, by simpa using M3, by rw [Hrd2.out]; simp⟩
      case round =>
        obtain ⟨m, rfl, hmx, k4, M4, hfi⟩ := hrel
        rename World => U
        have Hfi := Lib.hid hfi
        clear hfi
        have hn1 : 1 ≤ lo + (m : Int) ∧ lo + (m : Int) ≤ 200 := by omega
        have hc2 := hch (lo + m) (n + 201 * k + 1 + m) hn1 U (k13.trans k4) M4 (by omega)
        obtain ⟨c, hc⟩ : ∃ c, chF rate keeps ⟨py, lo, hi2, l⟩ (lo + m) s = c := ⟨_, rfl⟩
        rw [hc] at hc2
        obtain ⟨N, hN⟩ : ∃ N, lo + (m : Int) = N := ⟨_, rfl⟩
        rw [hN] at hn1 hc hc2 hmx ⊢
        by_cases hcv : c = v
        · subst hcv
          have hR : reachD rate keeps X s ⟨py, lo, hi2, l⟩ = N := by rw [Hfi.out, hN]; exact firstN_hit (f := fun n => chF rate keeps ⟨py, lo, hi2, l⟩ n s) hc _
          have hR2 := Hsu.out
          rw [hR] at hR2
          have HR := Lib.hid hR2
          have hcnt : n + 201 * k + 1 + m + 1 ≤ n + 201 * (k + 1) := by omega
          have hlen2 : (Value.slice ao k co).ownBlock = (Value.slice ao k co).ownBlock := rfl
          clear hR hR2 hc Hv Hfi hN hlen2
          have hne : (c != c) = false := by simp
          go_wp2_with fail
          go_at_call 53
          refine hc2.mono ?_
          rintro e U2 ⟨rfl, k5, M5⟩
          have k15 := (k13.trans k4).trans k5
          have own5 := own.keep k15
          have kp5 := kp.trans k15
          go_wp2_with (at_builtin; refine wpList_app_lit_av elInt rfl _ _ rfl W0.heap.size ao k co _ rfl own5 1 1 rfl rfl (fun u hu => by simp at hu; subst hu; rfl) (by unfold maxLen; omega) (by omega) kp5.size (by omega) ?_; intro a9 c9 U3 own6 hg6 hv6)
          have bl : Below U2.heap.size U2 (U2.alloc (.cells #[.int .i64 N] 3)) := (Below.refl _ _).alloc (Nat.le_refl _) _
          have ob5 := own_block own5 M5.isMap
          have M6 := (M5.below bl).turn hg6 ob5.1 hv6
          have kp6 := (kp5.below bl).own hg6 (fun q e => (ob5.2 q e).1) ob5.1
          go_wp2
          go_roundw
          case rel => exact ⟨k + 1, a9, c9, by omega, by go_num, rfl, by rw [HR.out, List.map_append]; exact own6, kp6, M6.mono hcnt⟩
          case measure => simp [intOf]; omega
        · have hne : (c != v) = true := by simpa using hcv
          have hNx : N ≠ x := fun e => by subst e; exact hcv (hc.symm.trans Hv.out)
          have wN : IntKind.i64.wrap (N + 1) = N + 1 := IntWalk.i64_in _ (by omega)
          have hms : firstN (fun n => chF rate keeps ⟨py, lo, hi2, l⟩ n s) v ((hi2 - lo).toNat - m) N = firstN (fun n => chF rate keeps ⟨py, lo, hi2, l⟩ n s) v ((hi2 - lo).toNat - (m + 1)) (N + 1) := by
            rw [show (hi2 - lo).toNat - m = ((hi2 - lo).toNat - (m + 1)) + 1 by omega]
            exact firstN_miss (by rw [hc]; exact hcv) _
          have hfi := Hfi.out
          rw [hN, hms] at hfi
          have Hfi2 := Lib.hid hfi
          have HN := Lib.hid hN
          have HNx := Lib.hid hNx
          clear hfi hms Hfi hN hc hNx hcv
          go_wp2_with fail
          go_at_call 53
          refine hc2.mono ?_
          rintro e U2 ⟨rfl, k5, M5⟩
          go_wp2
          go_roundw
          case rel => exact ⟨m + 1, by have := HN.out; push_cast; rw [← this]; congr 1; omega, by have := HN.out; have := HNx.out; push_cast; omega, k4.trans k5, M5, by have := HN.out; rw [Hfi2.out]; push_cast; rw [← this, Int.add_assoc]⟩
          case measure => have := HNx.out; simp [intOf]; omega
    · obtain rfl : k = ds.length := by omega
      go_wp2
      go_ret
      exact ⟨⟨ao, co, rfl, own.ints.1, fun h => by subst h; exact own.isnil.2⟩, (Keep.of_below hM.isMap b0).trans kp, (hMk.mono (by omega)).avoid (fun q e => .inl (List.mem_cons_of_mem _ e))⟩
end
end Go.Proofs.Ytaphfibfjepceaa
