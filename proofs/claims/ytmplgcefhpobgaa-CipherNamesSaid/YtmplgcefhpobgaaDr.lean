/- cipher: the reference's Agrees, AskFault; asked; has -/
import Derived.Test.YtmplgcefhpobgaaDq
import Derived.Test.YtmplgcefhpobgaaDn
namespace Go.Proofs.Ytmplgcefhpobgaa
set_option linter.unusedVariables false
set_option linter.unusedSimpArgs false
set_option linter.unnecessarySimpa false
open Go.RowKit Go.Flow

set_option maxRecDepth 100000 in
set_option maxHeartbeats 4000000 in
theorem has_any (a : Option Addr) (l : List Int) (c : Nat) (n : Int) (w : World) (hl : IntsAt w a l) (ll : l.length ≤ 1000) :
    Calls Try.prog 46 #[.slice a l.length c, .int .i64 n] w fun e w' => e = .returned (.bool (l.any (· == n))) ∧ w = w' := by
  go_enter Try.func46, Try.ntmps46
  go_wp2
  go_loop [5] (fun i => ∃ k : Nat, k ≤ l.length ∧ i = .int .i64 k ∧ Hid ((l.take k).any (· == n) = false)) (fun i => l.length - (intOf i).toNat)
  case atStart => exact ⟨0, Nat.zero_le _, rfl, Lib.hid rfl⟩
  case round =>
    obtain ⟨k, hk, rfl, Hn⟩ := hrel
    by_cases hlt : k < l.length
    · obtain ⟨b, off, rfl, hbl, c0⟩ := hl k hlt
      have hltI : (k : Int) < (l.length : Int) := by omega
      replace c0 := c0.trans (by rw [List.getD_eq_getElem?_getD, List.getElem?_eq_getElem hlt]; rfl : _ = some (Value.int .i64 l[k]))
      obtain ⟨x, hx⟩ : ∃ x, l[k] = x := ⟨_, rfl⟩
      rw [hx] at c0
      have Hx := Lib.hid hx
      clear hx
      cases hb : (x == n)
      · have Hb := Lib.hid hb
        go_wp2
        go_round
        case rel => exact ⟨k + 1, by omega, by go_num, Lib.hid (any_take_succ (p := (· == n)) hlt Hn.out (by rw [Hx.out]; exact Hb.out))⟩
        case measure => simp [intOf]; omega
      · have Hr : Hid (l.any (· == n) = true) := Lib.hid (any_true_at hlt (by rw [Hx.out]; exact hb))
        go_wp2
        go_ret
        rw [Hr.out]
        exact ⟨rfl, rfl⟩
    · have Hr : Hid (l.any (· == n) = false) := Lib.hid (any_false_of_take (by omega) Hn.out)
      obtain rfl : k = l.length := by omega
      go_wp2
      go_ret
      rw [Hr.out]
      exact ⟨rfl, rfl⟩

set_option maxRecDepth 100000 in
set_option maxHeartbeats 8000000 in
theorem refAgrees_any (s wo : Int) (bks bds : Value) (m a st : Int) (ac : Option Addr) (codes : List Int) (cc : Nat) (ag : Option Addr) (gs : List (Int × Int)) (cg : Nat) (r : Bool) (Hr0 : Hid (gs.all (agreeOk s m a st codes) = r)) (w : World) (s0 : 0 < s) (s1 : s ≤ 1000) (m0 : 0 ≤ m) (m1 : m ≤ 1000) (a0 : 0 ≤ a) (a1 : a ≤ 1000) (st0 : 0 ≤ st) (st1 : st ≤ 1000)
    (hc : IntsAt w ac codes) (lc : codes.length ≤ 1000) (hg : Recs2At w ag gs) (lg : gs.length ≤ 1000) (hgo : Hid (gs.all (guessOk s codes.length) = true)) :
    Calls Try.prog 82 #[.agg #[.int .i64 s, .int .i64 wo, bks, bds], .agg #[.int .i64 m, .int .i64 a, .int .i64 st], .slice ac codes.length cc, .slice ag gs.length cg] w fun e w' => e = .returned (.bool r) ∧ Below w.heap.size w w' := by
  go_enter Try.func82, Try.ntmps82
  go_wp2
  obtain ⟨W0, hW0⟩ : ∃ z : World, z = (w.alloc (.cells #[.int .i64 s, .int .i64 wo, bks, bds] 25)).alloc (.cells #[.int .i64 m, .int .i64 a, .int .i64 st] 82) := ⟨_, rfl⟩
  have t0 : Below w.heap.size w W0 := by rw [hW0]; (repeat (first | exact Below.refl _ _ | refine Below.alloc ?_ (by first | omega | (simp; done) | (simp; omega)) _ | refine Below.drew ?_ | refine Below.setCell ?_ (by first | omega | (simp; done) | (simp; omega)) _ | refine Below.trans ?_ (Below.mono (by assumption) (by first | omega | (simp; done) | (simp; omega)))))
  have z0 : W0.heap.size = w.heap.size + 1 + 1 := by rw [hW0]; simp
  have cB : Cells W0 w.heap.size #[.int .i64 s, .int .i64 wo, bks, bds] 25 := by rw [hW0]; exact (Cells.new _ _ _).below ((Below.refl _ _).alloc (Nat.le_refl _) _)
  have cK : Cells W0 (w.heap.size + 1) #[.int .i64 m, .int .i64 a, .int .i64 st] 82 := by
    rw [hW0]
    have := Cells.new (w.alloc (.cells #[.int .i64 s, .int .i64 wo, bks, bds] 25)) #[.int .i64 m, .int .i64 a, .int .i64 st] 82
    rwa [World.size_alloc] at this
  rw [← hW0]
  clear hW0
  go_loopw [9] (fun i wr => ∃ k : Nat, k ≤ gs.length ∧ i = .int .i64 k ∧ Hid ((gs.take k).all (agreeOk s m a st codes) = true) ∧ Below W0.heap.size W0 wr) (fun i _ => gs.length - (intOf i).toNat)
  case atStart => exact ⟨0, Nat.zero_le _, rfl, Lib.hid rfl, Below.refl _ _⟩
  case round =>
    obtain ⟨k, hk, rfl, Hn, bR⟩ := hrel
    have tR := t0.trans (bR.mono t0.size)
    by_cases hlt : k < gs.length
    · obtain ⟨b, off, rfl, hbl, g0, g1⟩ := (hg.below tR) k hlt
      have hltI : (k : Int) < (gs.length : Int) := by omega
      have hgx := List.all_eq_true.1 hgo.out gs[k] (List.getElem_mem hlt)
      obtain ⟨⟨x, y⟩, hxe⟩ : ∃ x, gs[k] = x := ⟨_, rfl⟩
      rw [hxe] at g0 g1 hgx
      simp only at g0 g1
      simp [guessOk, ownOk, plainOk] at hgx
      obtain ⟨i, rfl⟩ := Int.eq_ofNat_of_zero_le (show 0 ≤ x by omega)
      have hi : i < codes.length := by omega
      have hiI : (i : Int) < (codes.length : Int) := by omega
      have y0 : 0 ≤ y := by omega
      have y1 : y ≤ 1000 := by omega
      obtain ⟨b2, off2, rfl, hbl2, c0⟩ := (hc.below tR) i hi
      have Hag : Hid (agreeOk s m a st codes gs[k] = (codeN s m a st y i == codes.getD i 0)) := Lib.hid (by rw [hxe]; simp [agreeOk])
      have hcode := codeOf_any s wo m a st y i bks bds
      obtain ⟨v, hv⟩ : ∃ v, codeN s m a st y i = v := ⟨_, rfl⟩
      obtain ⟨u, hu⟩ : ∃ v, codes.getD i 0 = v := ⟨_, rfl⟩
      rw [hu] at c0
      have hcode2 : ∀ V, Calls Try.prog 64 #[.agg #[.int .i64 s, .int .i64 wo, bks, bds], .agg #[.int .i64 m, .int .i64 a, .int .i64 st], .int .i64 y, .int .i64 i] V fun e w' => e = .returned (.int .i64 v) ∧ Below V.heap.size V w' := fun V => by
        rw [← hv]; exact hcode V (by omega) (by omega) (by omega) (by omega) (by omega) (by omega) (by omega) (by omega) (by omega) (by omega) (by omega) (by omega)
      have cBR := cB.below bR
      have cKR := cK.below bR
      have e0 := cBR.cell 0
      have e1 := cBR.cell 1
      have e2 := cBR.cell 2
      have e3 := cBR.cell 3
      have f0 := cKR.cell 0
      have f1 := cKR.cell 1
      have f2 := cKR.cell 2
      simp at e0 e1 e2 e3 f0 f1 f2
      have lB := cBR.lt
      have lK := cKR.lt
      have Hvu : Hid (codeN s m a st y i = v ∧ codes.getD i 0 = u) := Lib.hid ⟨hv, hu⟩
      clear hxe hv hu hcode hgx
      cases hb : (v != u)
      · have Hb := Lib.hid hb
        clear hb
        have hb : (v != u) = false := Hb.out
        go_wp2_with fail
        (refine wp_region_ext 22 (by kernel_rfl) (by kernel_rfl) ?_; simp only [List.take_succ_cons, List.take_zero, List.drop_succ_cons, List.drop_zero]; (repeat (go_big_quiet_step (((go_at_call 64; refine Calls_ext (hcode2 _)))))); refine wpQuiet_nil ?_; rintro _ ⟨ex, rfl⟩; have hex := ex.below; have hexz := ex.size; (try simp at hexz); (try (have hy0 : w.heap.size < ex.to.heap.size := by omega)); (try (have hy1 : w.heap.size + 1 < ex.to.heap.size := by omega)); (try (have hy2 : w.heap.size + 2 < ex.to.heap.size := by omega)))
        have bE := ex.below
        clear hb
        go_wp2_with fail
        go_roundw
        case rel => exact ⟨k + 1, by omega, by go_num, Lib.hid (all_take_succ hlt Hn.out (by rw [Hag.out, Hvu.out.1, Hvu.out.2]; have := Hb.out; simpa using this)), bR.trans (bE.mono bR.size)⟩
        case measure => simp [intOf]; omega
      · have Hf : Hid (r = false) := Lib.hid (by rw [← Hr0.out]; exact all_false_at hlt (by rw [Hag.out, Hvu.out.1, Hvu.out.2]; simpa using hb))
        go_wp2_with fail
        (refine wp_region_ext 22 (by kernel_rfl) (by kernel_rfl) ?_; simp only [List.take_succ_cons, List.take_zero, List.drop_succ_cons, List.drop_zero]; (repeat (go_big_quiet_step (((go_at_call 64; refine Calls_ext (hcode2 _)))))); refine wpQuiet_nil ?_; rintro _ ⟨ex, rfl⟩; have hex := ex.below; have hexz := ex.size; (try simp at hexz); (try (have hy0 : w.heap.size < ex.to.heap.size := by omega)); (try (have hy1 : w.heap.size + 1 < ex.to.heap.size := by omega)); (try (have hy2 : w.heap.size + 2 < ex.to.heap.size := by omega)))
        have bE := ex.below
        go_wp2_with fail
        go_ret
        rw [Hf.out]
        exact ⟨rfl, tR.trans (bE.mono tR.size)⟩
    · have Hf : Hid (r = true) := Lib.hid (by rw [← Hr0.out]; exact all_of_take (by omega) Hn.out)
      obtain rfl : k = gs.length := by omega
      go_wp2_with fail
      go_ret
      rw [Hf.out]
      exact ⟨rfl, tR⟩
end Go.Proofs.Ytmplgcefhpobgaa
