/- cipher: Check, Same, list -/
import Derived.Test.YtmplgcefhpobgaaDa
namespace Go.Proofs.Ytmplgcefhpobgaa
set_option linter.unusedVariables false
set_option linter.unusedSimpArgs false
set_option linter.unnecessarySimpa false
open Go.RowKit Go.Flow

set_option maxHeartbeats 1000000 in
theorem refCheck_any (s wo : Int) (ks ds : Value) (al : Option Addr) (l : List Int) (cl : Nat) (w : World) (h0 : 0 < s) (h1 : s ≤ 1000) (hl : IntsAt w al l) (hn : l.length ≤ 1000) (hb : ∀ x ∈ l, 0 ≤ x ∧ x ≤ 1000) :
    Calls Try.prog 65 #[.agg #[.int .i64 s, .int .i64 wo, ks, ds], .slice al l.length cl] w fun e w' => e = .returned (.int .i64 (checkN s l)) ∧ Below w.heap.size w w' := by
  have hne : (s == 0) = false := by simp; omega
  go_enter Try.func65, Try.ntmps65
  go_wp2
  have hbS : Below w.heap.size w (w.alloc (.cells #[.int .i64 s, .int .i64 wo, ks, ds] 25)) := by (repeat (first | exact Below.refl _ _ | refine Below.alloc ?_ (by first | omega | (simp; done) | (simp; omega)) _ | refine Below.drew ?_ | refine Below.setCell ?_ (by first | omega | (simp; done) | (simp; omega)) _ | refine Below.trans ?_ (Below.mono (by assumption) (by first | omega | (simp; done) | (simp; omega)))))
  go_loopw [5, 6] (fun t i wr => ∃ k : Nat, k ≤ l.length ∧ i = .int .i64 k ∧ t = .int .i64 (checkN s (l.take k)) ∧ Below (w.heap.size + 1) (w.alloc (.cells #[.int .i64 s, .int .i64 wo, ks, ds] 25)) wr) (fun _ i _ => l.length - (intOf i).toNat)
  case atStart => exact ⟨0, Nat.zero_le _, rfl, by simp [checkN, wsum], Below.refl _ _⟩
  case round =>
    obtain ⟨k, hk, rfl, rfl, hbr⟩ := hrel
    have hwr : Below w.heap.size w wr := hbS.trans (hbr.mono (by omega))
    have hz : w.heap.size < wr.heap.size := by have := hbr.size; simp at this; omega
    have hB0 : wr.cell? ⟨w.heap.size, 0, none⟩ = some (.int .i64 s) := (hbr.cell (p := ⟨w.heap.size, 0, none⟩) (by simp)).trans (cell_new w _ _ 0 _ rfl)
    have hcb : 0 ≤ checkN s (l.take k) ∧ checkN s (l.take k) < s := ⟨Int.emod_nonneg _ (by omega), Int.emod_lt_of_pos _ h0⟩
    by_cases hlt : k < l.length
    · obtain ⟨b, off, rfl, hbl, hc⟩ := (hl.below hwr) k hlt
      have hc' : wr.cell? ⟨b, off + k, none⟩ = some (.int .i64 l[k]) := hc.trans (by simp [hlt])
      obtain ⟨hx0, hx1⟩ := hb l[k] (List.getElem_mem hlt)
      obtain ⟨hm0, hm1⟩ := mul_b (a := (k : Int) + 1) (b := l[k]) (A := 1001) (B := 1000) (by omega) (by omega) hx0 hx1
      have hnext : checkN s (l.take (k + 1)) = (checkN s (l.take k) + ((k : Int) + 1) * l[k]) % s := by
        unfold checkN
        rw [wsum_take l k hlt, Int.emod_add_emod]
      have Hn := Lib.hid hnext
      have hltI : (k : Int) < (l.length : Int) := by omega
      obtain ⟨C, hC⟩ : ∃ C, checkN s (l.take k) = C := ⟨_, rfl⟩
      obtain ⟨x, hx⟩ : ∃ x, l[k] = x := ⟨_, rfl⟩
      rw [hC, hx] at Hn
      rw [hx] at hc' hm0 hm1
      rw [hC] at hcb ⊢
      have x1 : IntKind.i64.wrap (((k : Int) + 1) * x) = ((k : Int) + 1) * x := IntWalk.i64_in _ (by omega)
      have x2 : IntKind.i64.wrap (C + ((k : Int) + 1) * x) = C + ((k : Int) + 1) * x := IntWalk.i64_in _ (by omega)
      have x3 : 0 ≤ C + ((k : Int) + 1) * x := by omega
      clear hc hx hC hnext
      go_wp2
      (refine wp_region_ext 12 (by kernel_rfl) (by kernel_rfl) ?_; simp only [List.take_succ_cons, List.take_zero, List.drop_succ_cons, List.drop_zero]; (repeat (go_big_quiet_step ((fail)))); refine wpQuiet_nil ?_; rintro _ ⟨ex, rfl⟩; have hex := ex.below; have hexz := ex.size; (try simp at hexz); (try (have hy0 : w.heap.size < ex.to.heap.size := by omega)); (try (have hy1 : w.heap.size + 1 < ex.to.heap.size := by omega)); (try (have hy2 : w.heap.size + 2 < ex.to.heap.size := by omega)))
      go_wp2
      go_roundw
      case rel => exact ⟨k + 1, by omega, by go_num, by rw [Hn.out], hbr.trans (ex.below.mono (by omega))⟩
      case measure => simp [intOf]; omega
    · obtain rfl : k = l.length := by omega
      rw [List.take_length] at hcb ⊢
      go_wp2
      go_ret
      exact ⟨rfl, hwr⟩

def sameB (a b : List Int) : Bool := decide (a = b)
theorem sameB_len {a b : List Int} (h : ¬ a.length = b.length) : sameB a b = false := by
  unfold sameB; exact decide_eq_false (fun e => h (by rw [e]))
theorem sameB_at {a b : List Int} (k : Nat) (ha : k < a.length) (hb : k < b.length) (h : a[k] ≠ b[k]) : sameB a b = false := by
  unfold sameB; exact decide_eq_false (fun e => h (by subst e; rfl))
theorem sameB_all {a b : List Int} (hl : a.length = b.length) (h : a.take a.length = b.take a.length) : sameB a b = true := by
  unfold sameB; rw [List.take_length, hl, List.take_length] at h; exact decide_eq_true h

set_option maxHeartbeats 1000000 in
theorem same_any (a : Option Addr) (xs : List Int) (c : Nat) (b : Option Addr) (ys : List Int) (d : Nat) (w : World) (hx : IntsAt w a xs) (hy : IntsAt w b ys) (lx : xs.length ≤ 1000000) (ly : ys.length ≤ 1000000) :
    Calls Try.prog 25 #[.slice a xs.length c, .slice b ys.length d] w fun e w' => e = .returned (.bool (sameB xs ys)) ∧ Below w.heap.size w w' := by
  by_cases hl : xs.length = ys.length
  · have tl : ((xs.length : Int) != (ys.length : Int)) = false := by simp [hl]
    have Hl := Lib.hid hl
    clear hl
    go_enter Try.func25, Try.ntmps25
    go_wp2
    go_loopw [5] (fun i wr => ∃ k : Nat, k ≤ xs.length ∧ i = .int .i64 k ∧ xs.take k = ys.take k ∧ Below w.heap.size w wr) (fun i _ => xs.length - (intOf i).toNat)
    case atStart => exact ⟨0, Nat.zero_le _, rfl, rfl, Below.refl _ _⟩
    case round =>
      obtain ⟨k, hk, rfl, hpre, hwr⟩ := hrel
      have Hp := Lib.hid hpre
      clear hpre
      by_cases hlt : k < xs.length
      · have hlty : k < ys.length := by rw [← Hl.out]; exact hlt
        obtain ⟨b1, off1, rfl, hbl1, hc1⟩ := (hx.below hwr) k hlt
        obtain ⟨b2, off2, rfl, hbl2, hc2⟩ := (hy.below hwr) k hlty
        have hc1' : wr.cell? ⟨b1, off1 + k, none⟩ = some (.int .i64 xs[k]) := hc1.trans (by simp [hlt])
        have hc2' : wr.cell? ⟨b2, off2 + k, none⟩ = some (.int .i64 ys[k]) := hc2.trans (by simp [hlty])
        obtain ⟨x, hxe⟩ : ∃ x, xs[k] = x := ⟨_, rfl⟩
        obtain ⟨y, hye⟩ : ∃ y, ys[k] = y := ⟨_, rfl⟩
        rw [hxe] at hc1'
        rw [hye] at hc2'
        have Hx := Lib.hid hxe
        have Hy := Lib.hid hye
        have l1 : (k : Int) < (xs.length : Int) := by omega
        have l2 : (k : Int) < (ys.length : Int) := by omega
        clear hc1 hc2 hxe hye
        by_cases hxy : x = y
        · have t1 : (x != y) = false := by simp [hxy]
          have Hn : Hid (xs.take (k + 1) = ys.take (k + 1)) := Lib.hid (by rw [List.take_succ_eq_append_getElem hlt, List.take_succ_eq_append_getElem hlty, Hp.out, Hx.out, Hy.out, hxy])
          clear hxy
          go_wp2
          (refine wp_region_ext 9 (by kernel_rfl) (by kernel_rfl) ?_; simp only [List.take_succ_cons, List.take_zero, List.drop_succ_cons, List.drop_zero]; (repeat (go_big_quiet_step ((fail)))); refine wpQuiet_nil ?_; rintro _ ⟨ex, rfl⟩; have hex := ex.below; have hexz := ex.size; (try simp at hexz); (try (have hy0 : w.heap.size < ex.to.heap.size := by omega)); (try (have hy1 : w.heap.size + 1 < ex.to.heap.size := by omega)); (try (have hy2 : w.heap.size + 2 < ex.to.heap.size := by omega)))
          go_wp2
          go_roundw
          case rel => exact ⟨k + 1, by omega, by go_num, Hn.out, hwr.trans (ex.below.mono hwr.size)⟩
          case measure => simp [intOf]; omega
        · have t1 : (x != y) = true := by simp [hxy]
          have Hn := Lib.hid (sameB_at k hlt hlty (by rw [Hx.out, Hy.out]; exact hxy))
          clear hxy
          go_wp2
          (refine wp_region_ext 9 (by kernel_rfl) (by kernel_rfl) ?_; simp only [List.take_succ_cons, List.take_zero, List.drop_succ_cons, List.drop_zero]; (repeat (go_big_quiet_step ((fail)))); refine wpQuiet_nil ?_; rintro _ ⟨ex, rfl⟩; have hex := ex.below; have hexz := ex.size; (try simp at hexz); (try (have hy0 : w.heap.size < ex.to.heap.size := by omega)); (try (have hy1 : w.heap.size + 1 < ex.to.heap.size := by omega)); (try (have hy2 : w.heap.size + 2 < ex.to.heap.size := by omega)))
          go_wp2
          go_ret
          rw [Hn.out]
          exact ⟨rfl, hwr.trans (ex.below.mono hwr.size)⟩
      · obtain rfl : k = xs.length := by omega
        have Hn := Lib.hid (sameB_all Hl.out Hp.out)
        go_wp2
        go_ret
        rw [Hn.out]
        exact ⟨rfl, hwr⟩
  · have tl : ((xs.length : Int) != (ys.length : Int)) = true := by simp; omega
    have Hn := Lib.hid (sameB_len hl)
    clear hl
    go_enter Try.func25, Try.ntmps25
    go_wp2
    go_ret
    rw [Hn.out]
    exact ⟨rfl, by (repeat (first | exact Below.refl _ _ | refine Below.alloc ?_ (by first | omega | (simp; done) | (simp; omega)) _ | refine Below.drew ?_ | refine Below.setCell ?_ (by first | omega | (simp; done) | (simp; omega)) _ | refine Below.trans ?_ (Below.mono (by assumption) (by first | omega | (simp; done) | (simp; omega)))))⟩

set_option maxHeartbeats 400000 in
theorem list_any (a : Option Addr) (l : List Int) (c : Nat) (w : World) (hl : IntsAt w a l) (ln : l.length ≤ 1000000) (hn : a = none → c = 0) :
    Calls Try.prog 21 #[.slice a l.length c] w fun e w' =>
      ∃ a c, e = .returned (.slice a l.length c) ∧ OwnL 3 1 w.heap.size w' a c l.length (l.map (Value.int .i64)) ∧ Below w.heap.size w w' := by
  go_enter Try.func21, Try.ntmps21
  go_wp2_with (at_builtin; refine wpList_app elInt rfl _ _ rfl w.heap.size _ 0 _ [] rfl (OwnL.lit #[] (Nat.le_refl _) (Nat.zero_le _) rfl) a l.length c (l.map (Value.int .i64)) rfl (fun h => ?c1) (by simp) (SrcAt.ints (hl.below ((Below.refl _ _).alloc (Nat.le_refl _) _))) (fun u hu => ?c2) ?c3 ?c4 (by simp) ?_)
  case c1 =>
    have hc := hn h
    subst h
    refine ⟨?_, hc⟩
    rcases Nat.eq_zero_or_pos l.length with h0 | h0
    · exact h0
    · obtain ⟨b, off, e, _⟩ := hl 0 h0
      cases e
  case c2 => obtain ⟨z, _, rfl⟩ := List.mem_map.1 hu; rfl
  case c3 => unfold maxLen; omega
  case c4 => omega
  intro a2 c2 w2 own2 hb2
  go_wp2
  go_ret
  exact ⟨a2, c2, rfl, own2, ((Below.refl _ _).alloc (Nat.le_refl _) _).trans hb2⟩
end Go.Proofs.Ytmplgcefhpobgaa
