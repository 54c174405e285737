/- cipher: the reference's small functions · cipher: Check, Same, list · cipher: Fault -/
import Derived.Test.YtnofcpihkglmmaaCr
namespace Go.Proofs.Ytnofcpihkglmmaa
set_option linter.unusedVariables false
set_option linter.unusedSimpArgs false
set_option linter.unnecessarySimpa false
open Go.RowKit Go.Flow

set_option maxHeartbeats 400000 in
theorem in_any (a b c : Int) (w : World) :
    Calls Try.prog 17 #[.int .i64 a, .int .i64 b, .int .i64 c] w fun e w' => e = .returned (.bool (decide (b ≤ a) && decide (a ≤ c))) ∧ w = w' := by
  by_cases h : b ≤ a
  · have h1 : decide (b ≤ a) = true := by simpa using h
    go_enter Try.func17, Try.ntmps17
    go_wp2
    go_ret
    exact ⟨by simp [h1], rfl⟩
  · have h1 : decide (b ≤ a) = false := by simpa using h
    go_enter Try.func17, Try.ntmps17
    go_wp2
    go_ret
    exact ⟨by simp [h1], rfl⟩

theorem in_eq (a b c : Int) (r : Bool) (h : Hid ((decide (b ≤ a) && decide (a ≤ c)) = r)) (w : World) :
    Calls Try.prog 17 #[.int .i64 a, .int .i64 b, .int .i64 c] w fun e w' => e = .returned (.bool r) ∧ w = w' := by
  rw [← h.out]; exact in_any a b c w

def primeL : List Int := [13, 17, 19, 23, 29, 31, 37, 41]
def isPrime (n : Int) : Bool := primeL.any (· == n)

theorem any_false_of_take {α : Type} {p : α → Bool} {l : List α} {k : Nat} (h : l.length ≤ k) (ht : (l.take k).any p = false) : l.any p = false := by
  rwa [List.take_of_length_le h] at ht
theorem any_take_succ {α : Type} {p : α → Bool} {l : List α} {k : Nat} (h : k < l.length) (ht : (l.take k).any p = false) (hp : p l[k] = false) : (l.take (k + 1)).any p = false := by
  rw [List.take_succ_eq_append_getElem h, List.any_append, ht]; simp [hp]
theorem all_take_succ {α : Type} {p : α → Bool} {l : List α} {k : Nat} (h : k < l.length) (ht : (l.take k).all p = true) (hp : p l[k] = true) : (l.take (k + 1)).all p = true := by
  rw [List.take_succ_eq_append_getElem h, List.all_append, ht]; simp [hp]
theorem all_of_take {α : Type} {p : α → Bool} {l : List α} {k : Nat} (h : l.length ≤ k) (ht : (l.take k).all p = true) : l.all p = true := by
  rwa [List.take_of_length_le h] at ht
theorem all_false_at {α : Type} {p : α → Bool} {l : List α} {k : Nat} (h : k < l.length) (hp : p l[k] = false) : l.all p = false := by
  rw [List.all_eq_false]; exact ⟨l[k], List.getElem_mem h, by simp [hp]⟩
theorem any_true_at {α : Type} {p : α → Bool} {l : List α} {k : Nat} (h : k < l.length) (hp : p l[k] = true) : l.any p = true := by
  rw [List.any_eq_true]; exact ⟨l[k], List.getElem_mem h, hp⟩

set_option maxHeartbeats 1000000 in
theorem refPrime_any (n : Int) (w : World) :
    Calls Try.prog 16 #[.int .i64 n] w fun e w' => e = .returned (.bool (isPrime n)) ∧ Below w.heap.size w w' := by
  go_enter Try.func16, Try.ntmps16
  go_wp2
  obtain ⟨wS, hwS⟩ : ∃ x : World, x = w.alloc (.cells #[.int .i64 13, .int .i64 17, .int .i64 19, .int .i64 23, .int .i64 29, .int .i64 31, .int .i64 37, .int .i64 41] 86) := ⟨_, rfl⟩
  have hbS : Below w.heap.size w wS := by rw [hwS]; exact (Below.refl _ w).alloc (Nat.le_refl _) _
  have hcS : ∀ k (h : k < primeL.length), wS.cell? ⟨w.heap.size, k, none⟩ = some (.int .i64 primeL[k]) := by
    intro k h
    rw [hwS]
    refine cell_new w _ _ k _ ?_
    match k, h with
    | 0, _ | 1, _ | 2, _ | 3, _ | 4, _ | 5, _ | 6, _ | 7, _ => rfl
  have hzS : w.heap.size < wS.heap.size := by rw [hwS]; simp
  rw [← hwS]
  clear hwS
  go_loop [4] (fun i => ∃ k : Nat, k ≤ 8 ∧ i = .int .i64 k ∧ (primeL.take k).any (· == n) = false) (fun i => 8 - (intOf i).toNat)
  case atStart => exact ⟨0, by omega, rfl, rfl⟩
  case round =>
    obtain ⟨k, hk, rfl, hno⟩ := hrel
    have Hno := Lib.hid hno
    clear hno
    by_cases hlt : k < 8
    · have hl : k < primeL.length := hlt
      have hc := hcS k hl
      have hcS2 := Lib.hid hcS
      obtain ⟨p, hp⟩ : ∃ p, primeL[k] = p := ⟨_, rfl⟩
      rw [hp] at hc
      have Hp := Lib.hid hp
      clear hcS hp
      cases he : (p == n)
      · go_wp2
        go_round
        case rel => exact ⟨k + 1, by omega, by go_num, any_take_succ hl Hno.out (by rw [Hp.out]; exact he)⟩
        case measure => simp [intOf]; omega
      · have hr : isPrime n = true := any_true_at hl (by rw [Hp.out]; exact he)
        have Hr := Lib.hid hr
        clear hr
        go_wp2
        go_ret
        rw [Hr.out]
        exact ⟨rfl, hbS⟩
    · have hr : isPrime n = false := any_false_of_take (k := k) (by simp [primeL]; omega) Hno.out
      have Hr := Lib.hid hr
      clear hr
      go_wp2
      go_ret
      rw [Hr.out]
      exact ⟨rfl, hbS⟩

set_option maxHeartbeats 400000 in
theorem isKey_any (s wo m a st : Int) (ks ds : Value) (w : World) (h0 : 0 ≤ s) (h1 : s ≤ 1000) :
    Calls Try.prog 18 #[.agg #[.int .i64 s, .int .i64 wo, ks, ds], .agg #[.int .i64 m, .int .i64 a, .int .i64 st]] w fun e w' => e = .returned (.bool (keyOk s (m, a, st))) ∧ Below w.heap.size w w' := by
  go_enter Try.func18, Try.ntmps18
  go_wp2_with (go_at_call 17; refine (in_any _ _ _ _).mono ?_; rintro e w1 ⟨rfl, rfl⟩)
  all_goals go_ret
  all_goals (refine ⟨by simp [keyOk, *], ?_⟩; (repeat (first | exact Below.refl _ _ | refine Below.alloc ?_ (by first | omega | (simp; done) | (simp; omega)) _ | refine Below.drew ?_ | refine Below.setCell ?_ (by first | omega | (simp; done) | (simp; omega)) _ | refine Below.trans ?_ (Below.mono (by assumption) (by first | omega | (simp; done) | (simp; omega))))))

set_option maxHeartbeats 400000 in
theorem codeOf_any (s wo m a st n i : Int) (ks ds : Value) (w : World) (h0 : 0 < s) (h1 : s ≤ 1000) (m0 : 0 ≤ m) (m1 : m ≤ 1000) (a0 : 0 ≤ a) (a1 : a ≤ 1000) (st0 : 0 ≤ st) (st1 : st ≤ 1000) (n0 : 0 ≤ n) (n1 : n ≤ 1000) (i0 : 0 ≤ i) (i1 : i ≤ 1000) :
    Calls Try.prog 23 #[.agg #[.int .i64 s, .int .i64 wo, ks, ds], .agg #[.int .i64 m, .int .i64 a, .int .i64 st], .int .i64 n, .int .i64 i] w fun e w' => e = .returned (.int .i64 (codeN s m a st n i)) ∧ Below w.heap.size w w' := by
  obtain ⟨b1, b2⟩ := mul_b m0 m1 n0 n1
  obtain ⟨b3, b4⟩ := mul_b i0 i1 st0 st1
  have hne : (s == 0) = false := by simp; omega
  go_enter Try.func23, Try.ntmps23
  go_wp2
  go_ret
  exact ⟨rfl, by (repeat (first | exact Below.refl _ _ | refine Below.alloc ?_ (by first | omega | (simp; done) | (simp; omega)) _ | refine Below.drew ?_ | refine Below.setCell ?_ (by first | omega | (simp; done) | (simp; omega)) _ | refine Below.trans ?_ (Below.mono (by assumption) (by first | omega | (simp; done) | (simp; omega)))))⟩

set_option maxHeartbeats 1000000 in
theorem refPlain_any (s wo : Int) (ks ds : Value) (a : Option Addr) (l : List Int) (c : Nat) (w : World) (h0 : 0 ≤ s) (h1 : s ≤ 1000) (hl : IntsAt w a l) (ll : l.length ≤ 1000) :
    Calls Try.prog 8 #[.agg #[.int .i64 s, .int .i64 wo, ks, ds], .slice a l.length c] w fun e w' => e = .returned (.bool (l.all (plainOk s))) ∧ Below w.heap.size w w' := by
  go_enter Try.func8, Try.ntmps8
  go_wp2
  have hbS : Below w.heap.size w (w.alloc (.cells #[.int .i64 s, .int .i64 wo, ks, ds] 28)) := by (repeat (first | exact Below.refl _ _ | refine Below.alloc ?_ (by first | omega | (simp; done) | (simp; omega)) _ | refine Below.drew ?_ | refine Below.setCell ?_ (by first | omega | (simp; done) | (simp; omega)) _ | refine Below.trans ?_ (Below.mono (by assumption) (by first | omega | (simp; done) | (simp; omega)))))
  go_loopw [5] (fun i wr => ∃ k : Nat, k ≤ l.length ∧ i = .int .i64 k ∧ (l.take k).all (plainOk s) = true ∧ Below (w.heap.size + 1) (w.alloc (.cells #[.int .i64 s, .int .i64 wo, ks, ds] 28)) wr) (fun i _ => l.length - (intOf i).toNat)
  case atStart => exact ⟨0, Nat.zero_le _, rfl, rfl, Below.refl _ _⟩
  case round =>
    obtain ⟨k, hk, rfl, hall, hb⟩ := hrel
    have Hall := Lib.hid hall
    clear hall
    have hwr : Below w.heap.size w wr := hbS.trans (hb.mono (by omega))
    have hz : w.heap.size < wr.heap.size := by have := hb.size; simp at this; omega
    have hB0 : wr.cell? ⟨w.heap.size, 0, none⟩ = some (.int .i64 s) := (hb.cell (p := ⟨w.heap.size, 0, none⟩) (by simp)).trans (cell_new w _ _ 0 _ rfl)
    by_cases hlt : k < l.length
    · obtain ⟨b, off, rfl, hbl, hc⟩ := (hl.below hwr) k hlt
      have hltI : (k : Int) < (l.length : Int) := by omega
      have hpl : plainOk s l[k] = (decide (0 ≤ l[k]) && decide (l[k] ≤ s - 1)) := rfl
      have hc' : wr.cell? ⟨b, off + k, none⟩ = some (.int .i64 l[k]) := hc.trans (by simp [hlt])
      obtain ⟨x, hx⟩ : ∃ x, l[k] = x := ⟨_, rfl⟩
      rw [hx] at hpl hc'
      have Hx := Lib.hid hx
      clear hc hx
      cases hp : plainOk s x
      · have Hr := Lib.hid (all_false_at (p := plainOk s) hlt (by rw [Hx.out]; exact hp))
        have Hpl : Hid ((decide (0 ≤ x) && decide (x ≤ s - 1)) = _) := Lib.hid (hpl.symm.trans hp)
        clear hp hpl
        go_wp2
        (refine wp_region_ext 9 (by kernel_rfl) (by kernel_rfl) ?_; simp only [List.take_succ_cons, List.take_zero, List.drop_succ_cons, List.drop_zero]; (repeat (go_big_quiet_step (((go_at_call 17; refine Calls_ext_same (in_eq x 0 (s - 1) _ Hpl _)))))); refine wpQuiet_nil ?_; rintro _ ⟨ex, rfl⟩; have hex := ex.below; have hexz := ex.size; (try simp at hexz); (try (have hy0 : w.heap.size < ex.to.heap.size := by omega)); (try (have hy1 : w.heap.size + 1 < ex.to.heap.size := by omega)); (try (have hy2 : w.heap.size + 2 < ex.to.heap.size := by omega)))
        go_wp2
        go_ret
        rw [Hr.out]
        exact ⟨rfl, hwr.trans (ex.below.mono hwr.size)⟩
      · have Hr := Lib.hid (all_take_succ (p := plainOk s) hlt Hall.out (by rw [Hx.out]; exact hp))
        have Hpl : Hid ((decide (0 ≤ x) && decide (x ≤ s - 1)) = _) := Lib.hid (hpl.symm.trans hp)
        clear hp hpl
        go_wp2
        (refine wp_region_ext 9 (by kernel_rfl) (by kernel_rfl) ?_; simp only [List.take_succ_cons, List.take_zero, List.drop_succ_cons, List.drop_zero]; (repeat (go_big_quiet_step (((go_at_call 17; refine Calls_ext_same (in_eq x 0 (s - 1) _ Hpl _)))))); refine wpQuiet_nil ?_; rintro _ ⟨ex, rfl⟩; have hex := ex.below; have hexz := ex.size; (try simp at hexz); (try (have hy0 : w.heap.size < ex.to.heap.size := by omega)); (try (have hy1 : w.heap.size + 1 < ex.to.heap.size := by omega)); (try (have hy2 : w.heap.size + 2 < ex.to.heap.size := by omega)))
        go_wp2
        go_roundw
        case rel => exact ⟨k + 1, by omega, by go_num, Hr.out, hb.trans (ex.below.mono (by omega))⟩
        case measure => simp [intOf]; omega
    · have Hr := Lib.hid (all_of_take (by omega) Hall.out)
      go_wp2
      go_ret
      rw [Hr.out]
      exact ⟨rfl, hwr⟩
end Go.Proofs.Ytnofcpihkglmmaa

namespace Go.Proofs.Ytnofcpihkglmmaa
set_option linter.unusedVariables false
set_option linter.unusedSimpArgs false
set_option linter.unnecessarySimpa false
open Go.RowKit Go.Flow

def sameB (a b : List Int) : Bool := decide (a = b)
theorem sameB_len {a b : List Int} (h : ¬ a.length = b.length) : sameB a b = false := by
  unfold sameB; exact decide_eq_false (fun e => h (by rw [e]))
theorem sameB_at {a b : List Int} (k : Nat) (ha : k < a.length) (hb : k < b.length) (h : a[k] ≠ b[k]) : sameB a b = false := by
  unfold sameB; exact decide_eq_false (fun e => h (by subst e; rfl))
theorem sameB_all {a b : List Int} (hl : a.length = b.length) (h : a.take a.length = b.take a.length) : sameB a b = true := by
  unfold sameB; rw [List.take_length, hl, List.take_length] at h; exact decide_eq_true h

set_option maxHeartbeats 1000000 in
theorem same_any (a : Option Addr) (xs : List Int) (c : Nat) (b : Option Addr) (ys : List Int) (d : Nat) (w : World) (hx : IntsAt w a xs) (hy : IntsAt w b ys) (lx : xs.length ≤ 1000000) (ly : ys.length ≤ 1000000) :
    Calls Try.prog 22 #[.slice a xs.length c, .slice b ys.length d] w fun e w' => e = .returned (.bool (sameB xs ys)) ∧ Below w.heap.size w w' := by
  by_cases hl : xs.length = ys.length
  · have tl : ((xs.length : Int) != (ys.length : Int)) = false := by simp [hl]
    have Hl := Lib.hid hl
    clear hl
    go_enter Try.func22, Try.ntmps22
    go_wp2
    go_loopw [5] (fun i wr => ∃ k : Nat, k ≤ xs.length ∧ i = .int .i64 k ∧ xs.take k = ys.take k ∧ Below w.heap.size w wr) (fun i _ => xs.length - (intOf i).toNat)
    case atStart => exact ⟨0, Nat.zero_le _, rfl, rfl, Below.refl _ _⟩
    case round =>
      obtain ⟨k, hk, rfl, hpre, hwr⟩ := hrel
      have Hp := Lib.hid hpre
      clear hpre
      by_cases hlt : k < xs.length
      · have hlty : k < ys.length := by rw [← Hl.out]; exact hlt
        obtain ⟨b1, off1, rfl, hbl1, hc1⟩ := (hx.below hwr) k hlt
        obtain ⟨b2, off2, rfl, hbl2, hc2⟩ := (hy.below hwr) k hlty
        have hc1' : wr.cell? ⟨b1, off1 + k, none⟩ = some (.int .i64 xs[k]) := hc1.trans (by simp [hlt])
        have hc2' : wr.cell? ⟨b2, off2 + k, none⟩ = some (.int .i64 ys[k]) := hc2.trans (by simp [hlty])
        obtain ⟨x, hxe⟩ : ∃ x, xs[k] = x := ⟨_, rfl⟩
        obtain ⟨y, hye⟩ : ∃ y, ys[k] = y := ⟨_, rfl⟩
        rw [hxe] at hc1'
        rw [hye] at hc2'
        have Hx := Lib.hid hxe
        have Hy := Lib.hid hye
        have l1 : (k : Int) < (xs.length : Int) := by omega
        have l2 : (k : Int) < (ys.length : Int) := by omega
        clear hc1 hc2 hxe hye
        by_cases hxy : x = y
        · have t1 : (x != y) = false := by simp [hxy]
          have Hn : Hid (xs.take (k + 1) = ys.take (k + 1)) := Lib.hid (by rw [List.take_succ_eq_append_getElem hlt, List.take_succ_eq_append_getElem hlty, Hp.out, Hx.out, Hy.out, hxy])
          clear hxy
          go_wp2
          (refine wp_region_ext 9 (by kernel_rfl) (by kernel_rfl) ?_; simp only [List.take_succ_cons, List.take_zero, List.drop_succ_cons, List.drop_zero]; (repeat (go_big_quiet_step ((fail)))); refine wpQuiet_nil ?_; rintro _ ⟨ex, rfl⟩; have hex := ex.below; have hexz := ex.size; (try simp at hexz); (try (have hy0 : w.heap.size < ex.to.heap.size := by omega)); (try (have hy1 : w.heap.size + 1 < ex.to.heap.size := by omega)); (try (have hy2 : w.heap.size + 2 < ex.to.heap.size := by omega)))
          go_wp2
          go_roundw
          case rel => exact ⟨k + 1, by omega, by go_num, Hn.out, hwr.trans (ex.below.mono hwr.size)⟩
          case measure => simp [intOf]; omega
        · have t1 : (x != y) = true := by simp [hxy]
          have Hn := Lib.hid (sameB_at k hlt hlty (by rw [Hx.out, Hy.out]; exact hxy))
          clear hxy
          go_wp2
          (refine wp_region_ext 9 (by kernel_rfl) (by kernel_rfl) ?_; simp only [List.take_succ_cons, List.take_zero, List.drop_succ_cons, List.drop_zero]; (repeat (go_big_quiet_step ((fail)))); refine wpQuiet_nil ?_; rintro _ ⟨ex, rfl⟩; have hex := ex.below; have hexz := ex.size; (try simp at hexz); (try (have hy0 : w.heap.size < ex.to.heap.size := by omega)); (try (have hy1 : w.heap.size + 1 < ex.to.heap.size := by omega)); (try (have hy2 : w.heap.size + 2 < ex.to.heap.size := by omega)))
          go_wp2
          go_ret
          rw [Hn.out]
          exact ⟨rfl, hwr.trans (ex.below.mono hwr.size)⟩
      · obtain rfl : k = xs.length := by omega
        have Hn := Lib.hid (sameB_all Hl.out Hp.out)
        go_wp2
        go_ret
        rw [Hn.out]
        exact ⟨rfl, hwr⟩
  · have tl : ((xs.length : Int) != (ys.length : Int)) = true := by simp; omega
    have Hn := Lib.hid (sameB_len hl)
    clear hl
    go_enter Try.func22, Try.ntmps22
    go_wp2
    go_ret
    rw [Hn.out]
    exact ⟨rfl, by (repeat (first | exact Below.refl _ _ | refine Below.alloc ?_ (by first | omega | (simp; done) | (simp; omega)) _ | refine Below.drew ?_ | refine Below.setCell ?_ (by first | omega | (simp; done) | (simp; omega)) _ | refine Below.trans ?_ (Below.mono (by assumption) (by first | omega | (simp; done) | (simp; omega)))))⟩

set_option maxHeartbeats 400000 in
theorem list_any (a : Option Addr) (l : List Int) (c : Nat) (w : World) (hl : IntsAt w a l) (ln : l.length ≤ 1000000) (hn : a = none → c = 0) :
    Calls Try.prog 35 #[.slice a l.length c] w fun e w' =>
      ∃ a c, e = .returned (.slice a l.length c) ∧ OwnL 3 1 w.heap.size w' a c l.length (l.map (Value.int .i64)) ∧ Below w.heap.size w w' := by
  go_enter Try.func35, Try.ntmps35
  go_wp2_with (at_builtin; refine wpList_app elInt rfl _ _ rfl w.heap.size _ 0 _ [] rfl (OwnL.lit #[] (Nat.le_refl _) (Nat.zero_le _) rfl) a l.length c (l.map (Value.int .i64)) rfl (fun h => ?c1) (by simp) (SrcAt.ints (hl.below ((Below.refl _ _).alloc (Nat.le_refl _) _))) (fun u hu => ?c2) ?c3 ?c4 (by simp) ?_)
  case c1 =>
    have hc := hn h
    subst h
    refine ⟨?_, hc⟩
    rcases Nat.eq_zero_or_pos l.length with h0 | h0
    · exact h0
    · obtain ⟨b, off, e, _⟩ := hl 0 h0
      cases e
  case c2 => obtain ⟨z, _, rfl⟩ := List.mem_map.1 hu; rfl
  case c3 => unfold maxLen; omega
  case c4 => omega
  intro a2 c2 w2 own2 hb2
  go_wp2
  go_ret
  exact ⟨a2, c2, rfl, own2, ((Below.refl _ _).alloc (Nat.le_refl _) _).trans hb2⟩
end Go.Proofs.Ytnofcpihkglmmaa

namespace Go.Proofs.Ytnofcpihkglmmaa
set_option linter.unusedVariables false
set_option linter.unusedSimpArgs false
set_option linter.unnecessarySimpa false
open Go.RowKit Go.Flow

theorem isPrime_small : ∀ n : Nat, n < 42 → 13 ≤ n → isPrime (n : Int) = primeTo n n := by decide
theorem isPrime_b {s : Int} (h : isPrime s = true) : 13 ≤ s ∧ s ≤ 41 := by
  unfold isPrime primeL at h
  simp at h
  omega
theorem isPrime_iff {s : Int} : isPrime s = true ↔ (13 ≤ s ∧ s ≤ 41) ∧ primeTo s.toNat s.toNat = true := by
  constructor
  · intro h
    have hb := isPrime_b h
    obtain ⟨n, rfl⟩ := Int.eq_ofNat_of_zero_le (show 0 ≤ s by omega)
    refine ⟨hb, ?_⟩
    rw [Int.toNat_natCast, ← isPrime_small n (by omega) (by omega)]
    exact h
  · rintro ⟨hb, h⟩
    obtain ⟨n, rfl⟩ := Int.eq_ofNat_of_zero_le (show 0 ≤ s by omega)
    rw [Int.toNat_natCast] at h
    rw [isPrime_small n (by omega) (by omega)]
    exact h
theorem bookErr_3 {s wo : Int} {ks : List K3} {ds : List Int} (h : 5 < (ks.length : Int) ∨ 8 < (ds.length : Int)) : bookErr s wo ks ds = 3 := if_pos h
theorem bookErr_1 {s wo : Int} {ks : List K3} {ds : List Int} (h : ¬ (5 < (ks.length : Int) ∨ 8 < (ds.length : Int))) (h2 : ¬ (isPrime s = true ∧ (1 ≤ wo ∧ wo ≤ s) ∧ ks ≠ [] ∧ ds ≠ [] ∧ ks.all (keyOk s) = true ∧ ds.all (ownOk ks.length) = true)) : bookErr s wo ks ds = 1 := by
  unfold bookErr
  rw [if_neg h, if_neg]
  rintro ⟨h3, h4, h5⟩
  exact h2 ⟨isPrime_iff.2 ⟨h3, h4⟩, h5⟩
theorem bookErr_0 {s wo : Int} {ks : List K3} {ds : List Int} (h : ¬ (5 < (ks.length : Int) ∨ 8 < (ds.length : Int))) (h2 : isPrime s = true) (h3 : 1 ≤ wo ∧ wo ≤ s) (h4 : ks ≠ []) (h5 : ds ≠ []) (h6 : ks.all (keyOk s) = true) (h7 : ds.all (ownOk ks.length) = true) : bookErr s wo ks ds = 0 := by
  unfold bookErr
  obtain ⟨a, b⟩ := isPrime_iff.1 h2
  rw [if_neg h, if_pos ⟨a, b, h3, h4, h5, h6, h7⟩]

theorem BookAt.of {w wr : World} {s wo : Int} {ak : Option Addr} {nk ck : Nat} {ad : Option Addr} {nd cd : Nat} {T : TypeId} (hb : Below (w.heap.size + 1) (w.alloc (.cells #[.int .i64 s, .int .i64 wo, .slice ak nk ck, .slice ad nd cd] T)) wr) : BookAt wr w.heap.size s wo ak nk ck ad nd cd := by
  have h := BookAt.new w s wo ak nk ck ad nd cd T
  exact ⟨(hb.cell (p := ⟨w.heap.size, 0, none⟩) (by simp)).trans h.c0, (hb.cell (p := ⟨w.heap.size, 1, none⟩) (by simp)).trans h.c1, (hb.cell (p := ⟨w.heap.size, 2, none⟩) (by simp)).trans h.c2, (hb.cell (p := ⟨w.heap.size, 3, none⟩) (by simp)).trans h.c3⟩
theorem isKey_eq (s wo m a st : Int) (ks ds : Value) (r : Bool) (h : Hid (keyOk s (m, a, st) = r)) (w : World) (h0 : 0 ≤ s) (h1 : s ≤ 1000) :
    Calls Try.prog 18 #[.agg #[.int .i64 s, .int .i64 wo, ks, ds], .agg #[.int .i64 m, .int .i64 a, .int .i64 st]] w fun e w' => e = .returned (.bool r) ∧ Below w.heap.size w w' := by
  rw [← h.out]; exact isKey_any s wo m a st ks ds w h0 h1

set_option maxHeartbeats 2000000 in
theorem refFault_any (s wo : Int) (ak : Option Addr) (ks : List (Int × Int × Int)) (ck : Nat) (ad : Option Addr) (ds : List Int) (cd : Nat) (w : World) (hk : Recs3At w ak ks) (hd : IntsAt w ad ds) (lk : ks.length ≤ 1000) (ld : ds.length ≤ 1000) :
    Calls Try.prog 7 #[.agg #[.int .i64 s, .int .i64 wo, .slice ak ks.length ck, .slice ad ds.length cd]] w fun e w' => e = .returned (.int .i64 (bookErr s wo ks ds)) ∧ Below w.heap.size w w' := by
  by_cases hbig : 5 < (ks.length : Int) ∨ 8 < (ds.length : Int)
  · have Hr := Lib.hid (bookErr_3 (s := s) (wo := wo) hbig)
    by_cases h5 : 5 < (ks.length : Int)
    · clear hbig
      go_enter Try.func7, Try.ntmps7
      go_wp2
      go_ret
      rw [Hr.out]
      exact ⟨rfl, by (repeat (first | exact Below.refl _ _ | refine Below.alloc ?_ (by first | omega | (simp; done) | (simp; omega)) _ | refine Below.drew ?_ | refine Below.setCell ?_ (by first | omega | (simp; done) | (simp; omega)) _ | refine Below.trans ?_ (Below.mono (by assumption) (by first | omega | (simp; done) | (simp; omega)))))⟩
    · have h8 : 8 < (ds.length : Int) := by omega
      clear hbig
      go_enter Try.func7, Try.ntmps7
      go_wp2
      go_ret
      rw [Hr.out]
      exact ⟨rfl, by (repeat (first | exact Below.refl _ _ | refine Below.alloc ?_ (by first | omega | (simp; done) | (simp; omega)) _ | refine Below.drew ?_ | refine Below.setCell ?_ (by first | omega | (simp; done) | (simp; omega)) _ | refine Below.trans ?_ (Below.mono (by assumption) (by first | omega | (simp; done) | (simp; omega)))))⟩
  · have h5 : ¬ 5 < (ks.length : Int) := by omega
    have h8 : ¬ 8 < (ds.length : Int) := by omega
    cases hp : isPrime s
    · have Hr := Lib.hid (bookErr_1 (s := s) (wo := wo) hbig (by simp [hp]))
      clear hbig
      go_enter Try.func7, Try.ntmps7
      go_wp2_with (go_at_call 16; refine (refPrime_any _ _).mono ?_; rintro e w1 ⟨rfl, hb1⟩; obtain ⟨hc1, hf1, hz1⟩ := bcell hb1; (try simp at hz1); (try (have hy0 : w.heap.size < w1.heap.size := by omega)); (try (have hy1 : w.heap.size + 1 < w1.heap.size := by omega)); (try (have hy2 : w.heap.size + 2 < w1.heap.size := by omega)))
      go_ret
      rw [Hr.out]
      exact ⟨rfl, by (repeat (first | exact Below.refl _ _ | refine Below.alloc ?_ (by first | omega | (simp; done) | (simp; omega)) _ | refine Below.drew ?_ | refine Below.setCell ?_ (by first | omega | (simp; done) | (simp; omega)) _ | refine Below.trans ?_ (Below.mono (by assumption) (by first | omega | (simp; done) | (simp; omega)))))⟩
    · by_cases hwo : 1 ≤ wo ∧ wo ≤ s
      · by_cases hk0 : ks = []
        · have Hr := Lib.hid (bookErr_1 (s := s) (wo := wo) hbig (by simp [hk0]))
          have t1 : ((ks.length : Int) == 0) = true := by simp [hk0]
          have HI : Hid ((decide (1 ≤ wo) && decide (wo ≤ s)) = true) := Lib.hid (by simp [hwo])
          clear hbig hwo hk0
          go_enter Try.func7, Try.ntmps7
          go_wp2_with (first | (go_at_call 16; refine (refPrime_any _ _).mono ?_; rintro e w1 ⟨rfl, hb1⟩; obtain ⟨hc1, hf1, hz1⟩ := bcell hb1; (try simp at hz1); (try (have hy0 : w.heap.size < w1.heap.size := by omega)); (try (have hy1 : w.heap.size + 1 < w1.heap.size := by omega)); (try (have hy2 : w.heap.size + 2 < w1.heap.size := by omega))) | (go_at_call 17; refine (in_eq wo 1 s _ HI _).mono ?_; rintro e w1 ⟨rfl, rfl⟩))
          go_ret
          rw [Hr.out]
          exact ⟨rfl, by (repeat (first | exact Below.refl _ _ | refine Below.alloc ?_ (by first | omega | (simp; done) | (simp; omega)) _ | refine Below.drew ?_ | refine Below.setCell ?_ (by first | omega | (simp; done) | (simp; omega)) _ | refine Below.trans ?_ (Below.mono (by assumption) (by first | omega | (simp; done) | (simp; omega)))))⟩
        · by_cases hd0 : ds = []
          · have Hr := Lib.hid (bookErr_1 (s := s) (wo := wo) (ks := ks) hbig (by simp [hd0]))
            have t1 : ((ks.length : Int) == 0) = false := by simp [hk0]
            have t2 : ((ds.length : Int) == 0) = true := by simp [hd0]
            have HI : Hid ((decide (1 ≤ wo) && decide (wo ≤ s)) = true) := Lib.hid (by simp [hwo])
            clear hbig hwo hk0 hd0
            go_enter Try.func7, Try.ntmps7
            go_wp2_with (first | (go_at_call 16; refine (refPrime_any _ _).mono ?_; rintro e w1 ⟨rfl, hb1⟩; obtain ⟨hc1, hf1, hz1⟩ := bcell hb1; (try simp at hz1); (try (have hy0 : w.heap.size < w1.heap.size := by omega)); (try (have hy1 : w.heap.size + 1 < w1.heap.size := by omega)); (try (have hy2 : w.heap.size + 2 < w1.heap.size := by omega))) | (go_at_call 17; refine (in_eq wo 1 s _ HI _).mono ?_; rintro e w1 ⟨rfl, rfl⟩))
            go_ret
            rw [Hr.out]
            exact ⟨rfl, by (repeat (first | exact Below.refl _ _ | refine Below.alloc ?_ (by first | omega | (simp; done) | (simp; omega)) _ | refine Below.drew ?_ | refine Below.setCell ?_ (by first | omega | (simp; done) | (simp; omega)) _ | refine Below.trans ?_ (Below.mono (by assumption) (by first | omega | (simp; done) | (simp; omega)))))⟩
          · have t1 : ((ks.length : Int) == 0) = false := by simp [hk0]
            have t2 : ((ds.length : Int) == 0) = false := by simp [hd0]
            have HI : Hid ((decide (1 ≤ wo) && decide (wo ≤ s)) = true) := Lib.hid (by simp [hwo])
            obtain ⟨s0, s1⟩ := isPrime_b hp
            have Hbig := Lib.hid hbig
            have Hwo := Lib.hid hwo
            have Hp := Lib.hid hp
            have Hk0 := Lib.hid hk0
            have Hd0 := Lib.hid hd0
            clear hbig hwo hk0 hd0
            go_enter Try.func7, Try.ntmps7
            go_wp2_with (first | (go_at_call 16; refine (refPrime_any _ _).mono ?_; rintro e w1 ⟨rfl, hb1⟩; obtain ⟨hc1, hf1, hz1⟩ := bcell hb1; (try simp at hz1); (try (have hy0 : w.heap.size < w1.heap.size := by omega)); (try (have hy1 : w.heap.size + 1 < w1.heap.size := by omega)); (try (have hy2 : w.heap.size + 2 < w1.heap.size := by omega))) | (go_at_call 17; refine (in_eq wo 1 s _ HI _).mono ?_; rintro e w1 ⟨rfl, rfl⟩))
            have hwB : Below w.heap.size w w1 := by (repeat (first | exact Below.refl _ _ | refine Below.alloc ?_ (by first | omega | (simp; done) | (simp; omega)) _ | refine Below.drew ?_ | refine Below.setCell ?_ (by first | omega | (simp; done) | (simp; omega)) _ | refine Below.trans ?_ (Below.mono (by assumption) (by first | omega | (simp; done) | (simp; omega)))))
            have hb1' : Below (w.heap.size + 1) (w.alloc (.cells #[.int .i64 s, .int .i64 wo, .slice ak ks.length ck, .slice ad ds.length cd] 28)) w1 := hb1.mono (by simp)
            clear hb1 hc1 hf1 hp
            go_loopw [3] (fun i wr => ∃ k : Nat, k ≤ ks.length ∧ i = .int .i64 k ∧ (ks.take k).all (keyOk s) = true ∧ Below (w.heap.size + 1) (w.alloc (.cells #[.int .i64 s, .int .i64 wo, .slice ak ks.length ck, .slice ad ds.length cd] 28)) wr) (fun i _ => ks.length - (intOf i).toNat)
            case atStart => exact ⟨0, Nat.zero_le _, rfl, rfl, hb1'⟩
            case round =>
              obtain ⟨k, hkk, rfl, hall, hb⟩ := hrel
              have Hall := Lib.hid hall
              clear hall hb1'
              have hBr := BookAt.of hb
              have hwr : Below w.heap.size w wr := Below.trans (by (repeat (first | exact Below.refl _ _ | refine Below.alloc ?_ (by first | omega | (simp; done) | (simp; omega)) _ | refine Below.drew ?_ | refine Below.setCell ?_ (by first | omega | (simp; done) | (simp; omega)) _ | refine Below.trans ?_ (Below.mono (by assumption) (by first | omega | (simp; done) | (simp; omega)))))) (hb.mono (by omega))
              have hz := hBr.lt
              obtain ⟨q0, q1, q2, q3⟩ := hBr
              by_cases hlt : k < ks.length
              · obtain ⟨b, off, rfl, hbl, c0, c1, c2⟩ := (hk.below hwr) k hlt
                have hltI : (k : Int) < (ks.length : Int) := by omega
                obtain ⟨⟨m, a, st⟩, hx⟩ : ∃ x, ks[k] = x := ⟨_, rfl⟩
                rw [hx] at c0 c1 c2
                simp only at c0 c1 c2
                cases hko : keyOk s (m, a, st)
                · have Hr := Lib.hid (bookErr_1 (s := s) (wo := wo) (ks := ks) (ds := ds) Hbig.out (fun h => by have := List.all_eq_true.1 h.2.2.2.2.1 ks[k] (List.getElem_mem hlt); rw [hx, hko] at this; cases this))
                  have Hko := Lib.hid hko
                  clear hx hko
                  go_wp2
                  (refine wp_region_ext 8 (by kernel_rfl) (by kernel_rfl) ?_; simp only [List.take_succ_cons, List.take_zero, List.drop_succ_cons, List.drop_zero]; (repeat (go_big_quiet_step (((go_at_call 18; refine Calls_ext (isKey_eq s wo m a st _ _ _ Hko _ (by omega) (by omega))))))); refine wpQuiet_nil ?_; rintro _ ⟨ex, rfl⟩; have hex := ex.below; have hexz := ex.size; (try simp at hexz); (try (have hy0 : w.heap.size < ex.to.heap.size := by omega)); (try (have hy1 : w.heap.size + 1 < ex.to.heap.size := by omega)); (try (have hy2 : w.heap.size + 2 < ex.to.heap.size := by omega)))
                  go_wp2
                  go_ret
                  rw [Hr.out]
                  exact ⟨rfl, hwr.trans (ex.below.mono hwr.size)⟩
                · have Hr := Lib.hid (all_take_succ (p := keyOk s) hlt Hall.out (by rw [hx]; exact hko))
                  have Hko := Lib.hid hko
                  clear hx hko
                  go_wp2
                  (refine wp_region_ext 8 (by kernel_rfl) (by kernel_rfl) ?_; simp only [List.take_succ_cons, List.take_zero, List.drop_succ_cons, List.drop_zero]; (repeat (go_big_quiet_step (((go_at_call 18; refine Calls_ext (isKey_eq s wo m a st _ _ _ Hko _ (by omega) (by omega))))))); refine wpQuiet_nil ?_; rintro _ ⟨ex, rfl⟩; have hex := ex.below; have hexz := ex.size; (try simp at hexz); (try (have hy0 : w.heap.size < ex.to.heap.size := by omega)); (try (have hy1 : w.heap.size + 1 < ex.to.heap.size := by omega)); (try (have hy2 : w.heap.size + 2 < ex.to.heap.size := by omega)))
                  go_wp2
                  go_roundw
                  case rel => exact ⟨k + 1, by omega, by go_num, Hr.out, hb.trans (ex.below.mono (by omega))⟩
                  case measure => simp [intOf]; omega
              · have Hka := Lib.hid (all_of_take (p := keyOk s) (by omega) Hall.out)
                obtain rfl : k = ks.length := by omega
                clear Hall
                go_wp2
                clear q0 q1 q2 q3 hz
                obtain ⟨wo1, hwo1⟩ : ∃ x : World, x = wr := ⟨_, rfl⟩
                subst hwo1
                go_loopw [4] (fun i wr => ∃ k : Nat, k ≤ ds.length ∧ i = .int .i64 k ∧ (ds.take k).all (ownOk ks.length) = true ∧ Below (w.heap.size + 1) (w.alloc (.cells #[.int .i64 s, .int .i64 wo, .slice ak ks.length ck, .slice ad ds.length cd] 28)) wr) (fun i _ => ds.length - (intOf i).toNat)
                case atStart => exact ⟨0, Nat.zero_le _, rfl, rfl, hb⟩
                case round =>
                  obtain ⟨k, hkk2, rfl, hall, hb3⟩ := hrel
                  have Hall := Lib.hid hall
                  clear hall hb
                  have hBr := BookAt.of hb3
                  have hwr3 : Below w.heap.size w wr := Below.trans (by (repeat (first | exact Below.refl _ _ | refine Below.alloc ?_ (by first | omega | (simp; done) | (simp; omega)) _ | refine Below.drew ?_ | refine Below.setCell ?_ (by first | omega | (simp; done) | (simp; omega)) _ | refine Below.trans ?_ (Below.mono (by assumption) (by first | omega | (simp; done) | (simp; omega)))))) (hb3.mono (by omega))
                  have hz := hBr.lt
                  obtain ⟨q0, q1, q2, q3⟩ := hBr
                  by_cases hlt : k < ds.length
                  · obtain ⟨b, off, rfl, hbl, c0⟩ := (hd.below hwr3) k hlt
                    have hltI : (k : Int) < (ds.length : Int) := by omega
                    have c0' : wr.cell? ⟨b, off + k, none⟩ = some (.int .i64 ds[k]) := c0.trans (by simp [hlt])
                    obtain ⟨x, hx⟩ : ∃ x, ds[k] = x := ⟨_, rfl⟩
                    rw [hx] at c0'
                    clear c0
                    cases hko : ownOk ks.length x
                    · have Hr := Lib.hid (bookErr_1 (s := s) (wo := wo) (ks := ks) (ds := ds) Hbig.out (fun h => by have := List.all_eq_true.1 h.2.2.2.2.2 ds[k] (List.getElem_mem hlt); rw [hx, hko] at this; cases this))
                      have Hko : Hid ((decide (0 ≤ x) && decide (x ≤ (ks.length : Int) - 1)) = false) := Lib.hid hko
                      clear hx hko
                      go_wp2
                      (refine wp_region_ext 11 (by kernel_rfl) (by kernel_rfl) ?_; simp only [List.take_succ_cons, List.take_zero, List.drop_succ_cons, List.drop_zero]; (repeat (go_big_quiet_step (((go_at_call 17; refine Calls_ext_same (in_eq x 0 ((ks.length : Int) - 1) _ Hko _)))))); refine wpQuiet_nil ?_; rintro _ ⟨ex, rfl⟩; have hex := ex.below; have hexz := ex.size; (try simp at hexz); (try (have hy0 : w.heap.size < ex.to.heap.size := by omega)); (try (have hy1 : w.heap.size + 1 < ex.to.heap.size := by omega)); (try (have hy2 : w.heap.size + 2 < ex.to.heap.size := by omega)))
                      go_wp2
                      go_ret
                      rw [Hr.out]
                      exact ⟨rfl, hwr3.trans (ex.below.mono hwr3.size)⟩
                    · have Hr := Lib.hid (all_take_succ (p := ownOk ks.length) hlt Hall.out (by rw [hx]; exact hko))
                      have Hko : Hid ((decide (0 ≤ x) && decide (x ≤ (ks.length : Int) - 1)) = true) := Lib.hid hko
                      clear hx hko
                      go_wp2
                      (refine wp_region_ext 11 (by kernel_rfl) (by kernel_rfl) ?_; simp only [List.take_succ_cons, List.take_zero, List.drop_succ_cons, List.drop_zero]; (repeat (go_big_quiet_step (((go_at_call 17; refine Calls_ext_same (in_eq x 0 ((ks.length : Int) - 1) _ Hko _)))))); refine wpQuiet_nil ?_; rintro _ ⟨ex, rfl⟩; have hex := ex.below; have hexz := ex.size; (try simp at hexz); (try (have hy0 : w.heap.size < ex.to.heap.size := by omega)); (try (have hy1 : w.heap.size + 1 < ex.to.heap.size := by omega)); (try (have hy2 : w.heap.size + 2 < ex.to.heap.size := by omega)))
                      go_wp2
                      go_roundw
                      case rel => exact ⟨k + 1, by omega, by go_num, Hr.out, hb3.trans (ex.below.mono (by omega))⟩
                      case measure => simp [intOf]; omega
                  · have Hda := Lib.hid (all_of_take (p := ownOk ks.length) (by omega) Hall.out)
                    have Hr := Lib.hid (bookErr_0 (s := s) (wo := wo) Hbig.out Hp.out Hwo.out Hk0.out Hd0.out Hka.out Hda.out)
                    go_wp2
                    go_ret
                    rw [Hr.out]
                    exact ⟨rfl, hwr3⟩
      · have Hr := Lib.hid (bookErr_1 (s := s) (wo := wo) (ks := ks) (ds := ds) hbig (fun h => hwo h.2.1))
        have HI : Hid ((decide (1 ≤ wo) && decide (wo ≤ s)) = false) := Lib.hid (by simp; omega)
        clear hbig hwo
        go_enter Try.func7, Try.ntmps7
        go_wp2_with (first | (go_at_call 16; refine (refPrime_any _ _).mono ?_; rintro e w1 ⟨rfl, hb1⟩; obtain ⟨hc1, hf1, hz1⟩ := bcell hb1; (try simp at hz1); (try (have hy0 : w.heap.size < w1.heap.size := by omega)); (try (have hy1 : w.heap.size + 1 < w1.heap.size := by omega)); (try (have hy2 : w.heap.size + 2 < w1.heap.size := by omega))) | (go_at_call 17; refine (in_eq wo 1 s _ HI _).mono ?_; rintro e w1 ⟨rfl, rfl⟩))
        go_ret
        rw [Hr.out]
        exact ⟨rfl, by (repeat (first | exact Below.refl _ _ | refine Below.alloc ?_ (by first | omega | (simp; done) | (simp; omega)) _ | refine Below.drew ?_ | refine Below.setCell ?_ (by first | omega | (simp; done) | (simp; omega)) _ | refine Below.trans ?_ (Below.mono (by assumption) (by first | omega | (simp; done) | (simp; omega)))))⟩
end Go.Proofs.Ytnofcpihkglmmaa
