/- cipher: the reference's small functions -/
import Derived.Test.YtmplgcefhpobgaaCw
namespace Go.Proofs.Ytmplgcefhpobgaa
set_option linter.unusedVariables false
set_option linter.unusedSimpArgs false
set_option linter.unnecessarySimpa false
open Go.RowKit Go.Flow

set_option maxHeartbeats 400000 in
theorem in_any (a b c : Int) (w : World) :
    Calls Try.prog 23 #[.int .i64 a, .int .i64 b, .int .i64 c] w fun e w' => e = .returned (.bool (decide (b ≤ a) && decide (a ≤ c))) ∧ w = w' := by
  by_cases h : b ≤ a
  · have h1 : decide (b ≤ a) = true := by simpa using h
    go_enter Try.func23, Try.ntmps23
    go_wp2
    go_ret
    exact ⟨by simp [h1], rfl⟩
  · have h1 : decide (b ≤ a) = false := by simpa using h
    go_enter Try.func23, Try.ntmps23
    go_wp2
    go_ret
    exact ⟨by simp [h1], rfl⟩

theorem in_eq (a b c : Int) (r : Bool) (h : Hid ((decide (b ≤ a) && decide (a ≤ c)) = r)) (w : World) :
    Calls Try.prog 23 #[.int .i64 a, .int .i64 b, .int .i64 c] w fun e w' => e = .returned (.bool r) ∧ w = w' := by
  rw [← h.out]; exact in_any a b c w

def primeL : List Int := [13, 17, 19, 23, 29, 31, 37, 41]
def isPrime (n : Int) : Bool := primeL.any (· == n)

theorem any_false_of_take {α : Type} {p : α → Bool} {l : List α} {k : Nat} (h : l.length ≤ k) (ht : (l.take k).any p = false) : l.any p = false := by
  rwa [List.take_of_length_le h] at ht
theorem any_take_succ {α : Type} {p : α → Bool} {l : List α} {k : Nat} (h : k < l.length) (ht : (l.take k).any p = false) (hp : p l[k] = false) : (l.take (k + 1)).any p = false := by
  rw [List.take_succ_eq_append_getElem h, List.any_append, ht]; simp [hp]
theorem all_take_succ {α : Type} {p : α → Bool} {l : List α} {k : Nat} (h : k < l.length) (ht : (l.take k).all p = true) (hp : p l[k] = true) : (l.take (k + 1)).all p = true := by
  rw [List.take_succ_eq_append_getElem h, List.all_append, ht]; simp [hp]
theorem all_of_take {α : Type} {p : α → Bool} {l : List α} {k : Nat} (h : l.length ≤ k) (ht : (l.take k).all p = true) : l.all p = true := by
  rwa [List.take_of_length_le h] at ht
theorem all_false_at {α : Type} {p : α → Bool} {l : List α} {k : Nat} (h : k < l.length) (hp : p l[k] = false) : l.all p = false := by
  rw [List.all_eq_false]; exact ⟨l[k], List.getElem_mem h, by simp [hp]⟩
theorem any_true_at {α : Type} {p : α → Bool} {l : List α} {k : Nat} (h : k < l.length) (hp : p l[k] = true) : l.any p = true := by
  rw [List.any_eq_true]; exact ⟨l[k], List.getElem_mem h, hp⟩

theorem cell_new' (w : World) (cs : Array Value) (T : TypeId) (B k : Nat) (v : Value) (hB : B = w.heap.size) (h : cs[k]? = some v) : (w.alloc (.cells cs T)).cell? ⟨B, k, none⟩ = some v := by subst hB; exact cell_new w cs T k v h

set_option maxHeartbeats 1000000 in
theorem refPrime_any (n : Int) (w : World) :
    Calls Try.prog 87 #[.int .i64 n] w fun e w' => e = .returned (.bool (isPrime n)) ∧ Below w.heap.size w w' := by
  go_enter Try.func87, Try.ntmps87
  go_wp2
  obtain ⟨wS, hwS⟩ : ∃ x : World, x = w.alloc (.cells #[.int .i64 13, .int .i64 17, .int .i64 19, .int .i64 23, .int .i64 29, .int .i64 31, .int .i64 37, .int .i64 41] 144) := ⟨_, rfl⟩
  have hbS : Below w.heap.size w wS := by rw [hwS]; exact (Below.refl _ w).alloc (Nat.le_refl _) _
  have hcS : ∀ k (h : k < primeL.length), wS.cell? ⟨w.heap.size, k, none⟩ = some (.int .i64 primeL[k]) := by
    intro k h
    rw [hwS]
    refine cell_new w _ _ k _ ?_
    match k, h with
    | 0, _ | 1, _ | 2, _ | 3, _ | 4, _ | 5, _ | 6, _ | 7, _ => rfl
  have hzS : w.heap.size < wS.heap.size := by rw [hwS]; simp
  rw [← hwS]
  clear hwS
  go_loop [4] (fun i => ∃ k : Nat, k ≤ 8 ∧ i = .int .i64 k ∧ (primeL.take k).any (· == n) = false) (fun i => 8 - (intOf i).toNat)
  case atStart => exact ⟨0, by omega, rfl, rfl⟩
  case round =>
    obtain ⟨k, hk, rfl, hno⟩ := hrel
    have Hno := Lib.hid hno
    clear hno
    by_cases hlt : k < 8
    · have hl : k < primeL.length := hlt
      have hc := hcS k hl
      have hcS2 := Lib.hid hcS
      obtain ⟨p, hp⟩ : ∃ p, primeL[k] = p := ⟨_, rfl⟩
      rw [hp] at hc
      have Hp := Lib.hid hp
      clear hcS hp
      cases he : (p == n)
      · go_wp2
        go_round
        case rel => exact ⟨k + 1, by omega, by go_num, any_take_succ hl Hno.out (by rw [Hp.out]; exact he)⟩
        case measure => simp [intOf]; omega
      · have hr : isPrime n = true := any_true_at hl (by rw [Hp.out]; exact he)
        have Hr := Lib.hid hr
        clear hr
        go_wp2
        go_ret
        rw [Hr.out]
        exact ⟨rfl, hbS⟩
    · have hr : isPrime n = false := any_false_of_take (k := k) (by simp [primeL]; omega) Hno.out
      have Hr := Lib.hid hr
      clear hr
      go_wp2
      go_ret
      rw [Hr.out]
      exact ⟨rfl, hbS⟩

set_option maxHeartbeats 400000 in
theorem isKey_any (s wo m a st : Int) (ks ds : Value) (w : World) (h0 : 0 ≤ s) (h1 : s ≤ 1000) :
    Calls Try.prog 88 #[.agg #[.int .i64 s, .int .i64 wo, ks, ds], .agg #[.int .i64 m, .int .i64 a, .int .i64 st]] w fun e w' => e = .returned (.bool (keyOk s (m, a, st))) ∧ Below w.heap.size w w' := by
  go_enter Try.func88, Try.ntmps88
  go_wp2_with (go_at_call 23; refine (in_any _ _ _ _).mono ?_; rintro e w1 ⟨rfl, rfl⟩)
  all_goals go_ret
  all_goals (refine ⟨by simp [keyOk, *], ?_⟩; (repeat (first | exact Below.refl _ _ | refine Below.alloc ?_ (by first | omega | (simp; done) | (simp; omega)) _ | refine Below.drew ?_ | refine Below.setCell ?_ (by first | omega | (simp; done) | (simp; omega)) _ | refine Below.trans ?_ (Below.mono (by assumption) (by first | omega | (simp; done) | (simp; omega))))))

set_option maxHeartbeats 400000 in
theorem codeOf_any (s wo m a st n i : Int) (ks ds : Value) (w : World) (h0 : 0 < s) (h1 : s ≤ 1000) (m0 : 0 ≤ m) (m1 : m ≤ 1000) (a0 : 0 ≤ a) (a1 : a ≤ 1000) (st0 : 0 ≤ st) (st1 : st ≤ 1000) (n0 : 0 ≤ n) (n1 : n ≤ 1000) (i0 : 0 ≤ i) (i1 : i ≤ 1000) :
    Calls Try.prog 64 #[.agg #[.int .i64 s, .int .i64 wo, ks, ds], .agg #[.int .i64 m, .int .i64 a, .int .i64 st], .int .i64 n, .int .i64 i] w fun e w' => e = .returned (.int .i64 (codeN s m a st n i)) ∧ Below w.heap.size w w' := by
  obtain ⟨b1, b2⟩ := mul_b m0 m1 n0 n1
  obtain ⟨b3, b4⟩ := mul_b i0 i1 st0 st1
  have hne : (s == 0) = false := by simp; omega
  go_enter Try.func64, Try.ntmps64
  go_wp2
  go_ret
  exact ⟨rfl, by (repeat (first | exact Below.refl _ _ | refine Below.alloc ?_ (by first | omega | (simp; done) | (simp; omega)) _ | refine Below.drew ?_ | refine Below.setCell ?_ (by first | omega | (simp; done) | (simp; omega)) _ | refine Below.trans ?_ (Below.mono (by assumption) (by first | omega | (simp; done) | (simp; omega)))))⟩

set_option maxHeartbeats 400000 in
theorem refIndicator_any (s wo : Int) (ak : Option Addr) (ks : List (Int × Int × Int)) (ck : Nat) (ad : Option Addr) (ds : List Int) (cd : Nat) (day : Nat) (w : World) (hk : Recs3At w ak ks) (hd : IntsAt w ad ds) (lk : ks.length ≤ 1000) (ld : ds.length ≤ 1000) (hn : day < ds.length) (hkn : 0 < ks.length) (hd0 : ∀ x ∈ ds, 0 ≤ x ∧ x ≤ 1000) :
    Calls Try.prog 63 #[.agg #[.int .i64 s, .int .i64 wo, .slice ak ks.length ck, .slice ad ds.length cd], .int .i64 day] w fun e w' => e = .returned (.int .i64 ((ds[day] + day) % ks.length)) ∧ Below w.heap.size w w' := by
  obtain ⟨hx0, hx1⟩ := hd0 _ (List.getElem_mem hn)
  obtain ⟨b, off, rfl, hbl, hc⟩ := hd day hn
  have hne : ((ks.length : Int) == 0) = false := by simp; intro h; subst h; simp at hkn
  have hpos : (0 : Int) < ks.length := by omega
  have hday : (day : Int) < ds.length := by omega
  have hbw : b < w.heap.size + 1 := by omega
  have hs1 : IntKind.i64.wrap (ds[day] + (day : Int)) = ds[day] + (day : Int) := IntWalk.i64_in _ (by omega)
  go_enter Try.func63, Try.ntmps63
  go_wp2
  (refine wp_region_ext 12 (by kernel_rfl) (by kernel_rfl) ?_; simp only [List.take_succ_cons, List.take_zero, List.drop_succ_cons, List.drop_zero]; (repeat (go_big_quiet_step ((fail)))); refine wpQuiet_nil ?_; rintro _ ⟨ex, rfl⟩; have hex := ex.below; have hexz := ex.size; (try simp at hexz); (try (have hy0 : w.heap.size < ex.to.heap.size := by omega)); (try (have hy1 : w.heap.size + 1 < ex.to.heap.size := by omega)); (try (have hy2 : w.heap.size + 2 < ex.to.heap.size := by omega)))
  go_wp2
  go_ret
  exact ⟨rfl, by (repeat (first | exact Below.refl _ _ | refine Below.alloc ?_ (by first | omega | (simp; done) | (simp; omega)) _ | refine Below.drew ?_ | refine Below.setCell ?_ (by first | omega | (simp; done) | (simp; omega)) _ | refine Below.trans ?_ (Below.mono (by assumption) (by first | omega | (simp; done) | (simp; omega)))))⟩

set_option maxHeartbeats 1000000 in
theorem refPlain_any (s wo : Int) (ks ds : Value) (a : Option Addr) (l : List Int) (c : Nat) (w : World) (h0 : 0 ≤ s) (h1 : s ≤ 1000) (hl : IntsAt w a l) (ll : l.length ≤ 1000) :
    Calls Try.prog 24 #[.agg #[.int .i64 s, .int .i64 wo, ks, ds], .slice a l.length c] w fun e w' => e = .returned (.bool (l.all (plainOk s))) ∧ Below w.heap.size w w' := by
  go_enter Try.func24, Try.ntmps24
  go_wp2
  have hbS : Below w.heap.size w (w.alloc (.cells #[.int .i64 s, .int .i64 wo, ks, ds] 25)) := by (repeat (first | exact Below.refl _ _ | refine Below.alloc ?_ (by first | omega | (simp; done) | (simp; omega)) _ | refine Below.drew ?_ | refine Below.setCell ?_ (by first | omega | (simp; done) | (simp; omega)) _ | refine Below.trans ?_ (Below.mono (by assumption) (by first | omega | (simp; done) | (simp; omega)))))
  go_loopw [5] (fun i wr => ∃ k : Nat, k ≤ l.length ∧ i = .int .i64 k ∧ (l.take k).all (plainOk s) = true ∧ Below (w.heap.size + 1) (w.alloc (.cells #[.int .i64 s, .int .i64 wo, ks, ds] 25)) wr) (fun i _ => l.length - (intOf i).toNat)
  case atStart => exact ⟨0, Nat.zero_le _, rfl, rfl, Below.refl _ _⟩
  case round =>
    obtain ⟨k, hk, rfl, hall, hb⟩ := hrel
    have Hall := Lib.hid hall
    clear hall
    have hwr : Below w.heap.size w wr := hbS.trans (hb.mono (by omega))
    have hz : w.heap.size < wr.heap.size := by have := hb.size; simp at this; omega
    have hB0 : wr.cell? ⟨w.heap.size, 0, none⟩ = some (.int .i64 s) := (hb.cell (p := ⟨w.heap.size, 0, none⟩) (by simp)).trans (cell_new w _ _ 0 _ rfl)
    by_cases hlt : k < l.length
    · obtain ⟨b, off, rfl, hbl, hc⟩ := (hl.below hwr) k hlt
      have hltI : (k : Int) < (l.length : Int) := by omega
      have hpl : plainOk s l[k] = (decide (0 ≤ l[k]) && decide (l[k] ≤ s - 1)) := rfl
      have hc' : wr.cell? ⟨b, off + k, none⟩ = some (.int .i64 l[k]) := hc.trans (by simp [hlt])
      obtain ⟨x, hx⟩ : ∃ x, l[k] = x := ⟨_, rfl⟩
      rw [hx] at hpl hc'
      have Hx := Lib.hid hx
      clear hc hx
      cases hp : plainOk s x
      · have Hr := Lib.hid (all_false_at (p := plainOk s) hlt (by rw [Hx.out]; exact hp))
        have Hpl : Hid ((decide (0 ≤ x) && decide (x ≤ s - 1)) = _) := Lib.hid (hpl.symm.trans hp)
        clear hp hpl
        go_wp2
        (refine wp_region_ext 9 (by kernel_rfl) (by kernel_rfl) ?_; simp only [List.take_succ_cons, List.take_zero, List.drop_succ_cons, List.drop_zero]; (repeat (go_big_quiet_step (((go_at_call 23; refine Calls_ext_same (in_eq x 0 (s - 1) _ Hpl _)))))); refine wpQuiet_nil ?_; rintro _ ⟨ex, rfl⟩; have hex := ex.below; have hexz := ex.size; (try simp at hexz); (try (have hy0 : w.heap.size < ex.to.heap.size := by omega)); (try (have hy1 : w.heap.size + 1 < ex.to.heap.size := by omega)); (try (have hy2 : w.heap.size + 2 < ex.to.heap.size := by omega)))
        go_wp2
        go_ret
        rw [Hr.out]
        exact ⟨rfl, hwr.trans (ex.below.mono hwr.size)⟩
      · have Hr := Lib.hid (all_take_succ (p := plainOk s) hlt Hall.out (by rw [Hx.out]; exact hp))
        have Hpl : Hid ((decide (0 ≤ x) && decide (x ≤ s - 1)) = _) := Lib.hid (hpl.symm.trans hp)
        clear hp hpl
        go_wp2
        (refine wp_region_ext 9 (by kernel_rfl) (by kernel_rfl) ?_; simp only [List.take_succ_cons, List.take_zero, List.drop_succ_cons, List.drop_zero]; (repeat (go_big_quiet_step (((go_at_call 23; refine Calls_ext_same (in_eq x 0 (s - 1) _ Hpl _)))))); refine wpQuiet_nil ?_; rintro _ ⟨ex, rfl⟩; have hex := ex.below; have hexz := ex.size; (try simp at hexz); (try (have hy0 : w.heap.size < ex.to.heap.size := by omega)); (try (have hy1 : w.heap.size + 1 < ex.to.heap.size := by omega)); (try (have hy2 : w.heap.size + 2 < ex.to.heap.size := by omega)))
        go_wp2
        go_roundw
        case rel => exact ⟨k + 1, by omega, by go_num, Hr.out, hb.trans (ex.below.mono (by omega))⟩
        case measure => simp [intOf]; omega
    · have Hr := Lib.hid (all_of_take (by omega) Hall.out)
      go_wp2
      go_ret
      rw [Hr.out]
      exact ⟨rfl, hwr⟩
end Go.Proofs.Ytmplgcefhpobgaa
