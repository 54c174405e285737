/- cipher: code, check, inverse, decode, the indicator -/
import Derived.Test.YtmplgcefhpobgaaCd
import Derived.Test.YtmplgcefhpobgaaOwn
namespace Go.Proofs.Ytmplgcefhpobgaa
set_option linter.unusedVariables false
set_option linter.unusedSimpArgs false
set_option linter.unnecessarySimpa false
open Go.RowKit Go.Flow

theorem mul_b {a b A B : Int} (h0 : 0 ≤ a) (h1 : a ≤ A) (h2 : 0 ≤ b) (h3 : b ≤ B) : 0 ≤ a * b ∧ a * b ≤ A * B :=
  ⟨Int.mul_nonneg h0 h2, Int.le_trans (Int.mul_le_mul_of_nonneg_right h1 h2) (Int.mul_le_mul_of_nonneg_left h3 (Int.le_trans h0 h1))⟩

def codeN (s m a st n i : Int) : Int := (m * n + a + i * st) % s
theorem codeN_b {s m a st n i : Int} (hs : 0 < s) : 0 ≤ codeN s m a st n i ∧ codeN s m a st n i < s := ⟨Int.emod_nonneg _ (by omega), Int.emod_lt_of_pos _ hs⟩

set_option maxHeartbeats 400000 in
theorem code_any (s wo m a st n i : Int) (ks ds : Value) (w : World) (h0 : 0 < s) (h1 : s ≤ 1000) (m0 : 0 ≤ m) (m1 : m ≤ 1000) (a0 : 0 ≤ a) (a1 : a ≤ 1000) (st0 : 0 ≤ st) (st1 : st ≤ 1000) (n0 : 0 ≤ n) (n1 : n ≤ 1000) (i0 : 0 ≤ i) (i1 : i ≤ 1000) :
    Calls Try.prog 60 #[.agg #[.int .i64 s, .int .i64 wo, ks, ds], .agg #[.int .i64 m, .int .i64 a, .int .i64 st], .int .i64 n, .int .i64 i] w fun e w' => e = .returned (.int .i64 (codeN s m a st n i)) ∧ Below w.heap.size w w' := by
  obtain ⟨b1, b2⟩ := mul_b m0 m1 n0 n1
  obtain ⟨b3, b4⟩ := mul_b i0 i1 st0 st1
  have hne : (s == 0) = false := by simp; omega
  go_enter Try.func60, Try.ntmps60
  go_wp2
  go_ret
  exact ⟨rfl, by (repeat (first | exact Below.refl _ _ | refine Below.alloc ?_ (by first | omega | (simp; done) | (simp; omega)) _ | refine Below.drew ?_ | refine Below.setCell ?_ (by first | omega | (simp; done) | (simp; omega)) _ | refine Below.trans ?_ (Below.mono (by assumption) (by first | omega | (simp; done) | (simp; omega)))))⟩

set_option maxHeartbeats 400000 in
theorem indicator_any (s wo : Int) (ak : Option Addr) (ks : List (Int × Int × Int)) (ck : Nat) (ad : Option Addr) (ds : List Int) (cd : Nat) (day : Nat) (w : World) (hk : Recs3At w ak ks) (hd : IntsAt w ad ds) (lk : ks.length ≤ 1000) (ld : ds.length ≤ 1000) (hn : day < ds.length) (hkn : 0 < ks.length) (hd0 : ∀ x ∈ ds, 0 ≤ x ∧ x ≤ 1000) :
    Calls Try.prog 58 #[.agg #[.int .i64 s, .int .i64 wo, .slice ak ks.length ck, .slice ad ds.length cd], .int .i64 day] w fun e w' => e = .returned (.int .i64 ((ds[day] + day) % ks.length)) ∧ Below w.heap.size w w' := by
  obtain ⟨hx0, hx1⟩ := hd0 _ (List.getElem_mem hn)
  obtain ⟨b, off, rfl, hbl, hc⟩ := hd day hn
  have hne : ((ks.length : Int) == 0) = false := by simp; intro h; subst h; simp at hkn
  have hpos : (0 : Int) < ks.length := by omega
  have hday : (day : Int) < ds.length := by omega
  have hbw : b < w.heap.size + 1 := by omega
  have hs1 : IntKind.i64.wrap (ds[day] + (day : Int)) = ds[day] + (day : Int) := IntWalk.i64_in _ (by omega)
  go_enter Try.func58, Try.ntmps58
  go_wp2
  (refine wp_region_ext 12 (by kernel_rfl) (by kernel_rfl) ?_; simp only [List.take_succ_cons, List.take_zero, List.drop_succ_cons, List.drop_zero]; (repeat (go_big_quiet_step ((fail)))); refine wpQuiet_nil ?_; rintro _ ⟨ex, rfl⟩; have hex := ex.below; have hexz := ex.size; (try simp at hexz); (try (have hy0 : w.heap.size < ex.to.heap.size := by omega)); (try (have hy1 : w.heap.size + 1 < ex.to.heap.size := by omega)); (try (have hy2 : w.heap.size + 2 < ex.to.heap.size := by omega)))
  go_wp2
  go_ret
  exact ⟨rfl, by (repeat (first | exact Below.refl _ _ | refine Below.alloc ?_ (by first | omega | (simp; done) | (simp; omega)) _ | refine Below.drew ?_ | refine Below.setCell ?_ (by first | omega | (simp; done) | (simp; omega)) _ | refine Below.trans ?_ (Below.mono (by assumption) (by first | omega | (simp; done) | (simp; omega)))))⟩

def wsum : List Int → Nat → Int
  | [], _ => 0
  | x :: l, i => ((i : Int) + 1) * x + wsum l (i + 1)
theorem wsum_snoc : ∀ (l : List Int) (x : Int) (i : Nat), wsum (l ++ [x]) i = wsum l i + (((i + l.length : Nat) : Int) + 1) * x
  | [], x, i => by simp [wsum]
  | y :: l, x, i => by
    simp only [List.cons_append, wsum, wsum_snoc l x (i + 1), List.length_cons]
    rw [show i + 1 + l.length = i + (l.length + 1) by omega]
    omega
theorem wsum_take (l : List Int) (k : Nat) (hk : k < l.length) : wsum (l.take (k + 1)) 0 = wsum (l.take k) 0 + ((k : Int) + 1) * l[k] := by
  rw [List.take_succ_eq_append_getElem hk, wsum_snoc]
  simp [Nat.min_eq_left (Nat.le_of_lt hk)]
theorem wsum_b : ∀ (l : List Int) (i : Nat), (∀ x ∈ l, 0 ≤ x ∧ x ≤ 1000) → i + l.length ≤ 1000 → 0 ≤ wsum l i ∧ wsum l i ≤ l.length * 1000000
  | [], _, _, _ => by simp [wsum]
  | x :: l, i, h, hi => by
    have hx := h x (List.mem_cons_self ..)
    have ih := wsum_b l (i + 1) (fun y hy => h y (List.mem_cons_of_mem _ hy)) (by simp at hi; omega)
    have := mul_b (a := (i : Int) + 1) (b := x) (A := 1000) (B := 1000) (by omega) (by simp at hi; omega) hx.1 hx.2
    simp only [wsum, List.length_cons]
    omega
def checkN (s : Int) (l : List Int) : Int := wsum l 0 % s

set_option maxHeartbeats 400000 in
theorem check_any (s wo : Int) (ks ds : Value) (al : Option Addr) (l : List Int) (cl : Nat) (w : World) (h0 : 0 < s) (h1 : s ≤ 1000) (hl : IntsAt w al l) (hn : l.length ≤ 1000) (hb : ∀ x ∈ l, 0 ≤ x ∧ x ≤ 1000) :
    Calls Try.prog 61 #[.agg #[.int .i64 s, .int .i64 wo, ks, ds], .slice al l.length cl] w fun e w' => e = .returned (.int .i64 (checkN s l)) ∧ Below w.heap.size w w' := by
  have hne : (s == 0) = false := by simp; omega
  go_enter Try.func61, Try.ntmps61
  go_wp2
  go_loop [4, 5, 6, 9] (fun t _ _ i => ∃ k : Nat, k ≤ l.length ∧ i = .int .i64 k ∧ t = .int .i64 (wsum (l.take k) 0)) (fun _ _ _ i => l.length - (intOf i).toNat)
  case atStart => exact ⟨0, Nat.zero_le _, rfl, rfl⟩
  case round =>
    obtain ⟨k, hk, rfl, rfl⟩ := hrel
    have hs := wsum_b (l.take k) 0 (fun x hx => hb x (List.mem_of_mem_take hx)) (by simp; omega)
    have hlk : ((l.take k).length : Int) ≤ 1000 := by simp; omega
    obtain ⟨hs0, hs1⟩ := hs
    have hs2 : wsum (l.take k) 0 ≤ 1000000000 := by omega
    clear hs1 hlk
    by_cases hlt : k < l.length
    · obtain ⟨b, off, rfl, hbl, hc⟩ := hl k hlt
      obtain ⟨hx0, hx1⟩ := hb l[k] (List.getElem_mem hlt)
      obtain ⟨hm0, hm1⟩ := mul_b (a := (k : Int) + 1) (b := l[k]) (A := 1001) (B := 1000) (by omega) (by omega) hx0 hx1
      go_wp2
      go_round
      case rel => exact ⟨k + 1, by omega, by go_num, by rw [wsum_take l k hlt]⟩
      case measure => simp [intOf]; omega
    · obtain rfl : k = l.length := by omega
      rw [List.take_length] at hs0 hs2 ⊢
      go_wp2
      go_ret
      exact ⟨rfl, by (repeat (first | exact Below.refl _ _ | refine Below.alloc ?_ (by first | omega | (simp; done) | (simp; omega)) _ | refine Below.drew ?_ | refine Below.setCell ?_ (by first | omega | (simp; done) | (simp; omega)) _ | refine Below.trans ?_ (Below.mono (by assumption) (by first | omega | (simp; done) | (simp; omega)))))⟩

def invN (s n : Int) : Int := (((List.range s.toNat).find? fun (m : Nat) => decide ((m : Int) * n % s = 1)).getD 0 : Nat)
theorem find_hit {p : Nat → Bool} {N k : Nat} (hk : k < N) (h : p k = true) (hno : ∀ j, j < k → p j = false) : (List.range N).find? p = some k := by
  rw [List.find?_range_eq_some]
  exact ⟨h, List.mem_range.2 hk, fun j hj => by simp [hno j hj]⟩
theorem find_no {p : Nat → Bool} {N : Nat} (hno : ∀ j, j < N → p j = false) : (List.range N).find? p = none := by
  rw [List.find?_eq_none]
  intro x hx
  simp [hno x (List.mem_range.1 hx)]
theorem invN_b (s n : Int) (hs : 0 < s) : 0 ≤ invN s n ∧ invN s n < s := by
  unfold invN
  cases h : (List.range s.toNat).find? fun (m : Nat) => decide ((m : Int) * n % s = 1) with
  | none => simp; exact hs
  | some k =>
    have := List.mem_of_find?_eq_some h
    simp at this ⊢
    omega

set_option maxHeartbeats 400000 in
theorem inverse_any (s wo n : Int) (ks ds : Value) (w : World) (h0 : 0 < s) (h1 : s ≤ 1000) (n0 : 0 ≤ n) (n1 : n ≤ 1000) :
    Calls Try.prog 89 #[.agg #[.int .i64 s, .int .i64 wo, ks, ds], .int .i64 n] w fun e w' => e = .returned (.int .i64 (invN s n)) ∧ Below w.heap.size w w' := by
  have hne : (s == 0) = false := by simp; omega
  have hN : Hid (s = (s.toNat : Int)) := by show s = _; omega
  go_enter Try.func89, Try.ntmps89
  go_wp2
  go_loop [5, 8] (fun _ i => ∃ k : Nat, (k : Int) ≤ s ∧ i = .int .i64 k ∧ ∀ j : Nat, j < k → decide ((j : Int) * n % s = 1) = false) (fun _ i => s.toNat - (intOf i).toNat)
  case atStart => exact ⟨0, by omega, rfl, fun j hj => by omega⟩
  case round =>
    obtain ⟨k, hk, rfl, hno⟩ := hrel
    have Hno := Lib.hid hno
    clear hno
    by_cases hlt : (k : Int) < s
    · obtain ⟨hm0, hm1⟩ := mul_b (a := (k : Int)) (b := n) (A := 1000) (B := 1000) (by omega) (by omega) n0 n1
      go_wp2
      · have he : ((k : Int) * n % s == 1) = true := by assumption
        go_ret
        refine ⟨?_, by (repeat (first | exact Below.refl _ _ | refine Below.alloc ?_ (by first | omega | (simp; done) | (simp; omega)) _ | refine Below.drew ?_ | refine Below.setCell ?_ (by first | omega | (simp; done) | (simp; omega)) _ | refine Below.trans ?_ (Below.mono (by assumption) (by first | omega | (simp; done) | (simp; omega)))))⟩
        unfold invN
        rw [find_hit (k := k) (by have := hN.out; omega) (by simpa using he) Hno.out]
        rfl
      · have he : ((k : Int) * n % s == 1) = false := by assumption
        go_round
        case rel =>
          refine ⟨k + 1, by omega, by go_num, fun j hj => ?_⟩
          by_cases hjk : j = k
          · subst hjk; simpa using he
          · exact Hno.out j (by omega)
        case measure => simp [intOf]; have := hN.out; omega
    · go_wp2
      go_ret
      refine ⟨?_, by (repeat (first | exact Below.refl _ _ | refine Below.alloc ?_ (by first | omega | (simp; done) | (simp; omega)) _ | refine Below.drew ?_ | refine Below.setCell ?_ (by first | omega | (simp; done) | (simp; omega)) _ | refine Below.trans ?_ (Below.mono (by assumption) (by first | omega | (simp; done) | (simp; omega)))))⟩
      unfold invN
      rw [find_no (fun j hj => Hno.out j (by have := hN.out; omega))]
      rfl

def decodeN (s m a st n i : Int) : Int := (n + -a % s + i * (s - st)) % s * invN s m % s
set_option maxHeartbeats 400000 in
theorem decode_any (s wo m a st n i : Int) (ks ds : Value) (w : World) (h0 : 0 < s) (h1 : s ≤ 1000) (m0 : 0 ≤ m) (m1 : m ≤ 1000) (a0 : 0 ≤ a) (a1 : a ≤ s) (st0 : 0 ≤ st) (st1 : st ≤ s) (n0 : 0 ≤ n) (n1 : n ≤ 1000) (i0 : 0 ≤ i) (i1 : i ≤ 1000) :
    Calls Try.prog 66 #[.agg #[.int .i64 s, .int .i64 wo, ks, ds], .agg #[.int .i64 m, .int .i64 a, .int .i64 st], .int .i64 n, .int .i64 i] w fun e w' => e = .returned (.int .i64 (decodeN s m a st n i)) ∧ Below w.heap.size w w' := by
  have hne : (s == 0) = false := by simp; omega
  have hq0 : 0 ≤ -a % s := Int.emod_nonneg _ (by omega)
  have hq1 : -a % s < s := Int.emod_lt_of_pos _ h0
  obtain ⟨hm0, hm1⟩ := mul_b (a := i) (b := s - st) (A := 1000) (B := 1000) i0 i1 (by omega) (by omega)
  have hl0 : 0 ≤ (n + -a % s + i * (s - st)) % s := Int.emod_nonneg _ (by omega)
  have hl1 : (n + -a % s + i * (s - st)) % s < s := Int.emod_lt_of_pos _ h0
  obtain ⟨hv0, hv1⟩ := invN_b s m h0
  obtain ⟨hp0, hp1⟩ := mul_b (a := (n + -a % s + i * (s - st)) % s) (b := invN s m) (A := 1000) (B := 1000) hl0 (by omega) hv0 (by omega)
  have w1 : IntKind.i64.wrap (s - a) = s - a := IntWalk.i64_in _ (by omega)
  have w2 : IntKind.i64.wrap (s - st) = s - st := IntWalk.i64_in _ (by omega)
  have w3 : IntKind.i64.wrap (n + -a % s) = n + -a % s := IntWalk.i64_in _ (by omega)
  have w4 : IntKind.i64.wrap (i * (s - st)) = i * (s - st) := IntWalk.i64_in _ (by omega)
  have w5 : IntKind.i64.wrap (n + -a % s + i * (s - st)) = n + -a % s + i * (s - st) := IntWalk.i64_in _ (by omega)
  have w6 : IntKind.i64.wrap ((n + -a % s + i * (s - st)) % s * invN s m) = (n + -a % s + i * (s - st)) % s * invN s m := IntWalk.i64_in _ (by omega)
  have x0 : 0 ≤ s - a := by omega
  go_enter Try.func66, Try.ntmps66
  go_wp2
  (refine wp_region_ext 22 (by kernel_rfl) (by kernel_rfl) ?_; simp only [List.take_succ_cons, List.take_zero, List.drop_succ_cons, List.drop_zero]; (repeat (go_big_quiet_step ((fail)))); refine wpQuiet_nil ?_; rintro _ ⟨ex, rfl⟩; have hex := ex.below; have hexz := ex.size; (try simp at hexz); (try (have hy0 : w.heap.size < ex.to.heap.size := by omega)); (try (have hy1 : w.heap.size + 1 < ex.to.heap.size := by omega)); (try (have hy2 : w.heap.size + 2 < ex.to.heap.size := by omega)))
  go_wp2
  (refine wp_region_ext 9 (by kernel_rfl) (by kernel_rfl) ?_; simp only [List.take_succ_cons, List.take_zero, List.drop_succ_cons, List.drop_zero]; (repeat (go_big_quiet_step (((go_at_call 89; refine Calls_ext (inverse_any _ _ _ _ _ _ (by omega) (by omega) (by omega) (by omega))))))); refine wpQuiet_nil ?_; rintro _ ⟨ex, rfl⟩; have hex := ex.below; have hexz := ex.size; (try simp at hexz); (try (have hy0 : w.heap.size < ex.to.heap.size := by omega)); (try (have hy1 : w.heap.size + 1 < ex.to.heap.size := by omega)); (try (have hy2 : w.heap.size + 2 < ex.to.heap.size := by omega)))
  go_wp2
  go_ret
  exact ⟨rfl, by (repeat (first | exact Below.refl _ _ | refine Below.alloc ?_ (by first | omega | (simp; done) | (simp; omega)) _ | refine Below.drew ?_ | refine Below.setCell ?_ (by first | omega | (simp; done) | (simp; omega)) _ | refine Below.trans ?_ (Below.mono (by assumption) (by first | omega | (simp; done) | (simp; omega)))))⟩

end Go.Proofs.Ytmplgcefhpobgaa
