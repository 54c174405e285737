/- cipher: small tests · cipher: prime · slices.IndexFunc, slices.ContainsFunc and cipher's all, over whatever predicate · cipher: CheckBook · cipher: code, check, inverse, decode, the indicator · cipher: turned, Code, Decode · slices.Clone, slices.DeleteFunc at ints; the law's own copy · slices.DeleteFunc at ints · cipher: Decode · cipher: losses, had, Exposed · cipher: Exposed -/
import Derived.Test.YtnofcpihkglmmaaBase
import Derived.Test.YtnofcpihkglmmaaOwn
import Derived.Lib.SliceRun
namespace Go.Proofs.Ytnofcpihkglmmaa
set_option linter.unusedVariables false
set_option linter.unusedSimpArgs false
set_option linter.unnecessarySimpa false
open Go.RowKit Go.Flow

set_option maxHeartbeats 400000 in
theorem within_any (a b c : Int) (w : World) :
    Calls Try.prog 31 #[.int .i64 a, .int .i64 b, .int .i64 c] w fun e w' => e = .returned (.bool (decide (b ≤ a) && decide (a ≤ c))) ∧ w = w' := by
  by_cases h : b ≤ a
  · have h1 : decide (b ≤ a) = true := by simpa using h
    go_enter Try.func31, Try.ntmps31
    go_wp2
    go_ret
    exact ⟨by simp [h1], rfl⟩
  · have h1 : decide (b ≤ a) = false := by simpa using h
    go_enter Try.func31, Try.ntmps31
    go_wp2
    go_ret
    exact ⟨by simp [h1], rfl⟩

set_option maxHeartbeats 400000 in
theorem plain_any (s wo n : Int) (ks ds : Value) (w : World) (h0 : 0 ≤ s) (h1 : s ≤ 1000) :
    Calls Try.prog 40 #[.agg #[.int .i64 s, .int .i64 wo, ks, ds], .int .i64 n] w fun e w' => e = .returned (.bool (decide (0 ≤ n) && decide (n ≤ s - 1))) ∧ Below w.heap.size w w' := by
  go_enter Try.func40, Try.ntmps40
  go_wp2_with (go_at_call 31; refine (within_any _ _ _ _).mono ?_; rintro e w1 ⟨rfl, rfl⟩)
  go_ret
  exact ⟨rfl, (Below.refl _ _).alloc (Nat.le_refl _) _⟩

set_option maxHeartbeats 400000 in
theorem own_any (s wo n : Int) (ak ad : Option Addr) (nk ck nd cd : Nat) (w : World) (h : nk ≤ 1000) :
    Calls Try.prog 62 #[.agg #[.int .i64 s, .int .i64 wo, .slice ak nk ck, .slice ad nd cd], .int .i64 n] w fun e w' => e = .returned (.bool (decide (0 ≤ n) && decide (n ≤ (nk : Int) - 1))) ∧ Below w.heap.size w w' := by
  go_enter Try.func62, Try.ntmps62
  go_wp2_with (go_at_call 31; refine (within_any _ _ _ _).mono ?_; rintro e w1 ⟨rfl, rfl⟩)
  go_ret
  exact ⟨rfl, (Below.refl _ _).alloc (Nat.le_refl _) _⟩

set_option maxHeartbeats 400000 in
theorem day_any (s wo n : Int) (ak ad : Option Addr) (nk ck nd cd : Nat) (w : World) (h : nd ≤ 1000) :
    Calls Try.prog 38 #[.agg #[.int .i64 s, .int .i64 wo, .slice ak nk ck, .slice ad nd cd], .int .i64 n] w fun e w' => e = .returned (.bool (decide (0 ≤ n) && decide (n ≤ (nd : Int) - 1))) ∧ Below w.heap.size w w' := by
  go_enter Try.func38, Try.ntmps38
  go_wp2_with (go_at_call 31; refine (within_any _ _ _ _).mono ?_; rintro e w1 ⟨rfl, rfl⟩)
  go_ret
  exact ⟨rfl, (Below.refl _ _).alloc (Nat.le_refl _) _⟩

set_option maxHeartbeats 400000 in
theorem key_any (s wo m a st : Int) (ks ds : Value) (w : World) (h0 : 0 ≤ s) (h1 : s ≤ 1000) :
    Calls Try.prog 61 #[.agg #[.int .i64 s, .int .i64 wo, ks, ds], .agg #[.int .i64 m, .int .i64 a, .int .i64 st]] w fun e w' => e = .returned (.bool ((decide (1 ≤ m) && decide (m ≤ s - 1)) && (decide (0 ≤ a) && decide (a ≤ s - 1)) && (decide (0 ≤ st) && decide (st ≤ s - 1)))) ∧ Below w.heap.size w w' := by
  go_enter Try.func61, Try.ntmps61
  go_wp2_with (first | (go_at_call 31; refine (within_any _ _ _ _).mono ?_; rintro e w1 ⟨rfl, rfl⟩) | (go_at_call 40; refine (plain_any _ _ _ _ _ _ (by assumption) (by assumption)).mono ?_; rintro e w1 ⟨rfl, hb1⟩; obtain ⟨hc1, hf1, hz1⟩ := bcell hb1; (try simp at hz1); (try (have hy0 : w.heap.size < w1.heap.size := by omega)); (try (have hy1 : w.heap.size + 1 < w1.heap.size := by omega)); (try (have hy2 : w.heap.size + 2 < w1.heap.size := by omega))))
  all_goals go_ret
  all_goals (refine ⟨by simp [*], ?_⟩; (repeat (first | exact Below.refl _ _ | refine Below.alloc ?_ (by first | omega | (simp; done) | (simp; omega)) _ | refine Below.drew ?_ | refine Below.setCell ?_ (by first | omega | (simp; done) | (simp; omega)) _ | refine Below.trans ?_ (Below.mono (by assumption) (by first | omega | (simp; done) | (simp; omega))))))

end Go.Proofs.Ytnofcpihkglmmaa

namespace Go.Proofs.Ytnofcpihkglmmaa
set_option linter.unusedVariables false
set_option linter.unusedSimpArgs false
set_option linter.unnecessarySimpa false
open Go.RowKit Go.Flow

/-- no divisor from 2 to k-1 -/
def primeTo (n k : Nat) : Bool := (List.range k).all fun d => !(decide (1 < d) && decide (n % d = 0))
theorem primeTo_succ (n k : Nat) : primeTo n (k + 1) = (primeTo n k && !(decide (1 < k) && decide (n % k = 0))) := by
  simp [primeTo, List.range_succ]
theorem primeTo_false (n k m : Nat) (h : k < m) (h1 : 1 < k) (h2 : n % k = 0) : primeTo n m = false := by
  have : ¬ (primeTo n m = true) := by
    intro hp
    simp only [primeTo, List.all_eq_true, List.mem_range] at hp
    have := hp k h
    simp [h1, h2] at this
  simpa using this

set_option maxHeartbeats 400000 in
theorem prime_any (n : Nat) (w : World) (h : n ≤ 1000) :
    Calls Try.prog 63 #[.int .i64 n] w fun e w' => e = .returned (.bool (primeTo n n)) ∧ w = w' := by
  go_enter Try.func63, Try.ntmps63
  go_wp2; go_step3
  go_wp2; go_step3
  go_wp2
  go_loop [2, 3, 5] (fun t _ i => ∃ k : Nat, k ≤ n ∧ i = .int .i64 k ∧ t = .bool true ∧ primeTo n k = true) (fun _ _ i => n - (intOf i).toNat)
  case atStart => exact ⟨0, Nat.zero_le _, rfl, rfl, rfl⟩
  case round =>
    obtain ⟨k, hk, rfl, rfl, hp⟩ := hrel
    have Hp := Lib.hid hp
    clear hp
    go_wp2
    · have h1 : (1 : Int) < k := by assumption
      have h2 : ((n : Int) % (k : Int) == 0) = true := by assumption
      have h3 : k < n := by assumption
      rw [primeTo_false n k n h3 (by omega) (by simp only [beq_iff_eq] at h2; omega)]
      go_ret
      exact ⟨rfl, rfl⟩
    · have h2 : ((n : Int) % (k : Int) == 0) = false := by assumption
      go_round
      case rel => exact ⟨k + 1, by omega, by go_num, rfl, by rw [primeTo_succ, Hp.out]; simp only [beq_eq_false_iff_ne] at h2; simp; omega⟩
      case measure => simp [intOf]; omega
    · have h1 : ¬ (1 : Int) < k := by assumption
      go_round
      case rel => exact ⟨k + 1, by omega, by go_num, rfl, by rw [primeTo_succ, Hp.out]; simp; omega⟩
      case measure => simp [intOf]; omega
    · obtain rfl : k = n := by omega
      go_ret
      exact ⟨by rw [Hp.out]; rfl, rfl⟩

theorem prime_int (s : Int) (w : World) (h0 : 0 ≤ s) (h1 : s ≤ 1000) :
    Calls Try.prog 63 #[.int .i64 s] w fun e w' => e = .returned (.bool (primeTo s.toNat s.toNat)) ∧ w = w' := by
  obtain ⟨n, rfl⟩ := Int.eq_ofNat_of_zero_le h0
  exact prime_any n w (by omega)
end Go.Proofs.Ytnofcpihkglmmaa

namespace Go.Proofs.Ytnofcpihkglmmaa
set_option linter.unusedVariables false
set_option linter.unusedSimpArgs false
set_option linter.unnecessarySimpa false
open Go.RowKit Go.Flow

set_option maxRecDepth 100000 in
set_option maxHeartbeats 400000 in
theorem indexFunc_int (a : Option Addr) (xs : List Int) (c : Nat) (g : FuncId) (first cap : Array Value) (p : Int → Bool) (w : World) (hl : xs.length ≤ 9223372036854775807) (hx : IntsAt w a xs)
    (hg : ∀ args w, Sem.run Try.prog (callFunc g args) w = .ok (.enter g args) w) (hp : ∀ x ∈ xs, Meets Try.prog w g first cap (.int .i64 x) (p x)) :
    Calls Try.prog 67 #[.slice a xs.length c, .func (.func g) first cap] w fun e w' => e = .returned (.int .i64 (idxBy p xs 0)) ∧ Below w.heap.size w w' := by
  go_enter Try.func67, Try.ntmps67
  go_wp2
  go_loopw [5, 8] (fun _ i wr => ∃ k : Nat, k ≤ xs.length ∧ i = .int .i64 k ∧ Below w.heap.size w wr ∧ idxBy p xs 0 = idxBy p (xs.drop k) k) (fun _ i _ => xs.length - (intOf i).toNat)
  case atStart => exact ⟨0, Nat.zero_le _, rfl, Below.refl _ _, by simp⟩
  case round =>
    obtain ⟨k, hk, rfl, hb, hi⟩ := hrel
    have Hi := Lib.hid hi
    clear hi
    by_cases hlt : k < xs.length
    · obtain ⟨b, off, rfl, hbl, hc⟩ := hx k hlt
      have hc' : wr.cell? ⟨b, off + k, none⟩ = some (.int .i64 (xs.getD k 0)) := (hb.cell (p := ⟨b, off + k, none⟩) hbl).trans hc
      clear hc
      have hm := hp xs[k] (List.getElem_mem hlt)
      go_wp2_with (refine (hm wr hb).mono ?_; rintro e w1 ⟨rfl, hb1⟩)
      · have h1 : p xs[k] = true := by assumption
        go_ret
        exact ⟨by rw [Hi.out, idxBy_hit p xs k hlt h1]; rfl, hb.trans (hb1.mono hb.size)⟩
      · have h1 : p xs[k] = false := by assumption
        go_roundw
        case rel => exact ⟨k + 1, by omega, by go_num, hb.trans (hb1.mono hb.size), by rw [Hi.out, idxBy_miss p xs k hlt h1]⟩
        case measure => simp [intOf]; omega
    · go_wp2
      go_ret
      exact ⟨by rw [Hi.out, idxBy_end p xs k k (by omega)]; rfl, hb⟩

set_option maxHeartbeats 400000 in
theorem containsFunc_int (a : Option Addr) (xs : List Int) (c : Nat) (g : FuncId) (first cap : Array Value) (p : Int → Bool) (w : World) (hl : xs.length ≤ 9223372036854775807) (hx : IntsAt w a xs)
    (hg : ∀ args w, Sem.run Try.prog (callFunc g args) w = .ok (.enter g args) w) (hp : ∀ x ∈ xs, Meets Try.prog w g first cap (.int .i64 x) (p x)) :
    Calls Try.prog 65 #[.slice a xs.length c, .func (.func g) first cap] w fun e w' => e = .returned (.bool (xs.any p)) ∧ Below w.heap.size w w' := by
  rw [← idxBy_any p xs 0]
  have hi := idxBy_le p xs 0
  go_enter Try.func65, Try.ntmps65
  go_wp2_with (go_at_call 67; refine (indexFunc_int a xs c g first cap p w hl hx hg hp).mono ?_; rintro e w1 ⟨rfl, hb1⟩; obtain ⟨hc1, hf1, hz1⟩ := bcell hb1; (try simp at hz1); (try (have hy0 : w.heap.size < w1.heap.size := by omega)); (try (have hy1 : w.heap.size + 1 < w1.heap.size := by omega)); (try (have hy2 : w.heap.size + 2 < w1.heap.size := by omega)))
  go_ret
  exact ⟨rfl, hb1⟩

set_option maxHeartbeats 400000 in
theorem allNot_int (x : Int) (B : Nat) (g : FuncId) (first cap : Array Value) (q : Bool) (w : World) (hB : B < w.heap.size) (hc : w.cell? ⟨B, 0, none⟩ = some (.func (.func g) first cap))
    (hg : ∀ args w, Sem.run Try.prog (callFunc g args) w = .ok (.enter g args) w) (hm : Meets Try.prog w g first cap (.int .i64 x) q) : Meets Try.prog w 66 #[] #[.pointer (some ⟨B, 0, none⟩)] (.int .i64 x) !q := by
  intro w' hb'
  have hc' : w'.cell? ⟨B, 0, none⟩ = some (.func (.func g) first cap) := (hb'.cell (p := ⟨B, 0, none⟩) hB).trans hc
  have hBw : B < w'.heap.size := Nat.lt_of_lt_of_le hB hb'.size
  clear hc
  show Calls Try.prog 66 #[.int .i64 x, .pointer (some ⟨B, 0, none⟩)] w' _
  go_enter Try.func66, Try.ntmps66
  go_wp2_with (refine (hm _ hb').mono ?_; rintro e w1 ⟨rfl, hb1⟩)
  go_ret
  exact ⟨rfl, hb1⟩

set_option maxHeartbeats 400000 in
theorem all_int (a : Option Addr) (xs : List Int) (c : Nat) (g : FuncId) (first cap : Array Value) (p : Int → Bool) (w : World) (hl : xs.length ≤ 9223372036854775807) (hx : IntsAt w a xs)
    (hg : ∀ args w, Sem.run Try.prog (callFunc g args) w = .ok (.enter g args) w) (hp : ∀ x ∈ xs, Meets Try.prog w g first cap (.int .i64 x) (p x)) :
    Calls Try.prog 39 #[.slice a xs.length c, .func (.func g) first cap] w fun e w' => e = .returned (.bool (xs.all p)) ∧ Below w.heap.size w w' := by
  have e1 : xs.all p = !(xs.any fun x => !p x) := by rw [List.all_eq_not_any_not]
  rw [e1]
  have hb0 : Below w.heap.size w (w.alloc (.cells #[.func (.func g) first cap] 55)) := (Below.refl _ _).alloc (Nat.le_refl _) _
  go_enter Try.func39, Try.ntmps39
  go_wp2_with (go_at_call 65; refine (containsFunc_int a xs c 66 #[] #[.pointer (some ⟨w.heap.size, 0, none⟩)] (fun x => !p x) _ hl (hx.below hb0) (enters Try.func66 (by kernel_rfl) rfl) (fun x hxx => allNot_int x w.heap.size g first cap (p x) _ (by simp) (by rw [World.cell?_alloc_at _ _ _ _ rfl]; rfl) hg ((hp x hxx).below hb0))).mono ?_; rintro e w1 ⟨rfl, hb1⟩; obtain ⟨hc1, hf1, hz1⟩ := bcell hb1; (try simp at hz1); (try (have hy0 : w.heap.size < w1.heap.size := by omega)); (try (have hy1 : w.heap.size + 1 < w1.heap.size := by omega)); (try (have hy2 : w.heap.size + 2 < w1.heap.size := by omega)))
  go_ret
  exact ⟨by simp, hb0.trans (hb1.mono (by simp))⟩

set_option maxRecDepth 100000 in
set_option maxHeartbeats 400000 in
theorem indexFunc_key (a : Option Addr) (xs : List (Int × Int × Int)) (c : Nat) (g : FuncId) (first cap : Array Value) (p : (Int × Int × Int) → Bool) (w : World) (hl : xs.length ≤ 9223372036854775807) (hx : Recs3At w a xs)
    (hg : ∀ args w, Sem.run Try.prog (callFunc g args) w = .ok (.enter g args) w) (hp : ∀ x ∈ xs, Meets Try.prog w g first cap (.agg #[.int .i64 x.1, .int .i64 x.2.1, .int .i64 x.2.2]) (p x)) :
    Calls Try.prog 93 #[.slice a xs.length c, .func (.func g) first cap] w fun e w' => e = .returned (.int .i64 (idxBy p xs 0)) ∧ Below w.heap.size w w' := by
  go_enter Try.func93, Try.ntmps93
  go_wp2
  go_loopw [5, 8] (fun _ i wr => ∃ k : Nat, k ≤ xs.length ∧ i = .int .i64 k ∧ Below w.heap.size w wr ∧ idxBy p xs 0 = idxBy p (xs.drop k) k) (fun _ i _ => xs.length - (intOf i).toNat)
  case atStart => exact ⟨0, Nat.zero_le _, rfl, Below.refl _ _, by simp⟩
  case round =>
    obtain ⟨k, hk, rfl, hb, hi⟩ := hrel
    have Hi := Lib.hid hi
    clear hi
    by_cases hlt : k < xs.length
    · obtain ⟨b, off, rfl, hbl, h0, h1, h2⟩ := hx k hlt
      have h0' := (hb.cell (p := ⟨b, off + k * 3, none⟩) hbl).trans h0
      have h1' := (hb.cell (p := ⟨b, off + k * 3 + 1, none⟩) hbl).trans h1
      have h2' := (hb.cell (p := ⟨b, off + k * 3 + 2, none⟩) hbl).trans h2
      clear h0 h1 h2
      have hm := hp xs[k] (List.getElem_mem hlt)
      go_wp2_with (refine (hm wr hb).mono ?_; rintro e w1 ⟨rfl, hb1⟩)
      · have h1 : p xs[k] = true := by assumption
        go_ret
        exact ⟨by rw [Hi.out, idxBy_hit p xs k hlt h1]; rfl, hb.trans (hb1.mono hb.size)⟩
      · have h1 : p xs[k] = false := by assumption
        go_roundw
        case rel => exact ⟨k + 1, by omega, by go_num, hb.trans (hb1.mono hb.size), by rw [Hi.out, idxBy_miss p xs k hlt h1]⟩
        case measure => simp [intOf]; omega
    · go_wp2
      go_ret
      exact ⟨by rw [Hi.out, idxBy_end p xs k k (by omega)]; rfl, hb⟩

set_option maxHeartbeats 400000 in
theorem containsFunc_key (a : Option Addr) (xs : List (Int × Int × Int)) (c : Nat) (g : FuncId) (first cap : Array Value) (p : (Int × Int × Int) → Bool) (w : World) (hl : xs.length ≤ 9223372036854775807) (hx : Recs3At w a xs)
    (hg : ∀ args w, Sem.run Try.prog (callFunc g args) w = .ok (.enter g args) w) (hp : ∀ x ∈ xs, Meets Try.prog w g first cap (.agg #[.int .i64 x.1, .int .i64 x.2.1, .int .i64 x.2.2]) (p x)) :
    Calls Try.prog 81 #[.slice a xs.length c, .func (.func g) first cap] w fun e w' => e = .returned (.bool (xs.any p)) ∧ Below w.heap.size w w' := by
  rw [← idxBy_any p xs 0]
  have hi := idxBy_le p xs 0
  go_enter Try.func81, Try.ntmps81
  go_wp2_with (go_at_call 93; refine (indexFunc_key a xs c g first cap p w hl hx hg hp).mono ?_; rintro e w1 ⟨rfl, hb1⟩; obtain ⟨hc1, hf1, hz1⟩ := bcell hb1; (try simp at hz1); (try (have hy0 : w.heap.size < w1.heap.size := by omega)); (try (have hy1 : w.heap.size + 1 < w1.heap.size := by omega)); (try (have hy2 : w.heap.size + 2 < w1.heap.size := by omega)))
  go_ret
  exact ⟨rfl, hb1⟩

set_option maxHeartbeats 400000 in
theorem allNot_key (x : (Int × Int × Int)) (B : Nat) (g : FuncId) (first cap : Array Value) (q : Bool) (w : World) (hB : B < w.heap.size) (hc : w.cell? ⟨B, 0, none⟩ = some (.func (.func g) first cap))
    (hg : ∀ args w, Sem.run Try.prog (callFunc g args) w = .ok (.enter g args) w) (hm : Meets Try.prog w g first cap (.agg #[.int .i64 x.1, .int .i64 x.2.1, .int .i64 x.2.2]) q) : Meets Try.prog w 82 #[] #[.pointer (some ⟨B, 0, none⟩)] (.agg #[.int .i64 x.1, .int .i64 x.2.1, .int .i64 x.2.2]) !q := by
  intro w' hb'
  have hc' : w'.cell? ⟨B, 0, none⟩ = some (.func (.func g) first cap) := (hb'.cell (p := ⟨B, 0, none⟩) hB).trans hc
  have hBw : B < w'.heap.size := Nat.lt_of_lt_of_le hB hb'.size
  clear hc
  show Calls Try.prog 82 #[.agg #[.int .i64 x.1, .int .i64 x.2.1, .int .i64 x.2.2], .pointer (some ⟨B, 0, none⟩)] w' _
  go_enter Try.func82, Try.ntmps82
  go_wp2_with (refine (hm _ (hb'.trans ((Below.refl _ _).alloc hb'.size _) )).mono ?_; rintro e w1 ⟨rfl, hb1⟩)
  go_ret
  exact ⟨rfl, ((Below.refl _ _).alloc (Nat.le_refl _) _).trans (hb1.mono (by simp))⟩

set_option maxHeartbeats 400000 in
theorem all_key (a : Option Addr) (xs : List (Int × Int × Int)) (c : Nat) (g : FuncId) (first cap : Array Value) (p : (Int × Int × Int) → Bool) (w : World) (hl : xs.length ≤ 9223372036854775807) (hx : Recs3At w a xs)
    (hg : ∀ args w, Sem.run Try.prog (callFunc g args) w = .ok (.enter g args) w) (hp : ∀ x ∈ xs, Meets Try.prog w g first cap (.agg #[.int .i64 x.1, .int .i64 x.2.1, .int .i64 x.2.2]) (p x)) :
    Calls Try.prog 64 #[.slice a xs.length c, .func (.func g) first cap] w fun e w' => e = .returned (.bool (xs.all p)) ∧ Below w.heap.size w w' := by
  have e1 : xs.all p = !(xs.any fun x => !p x) := by rw [List.all_eq_not_any_not]
  rw [e1]
  have hb0 : Below w.heap.size w (w.alloc (.cells #[.func (.func g) first cap] 107)) := (Below.refl _ _).alloc (Nat.le_refl _) _
  go_enter Try.func64, Try.ntmps64
  go_wp2_with (go_at_call 81; refine (containsFunc_key a xs c 82 #[] #[.pointer (some ⟨w.heap.size, 0, none⟩)] (fun x => !p x) _ hl (hx.below hb0) (enters Try.func82 (by kernel_rfl) rfl) (fun x hxx => allNot_key x w.heap.size g first cap (p x) _ (by simp) (by rw [World.cell?_alloc_at _ _ _ _ rfl]; rfl) hg ((hp x hxx).below hb0))).mono ?_; rintro e w1 ⟨rfl, hb1⟩; obtain ⟨hc1, hf1, hz1⟩ := bcell hb1; (try simp at hz1); (try (have hy0 : w.heap.size < w1.heap.size := by omega)); (try (have hy1 : w.heap.size + 1 < w1.heap.size := by omega)); (try (have hy2 : w.heap.size + 2 < w1.heap.size := by omega)))
  go_ret
  exact ⟨by simp, hb0.trans (hb1.mono (by simp))⟩

set_option maxRecDepth 100000 in
set_option maxHeartbeats 400000 in
theorem indexFunc_guess (a : Option Addr) (xs : List (Int × Int)) (c : Nat) (g : FuncId) (first cap : Array Value) (p : (Int × Int) → Bool) (w : World) (hl : xs.length ≤ 9223372036854775807) (hx : Recs2At w a xs)
    (hg : ∀ args w, Sem.run Try.prog (callFunc g args) w = .ok (.enter g args) w) (hp : ∀ x ∈ xs, Meets Try.prog w g first cap (.agg #[.int .i64 x.1, .int .i64 x.2]) (p x)) :
    Calls Try.prog 92 #[.slice a xs.length c, .func (.func g) first cap] w fun e w' => e = .returned (.int .i64 (idxBy p xs 0)) ∧ Below w.heap.size w w' := by
  go_enter Try.func92, Try.ntmps92
  go_wp2
  go_loopw [5, 8] (fun _ i wr => ∃ k : Nat, k ≤ xs.length ∧ i = .int .i64 k ∧ Below w.heap.size w wr ∧ idxBy p xs 0 = idxBy p (xs.drop k) k) (fun _ i _ => xs.length - (intOf i).toNat)
  case atStart => exact ⟨0, Nat.zero_le _, rfl, Below.refl _ _, by simp⟩
  case round =>
    obtain ⟨k, hk, rfl, hb, hi⟩ := hrel
    have Hi := Lib.hid hi
    clear hi
    by_cases hlt : k < xs.length
    · obtain ⟨b, off, rfl, hbl, h0, h1⟩ := hx k hlt
      have h0' := (hb.cell (p := ⟨b, off + k * 2, none⟩) hbl).trans h0
      have h1' := (hb.cell (p := ⟨b, off + k * 2 + 1, none⟩) hbl).trans h1
      clear h0 h1
      have hm := hp xs[k] (List.getElem_mem hlt)
      go_wp2_with (refine (hm wr hb).mono ?_; rintro e w1 ⟨rfl, hb1⟩)
      · have h1 : p xs[k] = true := by assumption
        go_ret
        exact ⟨by rw [Hi.out, idxBy_hit p xs k hlt h1]; rfl, hb.trans (hb1.mono hb.size)⟩
      · have h1 : p xs[k] = false := by assumption
        go_roundw
        case rel => exact ⟨k + 1, by omega, by go_num, hb.trans (hb1.mono hb.size), by rw [Hi.out, idxBy_miss p xs k hlt h1]⟩
        case measure => simp [intOf]; omega
    · go_wp2
      go_ret
      exact ⟨by rw [Hi.out, idxBy_end p xs k k (by omega)]; rfl, hb⟩

set_option maxHeartbeats 400000 in
theorem containsFunc_guess (a : Option Addr) (xs : List (Int × Int)) (c : Nat) (g : FuncId) (first cap : Array Value) (p : (Int × Int) → Bool) (w : World) (hl : xs.length ≤ 9223372036854775807) (hx : Recs2At w a xs)
    (hg : ∀ args w, Sem.run Try.prog (callFunc g args) w = .ok (.enter g args) w) (hp : ∀ x ∈ xs, Meets Try.prog w g first cap (.agg #[.int .i64 x.1, .int .i64 x.2]) (p x)) :
    Calls Try.prog 79 #[.slice a xs.length c, .func (.func g) first cap] w fun e w' => e = .returned (.bool (xs.any p)) ∧ Below w.heap.size w w' := by
  rw [← idxBy_any p xs 0]
  have hi := idxBy_le p xs 0
  go_enter Try.func79, Try.ntmps79
  go_wp2_with (go_at_call 92; refine (indexFunc_guess a xs c g first cap p w hl hx hg hp).mono ?_; rintro e w1 ⟨rfl, hb1⟩; obtain ⟨hc1, hf1, hz1⟩ := bcell hb1; (try simp at hz1); (try (have hy0 : w.heap.size < w1.heap.size := by omega)); (try (have hy1 : w.heap.size + 1 < w1.heap.size := by omega)); (try (have hy2 : w.heap.size + 2 < w1.heap.size := by omega)))
  go_ret
  exact ⟨rfl, hb1⟩

set_option maxHeartbeats 400000 in
theorem allNot_guess (x : (Int × Int)) (B : Nat) (g : FuncId) (first cap : Array Value) (q : Bool) (w : World) (hB : B < w.heap.size) (hc : w.cell? ⟨B, 0, none⟩ = some (.func (.func g) first cap))
    (hg : ∀ args w, Sem.run Try.prog (callFunc g args) w = .ok (.enter g args) w) (hm : Meets Try.prog w g first cap (.agg #[.int .i64 x.1, .int .i64 x.2]) q) : Meets Try.prog w 80 #[] #[.pointer (some ⟨B, 0, none⟩)] (.agg #[.int .i64 x.1, .int .i64 x.2]) !q := by
  intro w' hb'
  have hc' : w'.cell? ⟨B, 0, none⟩ = some (.func (.func g) first cap) := (hb'.cell (p := ⟨B, 0, none⟩) hB).trans hc
  have hBw : B < w'.heap.size := Nat.lt_of_lt_of_le hB hb'.size
  clear hc
  show Calls Try.prog 80 #[.agg #[.int .i64 x.1, .int .i64 x.2], .pointer (some ⟨B, 0, none⟩)] w' _
  go_enter Try.func80, Try.ntmps80
  go_wp2_with (refine (hm _ (hb'.trans ((Below.refl _ _).alloc hb'.size _) )).mono ?_; rintro e w1 ⟨rfl, hb1⟩)
  go_ret
  exact ⟨rfl, ((Below.refl _ _).alloc (Nat.le_refl _) _).trans (hb1.mono (by simp))⟩

set_option maxHeartbeats 400000 in
theorem all_guess (a : Option Addr) (xs : List (Int × Int)) (c : Nat) (g : FuncId) (first cap : Array Value) (p : (Int × Int) → Bool) (w : World) (hl : xs.length ≤ 9223372036854775807) (hx : Recs2At w a xs)
    (hg : ∀ args w, Sem.run Try.prog (callFunc g args) w = .ok (.enter g args) w) (hp : ∀ x ∈ xs, Meets Try.prog w g first cap (.agg #[.int .i64 x.1, .int .i64 x.2]) (p x)) :
    Calls Try.prog 56 #[.slice a xs.length c, .func (.func g) first cap] w fun e w' => e = .returned (.bool (xs.all p)) ∧ Below w.heap.size w w' := by
  have e1 : xs.all p = !(xs.any fun x => !p x) := by rw [List.all_eq_not_any_not]
  rw [e1]
  have hb0 : Below w.heap.size w (w.alloc (.cells #[.func (.func g) first cap] 105)) := (Below.refl _ _).alloc (Nat.le_refl _) _
  go_enter Try.func56, Try.ntmps56
  go_wp2_with (go_at_call 79; refine (containsFunc_guess a xs c 80 #[] #[.pointer (some ⟨w.heap.size, 0, none⟩)] (fun x => !p x) _ hl (hx.below hb0) (enters Try.func80 (by kernel_rfl) rfl) (fun x hxx => allNot_guess x w.heap.size g first cap (p x) _ (by simp) (by rw [World.cell?_alloc_at _ _ _ _ rfl]; rfl) hg ((hp x hxx).below hb0))).mono ?_; rintro e w1 ⟨rfl, hb1⟩; obtain ⟨hc1, hf1, hz1⟩ := bcell hb1; (try simp at hz1); (try (have hy0 : w.heap.size < w1.heap.size := by omega)); (try (have hy1 : w.heap.size + 1 < w1.heap.size := by omega)); (try (have hy2 : w.heap.size + 2 < w1.heap.size := by omega)))
  go_ret
  exact ⟨by simp, hb0.trans (hb1.mono (by simp))⟩

end Go.Proofs.Ytnofcpihkglmmaa

namespace Go.Proofs.Ytnofcpihkglmmaa
set_option linter.unusedVariables false
set_option linter.unusedSimpArgs false
set_option linter.unnecessarySimpa false
open Go.RowKit Go.Flow

def keyOk (s : Int) (x : Int × Int × Int) : Bool := (decide (1 ≤ x.1) && decide (x.1 ≤ s - 1)) && (decide (0 ≤ x.2.1) && decide (x.2.1 ≤ s - 1)) && (decide (0 ≤ x.2.2) && decide (x.2.2 ≤ s - 1))
def ownOk (n : Nat) (x : Int) : Bool := decide (0 ≤ x) && decide (x ≤ (n : Int) - 1)

/-- The error of a book. -/
def bookErr (s wo : Int) (ks : List (Int × Int × Int)) (ds : List Int) : Int :=
  if 5 < (ks.length : Int) ∨ 8 < (ds.length : Int) then 3
  else if (13 ≤ s ∧ s ≤ 41) ∧ primeTo s.toNat s.toNat = true ∧ (1 ≤ wo ∧ wo ≤ s) ∧ ks ≠ [] ∧ ds ≠ [] ∧
    ks.all (keyOk s) = true ∧ ds.all (ownOk ks.length) = true then 0
  else 1

theorem key_meets (s wo : Int) (ak : Option Addr) (ks : List (Int × Int × Int)) (ck : Nat) (ad : Option Addr) (ds : List Int) (cd : Nat) (x : Int × Int × Int) (w : World) (h0 : 0 ≤ s) (h1 : s ≤ 1000) : Meets Try.prog w 61 #[.agg #[.int .i64 s, .int .i64 wo, .slice ak ks.length ck, .slice ad ds.length cd]] #[] (.agg #[.int .i64 x.1, .int .i64 x.2.1, .int .i64 x.2.2]) (keyOk s x) :=
  fun w1 _ => key_any s wo x.1 x.2.1 x.2.2 _ _ w1 h0 h1
theorem own_meets (s wo : Int) (ak : Option Addr) (ks : List (Int × Int × Int)) (ck : Nat) (ad : Option Addr) (ds : List Int) (cd : Nat) (x : Int) (w : World) (h : ks.length ≤ 1000) : Meets Try.prog w 62 #[.agg #[.int .i64 s, .int .i64 wo, .slice ak ks.length ck, .slice ad ds.length cd]] #[] (.int .i64 x) (ownOk ks.length x) :=
  fun w1 _ => own_any s wo x ak ad ks.length ck ds.length cd w1 h

set_option maxHeartbeats 1000000 in
theorem checkBook_any (s wo : Int) (ak : Option Addr) (ks : List (Int × Int × Int)) (ck : Nat) (ad : Option Addr) (ds : List Int) (cd : Nat) (w : World) (hk : Recs3At w ak ks) (hd : IntsAt w ad ds) (lk : ks.length ≤ 1000) (ld : ds.length ≤ 1000) :
    Calls Try.prog 37 #[.agg #[.int .i64 s, .int .i64 wo, .slice ak ks.length ck, .slice ad ds.length cd]] w fun e w' => e = .returned (.int .i64 (bookErr s wo ks ds)) ∧ Below w.heap.size w w' := by
  go_enter Try.func37, Try.ntmps37
  go_wp2
  (refine wp_region_ext 6 (by kernel_rfl) (by kernel_rfl) ?_; simp only [List.take_succ_cons, List.take_zero, List.drop_succ_cons, List.drop_zero]; (repeat (go_big_quiet_step ((fail)))); refine wpQuiet_nil ?_; rintro _ ⟨ex, rfl⟩; have hex := ex.below; have hexz := ex.size; (try simp at hexz); (try (have hy0 : w.heap.size < ex.to.heap.size := by omega)); (try (have hy1 : w.heap.size + 1 < ex.to.heap.size := by omega)); (try (have hy2 : w.heap.size + 2 < ex.to.heap.size := by omega)))
  go_wp2_with (first
    | (go_at_call 31; refine (within_any _ _ _ _).mono ?_; rintro e w1 ⟨rfl, rfl⟩)
    | (go_at_call 63; refine (prime_int s _ (by omega) (by omega)).mono ?_; rintro e w1 ⟨rfl, rfl⟩)
    | (go_at_call 64; refine (all_key ak ks ck 61 #[.agg #[.int .i64 s, .int .i64 wo, .slice ak ks.length ck, .slice ad ds.length cd]] #[] (keyOk s) _ (by omega) (hk.below (by (repeat (first | exact Below.refl _ _ | refine Below.alloc ?_ (by first | omega | (simp; done) | (simp; omega)) _ | refine Below.drew ?_ | refine Below.setCell ?_ (by first | omega | (simp; done) | (simp; omega)) _ | refine Below.trans ?_ (Below.mono (by assumption) (by first | omega | (simp; done) | (simp; omega))))))) (enters Try.func61 (by kernel_rfl) rfl) (fun x _ => key_meets s wo ak ks ck ad ds cd x _ (by omega) (by omega))).mono ?_; rintro e w1 ⟨rfl, hb1⟩; obtain ⟨hc1, hf1, hz1⟩ := bcell hb1; (try simp at hz1); (try (have hy0 : w.heap.size < w1.heap.size := by omega)); (try (have hy1 : w.heap.size + 1 < w1.heap.size := by omega)); (try (have hy2 : w.heap.size + 2 < w1.heap.size := by omega)); cases hka : ks.all (keyOk s))
    | (go_at_call 39; refine (all_int ad ds cd 62 #[.agg #[.int .i64 s, .int .i64 wo, .slice ak ks.length ck, .slice ad ds.length cd]] #[] (ownOk ks.length) _ (by omega) (hd.below (by (repeat (first | exact Below.refl _ _ | refine Below.alloc ?_ (by first | omega | (simp; done) | (simp; omega)) _ | refine Below.drew ?_ | refine Below.setCell ?_ (by first | omega | (simp; done) | (simp; omega)) _ | refine Below.trans ?_ (Below.mono (by assumption) (by first | omega | (simp; done) | (simp; omega))))))) (enters Try.func62 (by kernel_rfl) rfl) (fun x _ => own_meets s wo ak ks ck ad ds cd x _ lk)).mono ?_; rintro e w1 ⟨rfl, hb1⟩; obtain ⟨hc1, hf1, hz1⟩ := bcell hb1; (try simp at hz1); (try (have hy0 : w.heap.size < w1.heap.size := by omega)); (try (have hy1 : w.heap.size + 1 < w1.heap.size := by omega)); (try (have hy2 : w.heap.size + 2 < w1.heap.size := by omega)); cases hda : ds.all (ownOk ks.length)))
  all_goals go_ret
  all_goals (refine ⟨?_, by (repeat (first | exact Below.refl _ _ | refine Below.alloc ?_ (by first | omega | (simp; done) | (simp; omega)) _ | refine Below.drew ?_ | refine Below.setCell ?_ (by first | omega | (simp; done) | (simp; omega)) _ | refine Below.trans ?_ (Below.mono (by assumption) (by first | omega | (simp; done) | (simp; omega)))))⟩)
  all_goals (first | (simp [bookErr, *]; done) | (simp [bookErr, *]; omega) | (exfalso; clear hk hd; simp_all; done) | go_ways)
end Go.Proofs.Ytnofcpihkglmmaa

namespace Go.Proofs.Ytnofcpihkglmmaa
set_option linter.unusedVariables false
set_option linter.unusedSimpArgs false
set_option linter.unnecessarySimpa false
open Go.RowKit Go.Flow

theorem mul_b {a b A B : Int} (h0 : 0 ≤ a) (h1 : a ≤ A) (h2 : 0 ≤ b) (h3 : b ≤ B) : 0 ≤ a * b ∧ a * b ≤ A * B :=
  ⟨Int.mul_nonneg h0 h2, Int.le_trans (Int.mul_le_mul_of_nonneg_right h1 h2) (Int.mul_le_mul_of_nonneg_left h3 (Int.le_trans h0 h1))⟩

def codeN (s m a st n i : Int) : Int := (m * n + a + i * st) % s
theorem codeN_b {s m a st n i : Int} (hs : 0 < s) : 0 ≤ codeN s m a st n i ∧ codeN s m a st n i < s := ⟨Int.emod_nonneg _ (by omega), Int.emod_lt_of_pos _ hs⟩

set_option maxHeartbeats 400000 in
theorem code_any (s wo m a st n i : Int) (ks ds : Value) (w : World) (h0 : 0 < s) (h1 : s ≤ 1000) (m0 : 0 ≤ m) (m1 : m ≤ 1000) (a0 : 0 ≤ a) (a1 : a ≤ 1000) (st0 : 0 ≤ st) (st1 : st ≤ 1000) (n0 : 0 ≤ n) (n1 : n ≤ 1000) (i0 : 0 ≤ i) (i1 : i ≤ 1000) :
    Calls Try.prog 43 #[.agg #[.int .i64 s, .int .i64 wo, ks, ds], .agg #[.int .i64 m, .int .i64 a, .int .i64 st], .int .i64 n, .int .i64 i] w fun e w' => e = .returned (.int .i64 (codeN s m a st n i)) ∧ Below w.heap.size w w' := by
  obtain ⟨b1, b2⟩ := mul_b m0 m1 n0 n1
  obtain ⟨b3, b4⟩ := mul_b i0 i1 st0 st1
  have hne : (s == 0) = false := by simp; omega
  go_enter Try.func43, Try.ntmps43
  go_wp2
  go_ret
  exact ⟨rfl, by (repeat (first | exact Below.refl _ _ | refine Below.alloc ?_ (by first | omega | (simp; done) | (simp; omega)) _ | refine Below.drew ?_ | refine Below.setCell ?_ (by first | omega | (simp; done) | (simp; omega)) _ | refine Below.trans ?_ (Below.mono (by assumption) (by first | omega | (simp; done) | (simp; omega)))))⟩

set_option maxHeartbeats 400000 in
theorem indicator_any (s wo : Int) (ak : Option Addr) (ks : List (Int × Int × Int)) (ck : Nat) (ad : Option Addr) (ds : List Int) (cd : Nat) (day : Nat) (w : World) (hk : Recs3At w ak ks) (hd : IntsAt w ad ds) (lk : ks.length ≤ 1000) (ld : ds.length ≤ 1000) (hn : day < ds.length) (hkn : 0 < ks.length) (hd0 : ∀ x ∈ ds, 0 ≤ x ∧ x ≤ 1000) :
    Calls Try.prog 41 #[.agg #[.int .i64 s, .int .i64 wo, .slice ak ks.length ck, .slice ad ds.length cd], .int .i64 day] w fun e w' => e = .returned (.int .i64 ((ds[day] + day) % ks.length)) ∧ Below w.heap.size w w' := by
  obtain ⟨hx0, hx1⟩ := hd0 _ (List.getElem_mem hn)
  obtain ⟨b, off, rfl, hbl, hc⟩ := hd day hn
  have hne : ((ks.length : Int) == 0) = false := by simp; intro h; subst h; simp at hkn
  have hpos : (0 : Int) < ks.length := by omega
  have hday : (day : Int) < ds.length := by omega
  have hbw : b < w.heap.size + 1 := by omega
  have hs1 : IntKind.i64.wrap (ds[day] + (day : Int)) = ds[day] + (day : Int) := IntWalk.i64_in _ (by omega)
  go_enter Try.func41, Try.ntmps41
  go_wp2
  (refine wp_region_ext 12 (by kernel_rfl) (by kernel_rfl) ?_; simp only [List.take_succ_cons, List.take_zero, List.drop_succ_cons, List.drop_zero]; (repeat (go_big_quiet_step ((fail)))); refine wpQuiet_nil ?_; rintro _ ⟨ex, rfl⟩; have hex := ex.below; have hexz := ex.size; (try simp at hexz); (try (have hy0 : w.heap.size < ex.to.heap.size := by omega)); (try (have hy1 : w.heap.size + 1 < ex.to.heap.size := by omega)); (try (have hy2 : w.heap.size + 2 < ex.to.heap.size := by omega)))
  go_wp2
  go_ret
  exact ⟨rfl, by (repeat (first | exact Below.refl _ _ | refine Below.alloc ?_ (by first | omega | (simp; done) | (simp; omega)) _ | refine Below.drew ?_ | refine Below.setCell ?_ (by first | omega | (simp; done) | (simp; omega)) _ | refine Below.trans ?_ (Below.mono (by assumption) (by first | omega | (simp; done) | (simp; omega)))))⟩

def wsum : List Int → Nat → Int
  | [], _ => 0
  | x :: l, i => ((i : Int) + 1) * x + wsum l (i + 1)
theorem wsum_snoc : ∀ (l : List Int) (x : Int) (i : Nat), wsum (l ++ [x]) i = wsum l i + (((i + l.length : Nat) : Int) + 1) * x
  | [], x, i => by simp [wsum]
  | y :: l, x, i => by
    simp only [List.cons_append, wsum, wsum_snoc l x (i + 1), List.length_cons]
    rw [show i + 1 + l.length = i + (l.length + 1) by omega]
    omega
theorem wsum_take (l : List Int) (k : Nat) (hk : k < l.length) : wsum (l.take (k + 1)) 0 = wsum (l.take k) 0 + ((k : Int) + 1) * l[k] := by
  rw [List.take_succ_eq_append_getElem hk, wsum_snoc]
  simp [Nat.min_eq_left (Nat.le_of_lt hk)]
theorem wsum_b : ∀ (l : List Int) (i : Nat), (∀ x ∈ l, 0 ≤ x ∧ x ≤ 1000) → i + l.length ≤ 1000 → 0 ≤ wsum l i ∧ wsum l i ≤ l.length * 1000000
  | [], _, _, _ => by simp [wsum]
  | x :: l, i, h, hi => by
    have hx := h x (List.mem_cons_self ..)
    have ih := wsum_b l (i + 1) (fun y hy => h y (List.mem_cons_of_mem _ hy)) (by simp at hi; omega)
    have := mul_b (a := (i : Int) + 1) (b := x) (A := 1000) (B := 1000) (by omega) (by simp at hi; omega) hx.1 hx.2
    simp only [wsum, List.length_cons]
    omega
def checkN (s : Int) (l : List Int) : Int := wsum l 0 % s

set_option maxHeartbeats 400000 in
theorem check_any (s wo : Int) (ks ds : Value) (al : Option Addr) (l : List Int) (cl : Nat) (w : World) (h0 : 0 < s) (h1 : s ≤ 1000) (hl : IntsAt w al l) (hn : l.length ≤ 1000) (hb : ∀ x ∈ l, 0 ≤ x ∧ x ≤ 1000) :
    Calls Try.prog 44 #[.agg #[.int .i64 s, .int .i64 wo, ks, ds], .slice al l.length cl] w fun e w' => e = .returned (.int .i64 (checkN s l)) ∧ Below w.heap.size w w' := by
  have hne : (s == 0) = false := by simp; omega
  go_enter Try.func44, Try.ntmps44
  go_wp2
  go_loop [4, 5, 6, 9] (fun t _ _ i => ∃ k : Nat, k ≤ l.length ∧ i = .int .i64 k ∧ t = .int .i64 (wsum (l.take k) 0)) (fun _ _ _ i => l.length - (intOf i).toNat)
  case atStart => exact ⟨0, Nat.zero_le _, rfl, rfl⟩
  case round =>
    obtain ⟨k, hk, rfl, rfl⟩ := hrel
    have hs := wsum_b (l.take k) 0 (fun x hx => hb x (List.mem_of_mem_take hx)) (by simp; omega)
    have hlk : ((l.take k).length : Int) ≤ 1000 := by simp; omega
    obtain ⟨hs0, hs1⟩ := hs
    have hs2 : wsum (l.take k) 0 ≤ 1000000000 := by omega
    clear hs1 hlk
    by_cases hlt : k < l.length
    · obtain ⟨b, off, rfl, hbl, hc⟩ := hl k hlt
      obtain ⟨hx0, hx1⟩ := hb l[k] (List.getElem_mem hlt)
      obtain ⟨hm0, hm1⟩ := mul_b (a := (k : Int) + 1) (b := l[k]) (A := 1001) (B := 1000) (by omega) (by omega) hx0 hx1
      go_wp2
      go_round
      case rel => exact ⟨k + 1, by omega, by go_num, by rw [wsum_take l k hlt]⟩
      case measure => simp [intOf]; omega
    · obtain rfl : k = l.length := by omega
      rw [List.take_length] at hs0 hs2 ⊢
      go_wp2
      go_ret
      exact ⟨rfl, by (repeat (first | exact Below.refl _ _ | refine Below.alloc ?_ (by first | omega | (simp; done) | (simp; omega)) _ | refine Below.drew ?_ | refine Below.setCell ?_ (by first | omega | (simp; done) | (simp; omega)) _ | refine Below.trans ?_ (Below.mono (by assumption) (by first | omega | (simp; done) | (simp; omega)))))⟩

def invN (s n : Int) : Int := (((List.range s.toNat).find? fun (m : Nat) => decide ((m : Int) * n % s = 1)).getD 0 : Nat)
theorem find_hit {p : Nat → Bool} {N k : Nat} (hk : k < N) (h : p k = true) (hno : ∀ j, j < k → p j = false) : (List.range N).find? p = some k := by
  rw [List.find?_range_eq_some]
  exact ⟨h, List.mem_range.2 hk, fun j hj => by simp [hno j hj]⟩
theorem find_no {p : Nat → Bool} {N : Nat} (hno : ∀ j, j < N → p j = false) : (List.range N).find? p = none := by
  rw [List.find?_eq_none]
  intro x hx
  simp [hno x (List.mem_range.1 hx)]
theorem invN_b (s n : Int) (hs : 0 < s) : 0 ≤ invN s n ∧ invN s n < s := by
  unfold invN
  cases h : (List.range s.toNat).find? fun (m : Nat) => decide ((m : Int) * n % s = 1) with
  | none => simp; exact hs
  | some k =>
    have := List.mem_of_find?_eq_some h
    simp at this ⊢
    omega

set_option maxHeartbeats 400000 in
theorem inverse_any (s wo n : Int) (ks ds : Value) (w : World) (h0 : 0 < s) (h1 : s ≤ 1000) (n0 : 0 ≤ n) (n1 : n ≤ 1000) :
    Calls Try.prog 60 #[.agg #[.int .i64 s, .int .i64 wo, ks, ds], .int .i64 n] w fun e w' => e = .returned (.int .i64 (invN s n)) ∧ Below w.heap.size w w' := by
  have hne : (s == 0) = false := by simp; omega
  have hN : Hid (s = (s.toNat : Int)) := by show s = _; omega
  go_enter Try.func60, Try.ntmps60
  go_wp2
  go_loop [5, 8] (fun _ i => ∃ k : Nat, (k : Int) ≤ s ∧ i = .int .i64 k ∧ ∀ j : Nat, j < k → decide ((j : Int) * n % s = 1) = false) (fun _ i => s.toNat - (intOf i).toNat)
  case atStart => exact ⟨0, by omega, rfl, fun j hj => by omega⟩
  case round =>
    obtain ⟨k, hk, rfl, hno⟩ := hrel
    have Hno := Lib.hid hno
    clear hno
    by_cases hlt : (k : Int) < s
    · obtain ⟨hm0, hm1⟩ := mul_b (a := (k : Int)) (b := n) (A := 1000) (B := 1000) (by omega) (by omega) n0 n1
      go_wp2
      · have he : ((k : Int) * n % s == 1) = true := by assumption
        go_ret
        refine ⟨?_, by (repeat (first | exact Below.refl _ _ | refine Below.alloc ?_ (by first | omega | (simp; done) | (simp; omega)) _ | refine Below.drew ?_ | refine Below.setCell ?_ (by first | omega | (simp; done) | (simp; omega)) _ | refine Below.trans ?_ (Below.mono (by assumption) (by first | omega | (simp; done) | (simp; omega)))))⟩
        unfold invN
        rw [find_hit (k := k) (by have := hN.out; omega) (by simpa using he) Hno.out]
        rfl
      · have he : ((k : Int) * n % s == 1) = false := by assumption
        go_round
        case rel =>
          refine ⟨k + 1, by omega, by go_num, fun j hj => ?_⟩
          by_cases hjk : j = k
          · subst hjk; simpa using he
          · exact Hno.out j (by omega)
        case measure => simp [intOf]; have := hN.out; omega
    · go_wp2
      go_ret
      refine ⟨?_, by (repeat (first | exact Below.refl _ _ | refine Below.alloc ?_ (by first | omega | (simp; done) | (simp; omega)) _ | refine Below.drew ?_ | refine Below.setCell ?_ (by first | omega | (simp; done) | (simp; omega)) _ | refine Below.trans ?_ (Below.mono (by assumption) (by first | omega | (simp; done) | (simp; omega)))))⟩
      unfold invN
      rw [find_no (fun j hj => Hno.out j (by have := hN.out; omega))]
      rfl

def decodeN (s m a st n i : Int) : Int := (n + -a % s + i * (s - st)) % s * invN s m % s
set_option maxHeartbeats 400000 in
theorem decode_any (s wo m a st n i : Int) (ks ds : Value) (w : World) (h0 : 0 < s) (h1 : s ≤ 1000) (m0 : 0 ≤ m) (m1 : m ≤ 1000) (a0 : 0 ≤ a) (a1 : a ≤ s) (st0 : 0 ≤ st) (st1 : st ≤ s) (n0 : 0 ≤ n) (n1 : n ≤ 1000) (i0 : 0 ≤ i) (i1 : i ≤ 1000) :
    Calls Try.prog 33 #[.agg #[.int .i64 s, .int .i64 wo, ks, ds], .agg #[.int .i64 m, .int .i64 a, .int .i64 st], .int .i64 n, .int .i64 i] w fun e w' => e = .returned (.int .i64 (decodeN s m a st n i)) ∧ Below w.heap.size w w' := by
  have hne : (s == 0) = false := by simp; omega
  have hq0 : 0 ≤ -a % s := Int.emod_nonneg _ (by omega)
  have hq1 : -a % s < s := Int.emod_lt_of_pos _ h0
  obtain ⟨hm0, hm1⟩ := mul_b (a := i) (b := s - st) (A := 1000) (B := 1000) i0 i1 (by omega) (by omega)
  have hl0 : 0 ≤ (n + -a % s + i * (s - st)) % s := Int.emod_nonneg _ (by omega)
  have hl1 : (n + -a % s + i * (s - st)) % s < s := Int.emod_lt_of_pos _ h0
  obtain ⟨hv0, hv1⟩ := invN_b s m h0
  obtain ⟨hp0, hp1⟩ := mul_b (a := (n + -a % s + i * (s - st)) % s) (b := invN s m) (A := 1000) (B := 1000) hl0 (by omega) hv0 (by omega)
  have w1 : IntKind.i64.wrap (s - a) = s - a := IntWalk.i64_in _ (by omega)
  have w2 : IntKind.i64.wrap (s - st) = s - st := IntWalk.i64_in _ (by omega)
  have w3 : IntKind.i64.wrap (n + -a % s) = n + -a % s := IntWalk.i64_in _ (by omega)
  have w4 : IntKind.i64.wrap (i * (s - st)) = i * (s - st) := IntWalk.i64_in _ (by omega)
  have w5 : IntKind.i64.wrap (n + -a % s + i * (s - st)) = n + -a % s + i * (s - st) := IntWalk.i64_in _ (by omega)
  have w6 : IntKind.i64.wrap ((n + -a % s + i * (s - st)) % s * invN s m) = (n + -a % s + i * (s - st)) % s * invN s m := IntWalk.i64_in _ (by omega)
  have x0 : 0 ≤ s - a := by omega
  go_enter Try.func33, Try.ntmps33
  go_wp2
  (refine wp_region_ext 22 (by kernel_rfl) (by kernel_rfl) ?_; simp only [List.take_succ_cons, List.take_zero, List.drop_succ_cons, List.drop_zero]; (repeat (go_big_quiet_step ((fail)))); refine wpQuiet_nil ?_; rintro _ ⟨ex, rfl⟩; have hex := ex.below; have hexz := ex.size; (try simp at hexz); (try (have hy0 : w.heap.size < ex.to.heap.size := by omega)); (try (have hy1 : w.heap.size + 1 < ex.to.heap.size := by omega)); (try (have hy2 : w.heap.size + 2 < ex.to.heap.size := by omega)))
  go_wp2
  (refine wp_region_ext 9 (by kernel_rfl) (by kernel_rfl) ?_; simp only [List.take_succ_cons, List.take_zero, List.drop_succ_cons, List.drop_zero]; (repeat (go_big_quiet_step (((go_at_call 60; refine Calls_ext (inverse_any _ _ _ _ _ _ (by omega) (by omega) (by omega) (by omega))))))); refine wpQuiet_nil ?_; rintro _ ⟨ex, rfl⟩; have hex := ex.below; have hexz := ex.size; (try simp at hexz); (try (have hy0 : w.heap.size < ex.to.heap.size := by omega)); (try (have hy1 : w.heap.size + 1 < ex.to.heap.size := by omega)); (try (have hy2 : w.heap.size + 2 < ex.to.heap.size := by omega)))
  go_wp2
  go_ret
  exact ⟨rfl, by (repeat (first | exact Below.refl _ _ | refine Below.alloc ?_ (by first | omega | (simp; done) | (simp; omega)) _ | refine Below.drew ?_ | refine Below.setCell ?_ (by first | omega | (simp; done) | (simp; omega)) _ | refine Below.trans ?_ (Below.mono (by assumption) (by first | omega | (simp; done) | (simp; omega)))))⟩

end Go.Proofs.Ytnofcpihkglmmaa

namespace Go.Proofs.Ytnofcpihkglmmaa
set_option linter.unusedVariables false
set_option linter.unusedSimpArgs false
set_option linter.unnecessarySimpa false
open Go.RowKit Go.Flow

theorem info_int : (Try.prog.info? 3).map (fun i => (i.zero, i.size, i.bytes)) = some (some (.int .i64 0), 1, 8) := by kernel_rfl
theorem elInt : Elem Try.prog 26 3 (.int .i64 0) 1 8 := ⟨Try.underlying26, info_parts info_int, rfl, by decide⟩

/-- The first k values of a function. -/
def upTo (F : Nat → Int) (k : Nat) : List Int := (List.range k).map F
theorem upTo_succ (F : Nat → Int) (k : Nat) : upTo F (k + 1) = upTo F k ++ [F k] := by simp [upTo, List.range_succ]
theorem upTo_len (F : Nat → Int) (k : Nat) : (upTo F k).length = k := by simp [upTo]

set_option maxHeartbeats 1000000 in
theorem turned_any (s wo m a st : Int) (ak : Option Addr) (nk ck : Nat) (ad : Option Addr) (nd cd : Nat) (g : FuncId) (F : Nat → Int) (al : Option Addr) (l : List Int) (cl : Nat) (w : World) (hl : IntsAt w al l) (hn : l.length ≤ 1000)
    (hg : ∀ args w, Sem.run Try.prog (callFunc g args) w = .ok (.enter g args) w)
    (hF : ∀ (k : Nat) (hk : k < l.length) (w1 : World), Calls Try.prog g #[.agg #[.int .i64 s, .int .i64 wo, .slice ak nk ck, .slice ad nd cd], .agg #[.int .i64 m, .int .i64 a, .int .i64 st], .int .i64 l[k], .int .i64 k] w1 fun e w' => e = .returned (.int .i64 (F k)) ∧ Below w1.heap.size w1 w') :
    Calls Try.prog 42 #[.agg #[.int .i64 s, .int .i64 wo, .slice ak nk ck, .slice ad nd cd], .agg #[.func (.func g) #[] #[]], .agg #[.int .i64 m, .int .i64 a, .int .i64 st], .slice al l.length cl] w fun e w' =>
      ∃ a c, e = .returned (.slice a l.length c) ∧ OwnL 3 1 w.heap.size w' a c l.length ((upTo F l.length).map (Value.int .i64)) ∧ Below w.heap.size w w' := by
  go_enter Try.func42, Try.ntmps42
  go_wp2
  go_loopw [8, 9, 10, 13] (fun v _ _ i wr => ∃ (k : Nat) (a' : Option Addr) (c' : Nat), k ≤ l.length ∧ i = .int .i64 k ∧ v = .slice a' k c' ∧ OwnL 3 1 (w.heap.size + 3) wr a' c' k ((upTo F k).map (Value.int .i64)) ∧
      Below (w.heap.size + 3) (((w.alloc (.cells #[.int .i64 s, .int .i64 wo, .slice ak nk ck, .slice ad nd cd] 49)).alloc (.cells #[.func (.func g) #[] #[]] 93)).alloc (.cells #[.int .i64 m, .int .i64 a, .int .i64 st] 57)) wr)
    (fun _ _ _ i _ => l.length - (intOf i).toNat)
  case atStart => exact ⟨0, none, 0, Nat.zero_le _, rfl, rfl, OwnL.nil _ _ _ _, Below.refl _ _⟩
  case round =>
    obtain ⟨k, a', c', hk, rfl, rfl, hown, hbel⟩ := hrel
    have hcr : ∀ b o, b < w.heap.size + 3 → wr.cell? ⟨b, o, none⟩ = _ := fun b o h => hbel.cell (p := ⟨b, o, none⟩) h
    have hz : w.heap.size + 3 ≤ wr.heap.size := by have := hbel.size; simp at this; omega
    have hwr : Below w.heap.size w wr := Below.trans (by (repeat (first | exact Below.refl _ _ | refine Below.alloc ?_ (by first | omega | (simp; done) | (simp; omega)) _ | refine Below.drew ?_ | refine Below.setCell ?_ (by first | omega | (simp; done) | (simp; omega)) _ | refine Below.trans ?_ (Below.mono (by assumption) (by first | omega | (simp; done) | (simp; omega)))))) (hbel.mono (by omega))
    by_cases hlt : k < l.length
    · have hc := (hl.below hwr) k hlt
      obtain ⟨b, off, rfl, hbl, hc⟩ := hc
      go_wp2_with (first
        | (at_builtin; refine wpList_app_lit elInt rfl _ _ rfl (w.heap.size + 3) _ _ _ _ rfl (hown.kept hb1) 1 1 rfl rfl (fun u hu => ?c1) ?c2 ?c3 ?c4 ?_)
        | (refine (hF k hlt wr).mono ?_; rintro e w1 ⟨rfl, hb1⟩))
      case c1 => simp at hu; subst hu; rfl
      case c2 => unfold maxLen; omega
      case c3 => omega
      case c4 => have := hb1.size; omega
      intro a2 c2 w2 hown2 hb2
      go_wp2
      go_roundw
      case rel => exact ⟨k + 1, a2, c2, by omega, by go_num, rfl, by rw [upTo_succ, List.map_append]; exact hown2, hbel.trans ((hb1.mono hz).trans hb2)⟩
      case measure => simp [intOf]; omega
    · obtain rfl : k = l.length := by omega
      go_wp2
      go_ret
      exact ⟨a', c', rfl, hown.base_le (by omega), hwr⟩

def plainOk (s : Int) (x : Int) : Bool := decide (0 ≤ x) && decide (x ≤ s - 1)
theorem plain_meets (s wo : Int) (ak : Option Addr) (ks : List (Int × Int × Int)) (ck : Nat) (ad : Option Addr) (ds : List Int) (cd : Nat) (x : Int) (w : World) (h0 : 0 ≤ s) (h1 : s ≤ 1000) : Meets Try.prog w 40 #[.agg #[.int .i64 s, .int .i64 wo, .slice ak ks.length ck, .slice ad ds.length cd]] #[] (.int .i64 x) (plainOk s x) :=
  fun w1 _ => plain_any s wo x _ _ w1 h0 h1

def codeErr (s wo : Int) (ks : List (Int × Int × Int)) (ds : List Int) (day : Int) (plain : List Int) : Int :=
  if bookErr s wo ks ds ≠ 0 then bookErr s wo ks ds
  else if ¬ (0 ≤ day ∧ day ≤ (ds.length : Int) - 1) then 2
  else if 10 < (plain.length : Int) then 3
  else if plain.all (plainOk s) = false then 2
  else 0
def keyAt (ks : List (Int × Int × Int)) (ds : List Int) (day : Int) : Int × Int × Int := ks.getD (ds.getD day.toNat 0).toNat (0, 0, 0)
def indN (ks : List (Int × Int × Int)) (ds : List Int) (day : Int) : Int := (ds.getD day.toNat 0 + day) % ks.length
def codesN (s : Int) (k : Int × Int × Int) (plain : List Int) : List Int := upTo (fun i => codeN s k.1 k.2.1 k.2.2 (plain.getD i 0) i) plain.length
def codeRes (s : Int) (ks : List (Int × Int × Int)) (ds : List Int) (day : Int) (plain : List Int) : List Int :=
  (indN ks ds day :: codesN s (keyAt ks ds day) plain) ++ [checkN s (indN ks ds day :: codesN s (keyAt ks ds day) plain)]

theorem bookErr_ok {s wo : Int} {ks : List (Int × Int × Int)} {ds : List Int} (h : bookErr s wo ks ds = 0) : ks.length ≤ 5 ∧ ds.length ≤ 8 ∧ 13 ≤ s ∧ s ≤ 41 ∧ primeTo s.toNat s.toNat = true ∧ 1 ≤ wo ∧ wo ≤ s ∧ 0 < ks.length ∧ 0 < ds.length ∧ ks.all (keyOk s) = true ∧ ds.all (ownOk ks.length) = true := by
  unfold bookErr at h
  split at h
  · omega
  · rename_i h1
    split at h
    · rename_i h2
      obtain ⟨a, b, c, d, e, f, g⟩ := h2
      exact ⟨by omega, by omega, a.1, a.2, b, c.1, c.2, List.length_pos_iff.2 d, List.length_pos_iff.2 e, f, g⟩
    · omega

def codeOut (s wo : Int) (ks : List (Int × Int × Int)) (ds : List Int) (day : Int) (plain : List Int) : List Int :=
  if codeErr s wo ks ds day plain = 0 then codeRes s ks ds day plain else []

def SliceErr (B : Nat) (l : List Int) (err : Int) (e : Ending) (w' : World) : Prop := ∃ a c, e = .returned (.tuple #[.slice a l.length c, .int .i64 err]) ∧ OwnL 3 1 B w' a c l.length (l.map (Value.int .i64))
theorem SliceErr.err {B : Nat} {err : Int} {w' : World} : SliceErr B [] err (.returned (.tuple #[.slice none 0 0, .int .i64 err])) w' := ⟨none, 0, rfl, OwnL.nil _ _ _ _⟩

set_option maxHeartbeats 2000000 in
theorem code_full (s wo : Int) (ak : Option Addr) (ks : List (Int × Int × Int)) (ck : Nat) (ad : Option Addr) (ds : List Int) (cd : Nat) (day : Int) (ap : Option Addr) (plain : List Int) (cp : Nat) (w : World) (hk : Recs3At w ak ks) (hd : IntsAt w ad ds) (lk : ks.length ≤ 1000) (ld : ds.length ≤ 1000) (hp : IntsAt w ap plain) (lp : plain.length ≤ 1000) :
    Calls Try.prog 19 #[.agg #[.int .i64 s, .int .i64 wo, .slice ak ks.length ck, .slice ad ds.length cd], .int .i64 day, .slice ap plain.length cp] w fun e w' => SliceErr w.heap.size (codeOut s wo ks ds day plain) (codeErr s wo ks ds day plain) e w' ∧ Below w.heap.size w w' := by
  by_cases hbk : bookErr s wo ks ds = 0
  · have Hbk := Lib.hid hbk
    obtain ⟨_, _, s0, s1, _, _, _, k0, d0, hka, hda⟩ := bookErr_ok hbk
    have Hka := Lib.hid hka
    have Hda := Lib.hid hda
    clear hka hda
    go_enter Try.func19, Try.ntmps19
    go_wp2_with (first
      | (go_at_call 37; refine (checkBook_any s wo ak ks ck ad ds cd _ (hk.below (by (repeat (first | exact Below.refl _ _ | refine Below.alloc ?_ (by first | omega | (simp; done) | (simp; omega)) _ | refine Below.drew ?_ | refine Below.setCell ?_ (by first | omega | (simp; done) | (simp; omega)) _ | refine Below.trans ?_ (Below.mono (by assumption) (by first | omega | (simp; done) | (simp; omega))))))) (hd.below (by (repeat (first | exact Below.refl _ _ | refine Below.alloc ?_ (by first | omega | (simp; done) | (simp; omega)) _ | refine Below.drew ?_ | refine Below.setCell ?_ (by first | omega | (simp; done) | (simp; omega)) _ | refine Below.trans ?_ (Below.mono (by assumption) (by first | omega | (simp; done) | (simp; omega))))))) lk ld).mono ?_; rintro e w1 ⟨rfl, hb1⟩; obtain ⟨hc1, hf1, hz1⟩ := bcell hb1; (try simp at hz1); (try (have hy0 : w.heap.size < w1.heap.size := by omega)); (try (have hy1 : w.heap.size + 1 < w1.heap.size := by omega)); (try (have hy2 : w.heap.size + 2 < w1.heap.size := by omega)))
      | (go_at_call 38; refine (day_any s wo day ak ad ks.length ck ds.length cd _ ld).mono ?_; rintro e w1 ⟨rfl, hb1⟩; obtain ⟨hc1, hf1, hz1⟩ := bcell hb1; (try simp at hz1); (try (have hy0 : w.heap.size < w1.heap.size := by omega)); (try (have hy1 : w.heap.size + 1 < w1.heap.size := by omega)); (try (have hy2 : w.heap.size + 2 < w1.heap.size := by omega)))
      | (go_at_call 39; refine (all_int ap plain cp 40 #[.agg #[.int .i64 s, .int .i64 wo, .slice ak ks.length ck, .slice ad ds.length cd]] #[] (plainOk s) _ (by omega) (hp.below (by (repeat (first | exact Below.refl _ _ | refine Below.alloc ?_ (by first | omega | (simp; done) | (simp; omega)) _ | refine Below.drew ?_ | refine Below.setCell ?_ (by first | omega | (simp; done) | (simp; omega)) _ | refine Below.trans ?_ (Below.mono (by assumption) (by first | omega | (simp; done) | (simp; omega))))))) (enters Try.func40 (by kernel_rfl) rfl) (fun x _ => plain_meets s wo ak ks ck ad ds cd x _ (by omega) (by omega))).mono ?_; rintro e w1 ⟨rfl, hb1⟩; obtain ⟨hc1, hf1, hz1⟩ := bcell hb1; (try simp at hz1); (try (have hy0 : w.heap.size < w1.heap.size := by omega)); (try (have hy1 : w.heap.size + 1 < w1.heap.size := by omega)); (try (have hy2 : w.heap.size + 2 < w1.heap.size := by omega)); cases hpa : plain.all (plainOk s)))
    · have h1 : (!decide (0 ≤ day)) = true ∨ (!decide (day ≤ (ds.length : Int) - 1)) = true := by assumption
      have e1 : codeErr s wo ks ds day plain = 2 := by
        unfold codeErr; rw [if_neg (by simp [Hbk.out]), if_pos (by simp at h1; omega)]
      unfold codeOut
      rw [if_neg (by omega), e1]
      go_ret2
      exact ⟨SliceErr.err, by (repeat (first | exact Below.refl _ _ | refine Below.alloc ?_ (by first | omega | (simp; done) | (simp; omega)) _ | refine Below.drew ?_ | refine Below.setCell ?_ (by first | omega | (simp; done) | (simp; omega)) _ | refine Below.trans ?_ (Below.mono (by assumption) (by first | omega | (simp; done) | (simp; omega)))))⟩
    · have h1 : (!decide (0 ≤ day)) = false ∧ (!decide (day ≤ (ds.length : Int) - 1)) = false := by assumption
      have h2 : 10 < (plain.length : Int) := by assumption
      have e1 : codeErr s wo ks ds day plain = 3 := by
        unfold codeErr; rw [if_neg (by simp [Hbk.out]), if_neg (by simp at h1; omega), if_pos h2]
      unfold codeOut
      rw [if_neg (by omega), e1]
      go_ret2
      exact ⟨SliceErr.err, by (repeat (first | exact Below.refl _ _ | refine Below.alloc ?_ (by first | omega | (simp; done) | (simp; omega)) _ | refine Below.drew ?_ | refine Below.setCell ?_ (by first | omega | (simp; done) | (simp; omega)) _ | refine Below.trans ?_ (Below.mono (by assumption) (by first | omega | (simp; done) | (simp; omega)))))⟩
    · have h1 : (!decide (0 ≤ day)) = false ∧ (!decide (day ≤ (ds.length : Int) - 1)) = false := by assumption
      have h2 : (plain.length : Int) ≤ 10 := by assumption
      have e1 : codeErr s wo ks ds day plain = 2 := by
        unfold codeErr; rw [if_neg (by simp [Hbk.out]), if_neg (by simp at h1; omega), if_neg (by omega), if_pos hpa]
      unfold codeOut
      rw [if_neg (by omega), e1]
      go_ret2
      exact ⟨SliceErr.err, by (repeat (first | exact Below.refl _ _ | refine Below.alloc ?_ (by first | omega | (simp; done) | (simp; omega)) _ | refine Below.drew ?_ | refine Below.setCell ?_ (by first | omega | (simp; done) | (simp; omega)) _ | refine Below.trans ?_ (Below.mono (by assumption) (by first | omega | (simp; done) | (simp; omega)))))⟩
    · have h1 : (!decide (0 ≤ day)) = false ∧ (!decide (day ≤ (ds.length : Int) - 1)) = false := by assumption
      have h2 : (plain.length : Int) ≤ 10 := by assumption
      have e1 : codeErr s wo ks ds day plain = 0 := by
        unfold codeErr; rw [if_neg (by simp [Hbk.out]), if_neg (by simp at h1; omega), if_neg (by omega), if_neg (by rw [hpa]; simp)]
      have hday : 0 ≤ day ∧ day < (ds.length : Int) := by simp at h1; omega
      obtain ⟨d, rfl⟩ := Int.eq_ofNat_of_zero_le hday.1
      have hdl : d < ds.length := by omega
      have E1 := Lib.hid e1
      clear e1 h1
      have hwB : Below w.heap.size w w1 := by (repeat (first | exact Below.refl _ _ | refine Below.alloc ?_ (by first | omega | (simp; done) | (simp; omega)) _ | refine Below.drew ?_ | refine Below.setCell ?_ (by first | omega | (simp; done) | (simp; omega)) _ | refine Below.trans ?_ (Below.mono (by assumption) (by first | omega | (simp; done) | (simp; omega)))))
      have Hall := Lib.hid hpa
      clear hpa
      obtain ⟨b, off, hade, hbl, hcd0⟩ := (hd.below hwB) d hdl
      have hdm := List.all_eq_true.1 Hda.out ds[d] (List.getElem_mem hdl)
      obtain ⟨kk, hkk⟩ : ∃ kk : Nat, ds[d] = (kk : Int) := ⟨ds[d].toNat, by simp [ownOk] at hdm; omega⟩
      have hkl : kk < ks.length := by simp [ownOk] at hdm; omega
      obtain ⟨b2, off2, hake, hbl2, hk0, hk1, hk2⟩ := (hk.below hwB) kk hkl
      have hcd : w1.cell? ⟨b, off + d, none⟩ = some (.int .i64 (kk : Int)) := by rw [hcd0, ← hkk]; simp [hdl]
      have hko := List.all_eq_true.1 Hka.out ks[kk] (List.getElem_mem hkl)
      have hkv : keyAt ks ds (d : Int) = ks[kk] := by simp [keyAt, hdl, hkk, hkl]
      have hiv : indN ks ds (d : Int) = (ds[d] + (d : Int)) % ks.length := by simp [indN, hdl]
      have Hkv := Lib.hid hkv
      have Hiv := Lib.hid hiv
      have Hkk := Lib.hid hkk
      clear hkv hiv hcd0 hkk hdm
      have hkI : (kk : Int) < (ks.length : Int) := by omega
      have hdI : (d : Int) < (ds.length : Int) := by omega
      obtain ⟨⟨m, a, st⟩, hkey⟩ : ∃ q : Int × Int × Int, ks[kk] = q := ⟨_, rfl⟩
      rw [hkey] at hk0 hk1 hk2 hko
      have Hkey := Lib.hid hkey
      clear hkey
      have hF : ∀ (j : Nat) (hj : j < plain.length) (w1 : World), Calls Try.prog 43 #[.agg #[.int .i64 s, .int .i64 wo, .slice ak ks.length ck, .slice ad ds.length cd], .agg #[.int .i64 m, .int .i64 a, .int .i64 st], .int .i64 plain[j], .int .i64 j] w1 fun e w' => e = .returned (.int .i64 (codeN s m a st (plain.getD j 0) j)) ∧ Below w1.heap.size w1 w' := by
        intro j hj w1
        have hx := List.all_eq_true.1 Hall.out plain[j] (List.getElem_mem hj)
        simp [keyOk, plainOk] at hko hx
        have e1 : plain.getD j 0 = plain[j] := by simp [hj]
        rw [e1]
        exact code_any s wo m a st plain[j] j _ _ w1 (by omega) (by omega) (by omega) (by omega) (by omega) (by omega) (by omega) (by omega) (by omega) (by omega) (by omega) (by omega)
      subst hade hake
      (refine wp_region_rel 17 54 [true, true, true, false, true, true, true, true, true, true, true, true, true, true, true, true, false] [OwnV 3 1 w1.heap.size 1 [.int .i64 ((ds[d] + (d : Int)) % ks.length)], OwnV 3 1 w1.heap.size plain.length ((upTo (fun j => codeN s m a st (plain.getD j 0) j) plain.length).map (Value.int .i64))] (by kernel_rfl) (by kernel_rfl) rfl (by kernel_rfl) ?hmono ?_; rotate_left; simp only [maskOps, dummy, List.take_succ_cons, List.take_zero, List.drop_succ_cons, List.drop_zero]; (repeat (refine wpQB_step (fun K hK => ?_); go_simp; first | (refine hK _ ?_; clear hK K) | (apply Exists.intro; refine ⟨fun ex => ?_, hK _ ?_⟩; (go_at_call 41; exact indicator_any s wo _ ks ck _ ds cd d _ (hk.below (hwB.trans (ex.below.mono hwB.size))) (hd.below (hwB.trans (ex.below.mono hwB.size))) lk ld hdl k0 (fun x hx => by have := List.all_eq_true.1 Hda.out x hx; simp [ownOk] at this; omega)); clear hK K))); refine wpQB_nil ?_; simp only [relObl, relEnd, and_true])
      · refine ⟨⟨fun ex => ?_, fun ex => ?_⟩, fun ex => ?_⟩
        · go_simp
          exact ⟨(Below.refl _ _).alloc (Nat.le_refl _) _, _, _, rfl, OwnL.lit #[.int .i64 ((ds[d] + (d : Int)) % ks.length)] ex.size (by decide) rfl⟩
        · go_simp
          refine (turned_any s wo m a st _ ks.length ck _ ds.length cd 43 _ ap plain cp ex.to (hp.below (hwB.trans (ex.below.mono hwB.size))) lp (enters Try.func43 (by kernel_rfl) rfl) hF).mono ?_
          rintro e w' ⟨a', c', rfl, h1, h2⟩
          exact ⟨h2, a', c', rfl, h1.base_le ex.size⟩
        · rintro v1 ⟨a1, c1, rfl, o1⟩ v2 ⟨a2, c2, rfl, o2⟩
          simp only [Act.put, List.setIfInBounds_toArray, List.set_cons_zero, List.set_cons_succ]
          have hex := ex.below
          have hexz := ex.size
          go_wp2_with (at_builtin; refine wpList_app elInt rfl _ _ rfl w1.heap.size _ _ _ _ rfl o1 _ _ _ _ rfl (fun h => ?c1) ?c2 (SrcAt.own o2) (fun u hu => ?c3) ?c4 ?c5 hexz ?_)
          case c1 => subst h; have := o2.isnil; exact ⟨by first | exact this.1 | exact List.eq_nil_of_length_eq_zero this.1, this.2⟩
          case c2 => simp [upTo_len]
          case c3 => obtain ⟨z, _, rfl⟩ := List.mem_map.1 hu; rfl
          case c4 => unfold maxLen; omega
          case c5 => omega
          intro a3 c3 w3 own3 hb3
          have hlen : 1 + plain.length = (((ds[d] + (d : Int)) % ks.length) :: upTo (fun j => codeN s m a st (plain.getD j 0) j) plain.length).length := by simp [upTo_len]; omega
          have own4 : OwnL 3 1 w1.heap.size w3 a3 c3 (1 + plain.length) ((((ds[d] + (d : Int)) % ks.length) :: upTo (fun j => codeN s m a st (plain.getD j 0) j) plain.length).map (Value.int .i64)) := by simpa using own3
          obtain ⟨z0, hz0⟩ : ∃ z, (ds[d] + (d : Int)) % ks.length = z := ⟨_, rfl⟩
          obtain ⟨L, hL⟩ : ∃ L, (z0 :: upTo (fun j => codeN s m a st (plain.getD j 0) j) plain.length) = L := ⟨_, rfl⟩
          have hz1 : 0 ≤ z0 ∧ z0 ≤ 1000 := by rw [← hz0]; exact ⟨Int.emod_nonneg _ (by omega), by have := Int.emod_lt_of_pos (ds[d] + (d : Int)) (show (0 : Int) < ks.length by omega); omega⟩
          rw [hz0, hL] at hlen own4
          have hLb : ∀ x ∈ L, 0 ≤ x ∧ x ≤ 1000 := by
            intro x hx
            rw [← hL] at hx
            rcases List.mem_cons.1 hx with rfl | hx
            · exact hz1
            · simp only [upTo, List.mem_map] at hx
              obtain ⟨j, _, rfl⟩ := hx
              have := codeN_b (s := s) (m := m) (a := a) (st := st) (n := plain.getD j 0) (i := j) (by omega)
              omega
          have hLl : L.length ≤ 1000 := by omega
          have hres : codeOut s wo ks ds d plain = L ++ [checkN s L] := by
            unfold codeOut codeRes
            rw [if_pos E1.out, Hiv.out, Hkv.out, Hkey.out, hz0]
            unfold codesN
            rw [hL]
          have Hres := Lib.hid hres
          rw [hlen]
          clear hres own3 hz0 hL hz1 Hkk
          have hi3 := own4.ints.1
          have hB3 : Below w1.heap.size w1 w3 := hex.trans hb3
          have hc3 : ∀ o, w3.cell? ⟨w.heap.size, o, none⟩ = w1.cell? ⟨w.heap.size, o, none⟩ := fun o => hB3.cell (p := ⟨w.heap.size, o, none⟩) hy0
          have hs3 : w1.heap.size ≤ w3.heap.size := hB3.size
          rw [hlen] at own4
          go_wp2_with (first
            | (at_builtin; refine wpList_app_lit elInt rfl _ _ rfl _ _ _ _ _ rfl (own4.kept hb1) 1 1 rfl rfl (fun u hu => ?q1) ?q2 ?q3 ?q4 ?_)
            | (go_at_call 44; refine (check_any s wo _ _ a3 L c3 _ (by omega) (by omega) (hi3.below (by (repeat (first | exact Below.refl _ _ | refine Below.alloc ?_ (by first | omega | (simp; done) | (simp; omega)) _ | refine Below.drew ?_ | refine Below.setCell ?_ (by first | omega | (simp; done) | (simp; omega)) _ | refine Below.trans ?_ (Below.mono (by assumption) (by first | omega | (simp; done) | (simp; omega))))))) hLl hLb).mono ?_; rintro e w1 ⟨rfl, hb1⟩; obtain ⟨hc1, hf1, hz1⟩ := bcell hb1; (try simp at hz1); (try (have hy0 : w.heap.size < w1.heap.size := by omega)); (try (have hy1 : w.heap.size + 1 < w1.heap.size := by omega)); (try (have hy2 : w.heap.size + 2 < w1.heap.size := by omega))))
          case q1 => simp at hu; subst hu; rfl
          case q2 => unfold maxLen; omega
          case q3 => omega
          case q4 => omega
          intro a5 c5 w5 own5 hb5
          go_wp2
          go_ret2
          refine ⟨?_, hwB.trans ((hB3.mono hwB.size).trans ((hb1.mono (by omega)).trans (hb5.mono hwB.size)))⟩
          rw [Hres.out, E1.out]
          refine ⟨a5, c5, ?_, ?_⟩
          · simp
          · have := own5.base_le hwB.size
            simpa using this
      · intro R hR v w2 w3 h hb
        simp only [List.mem_cons, List.not_mem_nil, or_false] at hR
        rcases hR with rfl | rfl
        · exact h.kept hb
        · exact h.kept hb
  · have Hbk := Lib.hid hbk
    have e1 : codeErr s wo ks ds day plain = bookErr s wo ks ds := by unfold codeErr; rw [if_pos hbk]
    have e2 : codeOut s wo ks ds day plain = [] := by unfold codeOut; rw [if_neg (by rw [e1]; exact hbk)]
    rw [e1, e2]
    clear e1 e2
    have hne : (bookErr s wo ks ds != 0) = true := by simpa using hbk
    clear hbk
    go_enter Try.func19, Try.ntmps19
    go_wp2_with (go_at_call 37; refine (checkBook_any s wo ak ks ck ad ds cd _ (hk.below (by (repeat (first | exact Below.refl _ _ | refine Below.alloc ?_ (by first | omega | (simp; done) | (simp; omega)) _ | refine Below.drew ?_ | refine Below.setCell ?_ (by first | omega | (simp; done) | (simp; omega)) _ | refine Below.trans ?_ (Below.mono (by assumption) (by first | omega | (simp; done) | (simp; omega))))))) (hd.below (by (repeat (first | exact Below.refl _ _ | refine Below.alloc ?_ (by first | omega | (simp; done) | (simp; omega)) _ | refine Below.drew ?_ | refine Below.setCell ?_ (by first | omega | (simp; done) | (simp; omega)) _ | refine Below.trans ?_ (Below.mono (by assumption) (by first | omega | (simp; done) | (simp; omega))))))) lk ld).mono ?_; rintro e w1 ⟨rfl, hb1⟩; obtain ⟨hc1, hf1, hz1⟩ := bcell hb1; (try simp at hz1); (try (have hy0 : w.heap.size < w1.heap.size := by omega)); (try (have hy1 : w.heap.size + 1 < w1.heap.size := by omega)); (try (have hy2 : w.heap.size + 2 < w1.heap.size := by omega)))
    go_ret2
    exact ⟨SliceErr.err, by (repeat (first | exact Below.refl _ _ | refine Below.alloc ?_ (by first | omega | (simp; done) | (simp; omega)) _ | refine Below.drew ?_ | refine Below.setCell ?_ (by first | omega | (simp; done) | (simp; omega)) _ | refine Below.trans ?_ (Below.mono (by assumption) (by first | omega | (simp; done) | (simp; omega)))))⟩
end Go.Proofs.Ytnofcpihkglmmaa

namespace Go.Proofs.Ytnofcpihkglmmaa
set_option linter.unusedVariables false
set_option linter.unusedSimpArgs false
set_option linter.unnecessarySimpa false
open Go.RowKit Go.Flow

theorem srcNone {a : Option Addr} {xs : List Int} {c : Nat} (hn : a = none → xs = [] ∧ c = 0) : a = none → xs.length = 0 ∧ c = 0 := fun h => ⟨by rw [(hn h).1]; rfl, (hn h).2⟩

set_option maxRecDepth 100000 in
set_option maxHeartbeats 400000 in
theorem clone_any (a : Option Addr) (xs : List Int) (c : Nat) (w : World) (hx : IntsAt w a xs) (hn : a = none → xs = [] ∧ c = 0) (hl : xs.length ≤ 10000000000000) :
    Calls Try.prog 46 #[.slice a xs.length c] w fun e w' => ∃ a' c', e = .returned (.slice a' xs.length c') ∧ OwnL 3 1 w.heap.size w' a' c' xs.length (xs.map (Value.int .i64)) ∧ Below w.heap.size w w' := by
  have hnil : ∀ w, (binOp .eql 26 (.slice a xs.length c) (.slice none 0 0)).run Try.prog w = .ok (.bool a.isNone) w := fun w => Lib.run_eql_slice_nil w _ _ _ _ _ _ _ Try.underlying26
  cases a with
  | none =>
    obtain ⟨rfl, rfl⟩ := hn rfl
    have hnil : ∀ w, (binOp .eql 26 (.slice none 0 0) (.slice none 0 0)).run Try.prog w = .ok (.bool true) w := fun w => Lib.run_eql_slice_nil w _ _ _ _ _ _ _ Try.underlying26
    show Calls Try.prog 46 #[.slice none 0 0] w _
    go_enter Try.func46, Try.ntmps46
    go_wp2
    go_ret
    exact ⟨none, 0, rfl, OwnL.nil _ _ _ _, Below.refl _ _⟩
  | some ad =>
    simp only [Option.isNone_some] at hnil
    go_enter Try.func46, Try.ntmps46
    go_wp2_with (at_builtin; refine wpList_app elInt rfl _ _ rfl w.heap.size _ _ _ _ rfl (OwnL.lit #[] (Nat.le_refl _) (by decide) rfl) (some ad) xs.length c _ rfl (srcNone hn) (by simp) (SrcAt.ints (hx.below (by (repeat (first | exact Below.refl _ _ | refine Below.alloc ?_ (by first | omega | (simp; done) | (simp; omega)) _ | refine Below.drew ?_ | refine Below.setCell ?_ (by first | omega | (simp; done) | (simp; omega)) _ | refine Below.trans ?_ (Below.mono (by assumption) (by first | omega | (simp; done) | (simp; omega)))))))) (fun u hu => ?c3) (by unfold maxLen; omega) (by omega) (by simp) ?_)
    case c3 => obtain ⟨z, _, rfl⟩ := List.mem_map.1 hu; rfl
    intro a' c' w' h1 h2
    go_wp2
    go_ret
    exact ⟨a', c', by simp, by simpa using h1, ((Below.refl _ _).alloc (Nat.le_refl _) _).trans h2⟩


/-- Decode's test for a null: at a captured book's box. -/
theorem null_any (B : Nat) (x wo : Int) (w : World) (hc : w.cell? ⟨B, 1, none⟩ = some (.int .i64 wo)) :
    Calls Try.prog 47 #[.int .i64 x, .pointer (some ⟨B, 0, none⟩)] w fun e w' => e = .returned (.bool (decide (wo ≤ x))) ∧ Below w.heap.size w w' := by
  go_enter Try.func47, Try.ntmps47
  go_wp2
  go_ret
  exact ⟨rfl, Below.refl _ _⟩

def kept (p : Int → Bool) (l : List Int) : List Int := l.filter fun x => !p x
theorem kept_snoc (p : Int → Bool) (l : List Int) (x : Int) : kept p (l ++ [x]) = kept p l ++ if p x then [] else [x] := by
  unfold kept
  rw [List.filter_append]
  cases h : p x <;> simp [h]
theorem kept_none (p : Int → Bool) (l : List Int) (h : ∀ x ∈ l, p x = false) : kept p l = l := by
  unfold kept; rw [List.filter_eq_self]; intro x hx; simp [h x hx]
theorem idxBy_spec {α : Type} (p : α → Bool) : ∀ (xs : List α) (k : Nat), (idxBy p xs k = -1 ∧ ∀ x ∈ xs, p x = false) ∨ ∃ j, ∃ h : j < xs.length, idxBy p xs k = (k + j : Nat) ∧ p xs[j] = true ∧ ∀ i, (hi : i < j) → p (xs[i]'(by omega)) = false
  | [], _ => .inl ⟨rfl, fun _ h => by simp at h⟩
  | x :: l, k => by
    by_cases hx : p x = true
    · exact .inr ⟨0, by simp, by simp [idxBy, hx], by simpa using hx, fun i hi => by omega⟩
    · have hx' : p x = false := by simpa using hx
      rcases idxBy_spec p l (k + 1) with ⟨h1, h2⟩ | ⟨j, hj, h1, h2, h3⟩
      · refine .inl ⟨by simp [idxBy, hx', h1], fun y hy => ?_⟩
        rcases List.mem_cons.1 hy with rfl | hy
        · exact hx'
        · exact h2 y hy
      · refine .inr ⟨j + 1, by simpa using hj, by simp only [idxBy, hx', h1]; simp; omega, by simpa using h2, fun i hi => ?_⟩
        cases i with
        | zero => simpa using hx'
        | succ i => simpa using h3 i (by omega)

/-- Cells behind the first m do not matter to them. -/
theorem own_setCell {E : TypeId} {base : Nat} {w : World} {g c n : Nat} {xs : List Value} (h : OwnL E 1 base w (some ⟨g, 0, none⟩) c n xs) (j : Nat) (u : Value) :
    OwnL E 1 base (w.setCell ⟨g, j, none⟩ u) (some ⟨g, 0, none⟩) c n (xs.set j u) := (World.ownsRow.stored h j u).1
theorem own_setCells {E : TypeId} {base : Nat} {g c n : Nat} : ∀ (vs : List Value) (w : World) (j : Nat) (xs : List Value), OwnL E 1 base w (some ⟨g, 0, none⟩) c n xs → n ≤ j → OwnL E 1 base (w.setCells g j vs) (some ⟨g, 0, none⟩) c n xs
  | [], _, _, _, h, _ => h
  | v :: vs, w, j, xs, h, hj => by
    have h1 := own_setCell h j v
    rw [List.set_eq_of_length_le (by have := h.len; omega)] at h1
    exact own_setCells vs _ (j + 1) xs h1 (by omega)
theorem own_first {E : TypeId} {base : Nat} {w : World} {a : Option Addr} {c n m : Nat} {xs : List Value} (h : OwnL E 1 base w a c n xs) (hm : m ≤ n) : OwnL E 1 base w a c m (xs.take m) := by
  have hl := h.len
  refine ⟨by simp; omega, ?_⟩
  rcases h.2 with ⟨h1, h2⟩ | ⟨g, cap, cur, hv, hbg, hg, hnc, hcm, hcs, htake⟩
  · simp only [Value.slice.injEq] at h1
    obtain ⟨rfl, rfl, rfl⟩ := h1
    exact .inl ⟨by rw [Nat.le_zero.1 hm], by omega⟩
  · simp only [Value.slice.injEq, true_and] at hv
    obtain ⟨rfl, rfl⟩ := hv
    refine .inr ⟨g, c, cur, rfl, hbg, hg, by omega, hcm, hcs, ?_⟩
    rw [← htake, List.take_take]
    congr 1
    omega
theorem below_setCells {B g : Nat} : ∀ (vs : List Value) (w0 w : World) (j : Nat), Below B w0 w → B ≤ g → Below B w0 (w.setCells g j vs)
  | [], _, _, _, h, _ => h
  | v :: vs, w0, w, j, h, hg => below_setCells vs w0 _ (j + 1) (h.setCell (p := ⟨g, j, none⟩) hg v) hg

end Go.Proofs.Ytnofcpihkglmmaa

namespace Go.Proofs.Ytnofcpihkglmmaa
set_option linter.unusedVariables false
set_option linter.unusedSimpArgs false
set_option linter.unnecessarySimpa false
open Go.RowKit Go.Flow

theorem zero_int (w : World) : (zeroValue 3).run Try.prog w = .ok (.int .i64 0) w := by kernel_rfl

theorem ys_at {xs ys : List Int} {j : Nat} (hd : ys.drop j = xs.drop j) (hl : ys.length = xs.length) (hj : j < xs.length) : ys[j]'(by omega) = xs[j] := by
  have h1 := List.drop_eq_getElem_cons (l := ys) (i := j) (by omega)
  have h2 := List.drop_eq_getElem_cons (l := xs) (i := j) hj
  rw [h1, h2] at hd
  exact (List.cons.inj hd).1
theorem ys_drop {xs ys : List Int} {j : Nat} (hd : ys.drop j = xs.drop j) : ys.drop (j + 1) = xs.drop (j + 1) := by
  have := congrArg (List.drop 1) hd
  simpa [List.drop_drop, Nat.add_comm] using this
theorem ys_set_take {ys : List Int} {i : Nat} {v : Int} (hi : i < ys.length) : (ys.set i v).take (i + 1) = ys.take i ++ [v] := by
  rw [List.take_succ_eq_append_getElem (by simpa using hi)]
  simp [List.take_set_of_le]
theorem ys_set_drop {ys : List Int} {i j : Nat} {v : Int} (hij : i < j) : (ys.set i v).drop j = ys.drop j := by
  rw [List.drop_set_of_lt hij]

theorem own_cell {base : Nat} {w : World} {g c n : Nat} {ys : List Int} (h : OwnL 3 1 base w (some ⟨g, 0, none⟩) c n (ys.map (Value.int .i64))) (i : Nat) (hi : i < ys.length) :
    w.frozen? ⟨g, i, none⟩ = false ∧ w.cell? ⟨g, i, none⟩ = some (.int .i64 ys[i]) := by
  rcases h.form with ⟨h1, _⟩ | ⟨g', h1, _, _, _, _, hf, hc⟩
  · cases h1
  · simp only [Option.some.injEq, Addr.mk.injEq, and_true] at h1
    subst h1
    exact ⟨hf i, hc i _ (by simp [hi])⟩

set_option maxRecDepth 100000 in
set_option maxHeartbeats 1000000 in
theorem deleteFunc_any (a : Option Addr) (xs : List Int) (c base : Nat) (g : FuncId) (first cap : Array Value) (p : Int → Bool) (w : World) (hl : xs.length ≤ 1000000) (hb : base ≤ w.heap.size)
    (hx : OwnL 3 1 base w a c xs.length (xs.map (Value.int .i64)))
    (hg : ∀ args w, Sem.run Try.prog (callFunc g args) w = .ok (.enter g args) w)
    (hp : ∀ x ∈ xs, ∀ w1, Below base w w1 → Calls Try.prog g (first.push (.int .i64 x) ++ cap) w1 fun r w' => r = .returned (.bool (p x)) ∧ Below w1.heap.size w1 w') :
    Calls Try.prog 45 #[.slice a xs.length c, .func (.func g) first cap] w fun e w' =>
      ∃ a' c', e = .returned (.slice a' (kept p xs).length c') ∧ OwnL 3 1 base w' a' c' (kept p xs).length ((kept p xs).map (Value.int .i64)) ∧ Below base w w' := by
  have hm : ∀ x ∈ xs, Meets Try.prog w g first cap (.int .i64 x) (p x) := fun x hxx w1 h1 => hp x hxx w1 (h1.mono hb)
  rcases idxBy_spec p xs 0 with ⟨hi, hno⟩ | ⟨i0, hi0, hi, hhit, hno⟩
  · rw [kept_none p xs hno]
    clear hno
    go_enter Try.func45, Try.ntmps45
    go_wp2_with (go_at_call 67; refine (indexFunc_int a xs c g first cap p w (by omega) hx.ints.1 hg hm).mono ?_; rintro e w1 ⟨rfl, hb1⟩; obtain ⟨hc1, hf1, hz1⟩ := bcell hb1; (try simp at hz1); (try (have hy0 : w.heap.size < w1.heap.size := by omega)); (try (have hy1 : w.heap.size + 1 < w1.heap.size := by omega)); (try (have hy2 : w.heap.size + 2 < w1.heap.size := by omega)))
    go_ret
    exact ⟨a, c, rfl, hx.kept hb1, hb1.mono hb⟩
  · have hne : ((i0 : Int) == -1) = false := by simp
    rw [Nat.zero_add] at hi
    obtain ⟨gb, rfl, hgb, hglt, hnc, hcm, hfz, hcl⟩ : ∃ gb, a = some ⟨gb, 0, none⟩ ∧ base ≤ gb ∧ gb < w.heap.size ∧ xs.length ≤ c ∧ c ≤ maxLen ∧ (∀ j, w.frozen? ⟨gb, j, none⟩ = false) ∧ (∀ j u, (xs.map (Value.int .i64))[j]? = some u → w.cell? ⟨gb, j, none⟩ = some u) := by
      rcases hx.form with ⟨_, _, h3, _⟩ | h
      · omega
      · exact h
    have hk0 : kept p (xs.take (i0 + 1)) = xs.take i0 := by
      rw [List.take_succ_eq_append_getElem hi0, kept_snoc, hhit]
      simp
      refine kept_none p _ fun x hxx => ?_
      obtain ⟨q, hq, rfl⟩ := List.mem_iff_getElem.1 hxx
      have hq' : q < i0 := by simp at hq; omega
      rw [List.getElem_take]
      exact hno q hq'
    clear hno hcl hfz hhit
    have Hi := Lib.hid hi
    go_enter Try.func45, Try.ntmps45
    go_wp2_with (go_at_call 67; refine (indexFunc_int _ xs c g first cap p w (by omega) hx.ints.1 hg hm).mono ?_; rintro e w1 ⟨rfl, hb1⟩; obtain ⟨hc1, hf1, hz1⟩ := bcell hb1; (try simp at hz1); (try (have hy0 : w.heap.size < w1.heap.size := by omega)); (try (have hy1 : w.heap.size + 1 < w1.heap.size := by omega)); (try (have hy2 : w.heap.size + 2 < w1.heap.size := by omega)))
    go_loopw [5, 6, 7] (fun iv jv _ wr => ∃ (i j : Nat) (ys : List Int), iv = .int .i64 i ∧ jv = .int .i64 j ∧ i < j ∧ j ≤ xs.length ∧ ys.length = xs.length ∧ i = (kept p (xs.take j)).length ∧ ys.take i = kept p (xs.take j) ∧ ys.drop j = xs.drop j ∧
        OwnL 3 1 base wr (some ⟨gb, 0, none⟩) c xs.length (ys.map (Value.int .i64)) ∧ Below base w wr) (fun _ jv _ _ => xs.length - (intOf jv).toNat)
    case atStart => exact ⟨i0, i0 + 1, xs, rfl, by go_num, by omega, by omega, rfl, by rw [hk0]; simp; omega, by rw [hk0], rfl, hx.kept hb1, hb1.mono hb⟩
    case round =>
      obtain ⟨i, j, ys, rfl, rfl, hij, hj, hyl, hik, htk, hdr, hown, hbel⟩ := hrel
      have Hik := Lib.hid hik
      have Htk := Lib.hid htk
      have Hdr := Lib.hid hdr
      have Hyl := Lib.hid hyl
      clear hik htk hdr hyl hi hne hc1 hf1
      by_cases hlt : j < xs.length
      · have hcj : wr.cell? ⟨gb, j, none⟩ = some (.int .i64 xs[j]) := by
          obtain ⟨b', off', hh, _, hc⟩ := hown.ints.1 j (by rw [Hyl.out]; exact hlt)
          simp only [Option.some.injEq, Addr.mk.injEq] at hh
          obtain ⟨rfl, rfl, _⟩ := hh
          rw [Nat.zero_add] at hc
          rw [hc, ← ys_at Hdr.out Hyl.out hlt]
          simp [Hyl.out, hlt]
        have hil : i < ys.length := by have := Hyl.out; omega
        go_wp2_with (refine (hp xs[j] (List.getElem_mem hlt) wr hbel).mono ?_; rintro e w2 ⟨rfl, hb2⟩; have own2 := hown.kept hb2; obtain ⟨hf2, hc2⟩ := own_cell own2 i hil; cases hpj : p xs[j])
        · go_roundw
          case rel =>
            refine ⟨i + 1, j + 1, ys.set i xs[j], by go_num, by go_num, by omega, by omega, by simp [Hyl.out], ?_, ?_, ?_, ?_, ?_⟩
            · rw [List.take_succ_eq_append_getElem hlt, kept_snoc, hpj]; simp [← Hik.out]
            · rw [List.take_succ_eq_append_getElem hlt, kept_snoc, hpj, ys_set_take hil, Htk.out]; simp
            · rw [ys_set_drop (by omega), ys_drop Hdr.out]
            · rw [List.map_set]; exact own_setCell own2 i _
            · exact (hbel.trans (hb2.mono (Nat.le_trans hb hbel.size))).setCell (p := ⟨gb, i, none⟩) hgb _
          case measure => simp [intOf]; omega
        · go_roundw
          case rel =>
            refine ⟨i, j + 1, ys, rfl, by go_num, by omega, by omega, Hyl.out, ?_, ?_, ys_drop Hdr.out, own2, hbel.trans (hb2.mono (Nat.le_trans hb hbel.size))⟩
            · rw [List.take_succ_eq_append_getElem hlt, kept_snoc, hpj]; simp [← Hik.out]
            · rw [List.take_succ_eq_append_getElem hlt, kept_snoc, hpj, Htk.out]; simp
          case measure => simp [intOf]; omega
      · obtain rfl : j = xs.length := by omega
        rw [List.take_length] at Hik Htk
        have hil : i < ys.length := by have := Hyl.out; omega
        have hclr : Sem.run Try.prog (Builtin.clear_ #[26] 0 #[Value.slice (some ⟨gb, i, none⟩) (xs.length - i) (c - i)]) wr = .ok (.tuple #[]) (wr.setCells gb i (List.replicate (xs.length - i) (.int .i64 0))) := by
          refine Lib.run_clear_slice wr _ 3 _ (.int .i64 0) Try.underlying26 zero_int rfl rfl gb i _ _ (by omega) ?_ ?_
          · intro q hq
            rw [(own_cell hown (i + q) (by have := Hyl.out; omega)).2]
            rfl
          · intro q hq
            exact (own_cell hown (i + q) (by have := Hyl.out; omega)).1
        go_wp2
        go_ret
        have h1 := own_setCells (List.replicate (xs.length - i) (.int .i64 0)) wr i _ (own_first hown (Nat.le_of_lt hij)) (Nat.le_refl _)
        rw [← List.map_take, Htk.out] at h1
        refine ⟨some ⟨gb, 0, none⟩, c, ?_, ?_, below_setCells _ _ _ _ hbel hgb⟩
        · rw [← Hik.out]; simp
        · rw [← Hik.out]; exact h1
end Go.Proofs.Ytnofcpihkglmmaa

namespace Go.Proofs.Ytnofcpihkglmmaa
set_option linter.unusedVariables false
set_option linter.unusedSimpArgs false
set_option linter.unnecessarySimpa false
open Go.RowKit Go.Flow

def decodeErr (s wo : Int) (ks : List (Int × Int × Int)) (ds : List Int) (day : Int) (l : List Int) : Int :=
  if bookErr s wo ks ds ≠ 0 then bookErr s wo ks ds
  else if ¬ (0 ≤ day ∧ day ≤ (ds.length : Int) - 1) then 2
  else if ¬ (1 ≤ (l.length : Int) - 1 ∧ (l.length : Int) - 1 ≤ 11) ∨ l.all (plainOk s) = false then 4
  else if l.getD 0 0 ≠ indN ks ds day then 8
  else if l.getD (l.length - 1) 0 ≠ checkN s (l.take (l.length - 1)) then 11
  else 0
def decPlain (s : Int) (ks : List (Int × Int × Int)) (ds : List Int) (day : Int) (l : List Int) : List Int :=
  upTo (fun i => decodeN s (keyAt ks ds day).1 (keyAt ks ds day).2.1 (keyAt ks ds day).2.2 (l.getD (i + 1) 0) i) (l.length - 2)
def decOut (s wo : Int) (ks : List (Int × Int × Int)) (ds : List Int) (day : Int) (l : List Int) : List Int := if decodeErr s wo ks ds day l = 0 then decPlain s ks ds day l else []
def Slices2 (B : Nat) (l1 l2 : List Int) (err : Int) (e : Ending) (w' : World) : Prop := ∃ a c a2 c2, e = .returned (.tuple #[.slice a l1.length c, .slice a2 l2.length c2, .int .i64 err]) ∧
  OwnL 3 1 B w' a c l1.length (l1.map (Value.int .i64)) ∧ OwnL 3 1 B w' a2 c2 l2.length (l2.map (Value.int .i64))
theorem Slices2.err {B : Nat} {err : Int} {w' : World} : Slices2 B [] [] err (.returned (.tuple #[.slice none 0 0, .slice none 0 0, .int .i64 err])) w' := ⟨none, 0, none, 0, rfl, OwnL.nil _ _ _ _, OwnL.nil _ _ _ _⟩

theorem IntsAt.sub {w : World} {b off : Nat} {l : List Int} (h : IntsAt w (some ⟨b, off, none⟩) l) (i m : Nat) (hm : i + m ≤ l.length) : IntsAt w (some ⟨b, off + i, none⟩) ((l.drop i).take m) := by
  intro k hk
  have hk' : k < m := by simp at hk; omega
  obtain ⟨b', off', hh, hlt, hc⟩ := h (i + k) (by omega)
  simp only [Option.some.injEq, Addr.mk.injEq, and_true] at hh
  obtain ⟨rfl, rfl⟩ := hh
  refine ⟨b, off + i, rfl, hlt, ?_⟩
  rw [show off + i + k = off + (i + k) by omega, hc]
  simp [hk']

theorem check_len (s wo : Int) (ks ds : Value) (al : Option Addr) (l : List Int) (n cl : Nat) (w : World) (hn : l.length = n) (h0 : 0 < s) (h1 : s ≤ 1000) (hl : IntsAt w al l) (hln : n ≤ 1000) (hb : ∀ x ∈ l, 0 ≤ x ∧ x ≤ 1000) :
    Calls Try.prog 44 #[.agg #[.int .i64 s, .int .i64 wo, ks, ds], .slice al n cl] w fun e w' => e = .returned (.int .i64 (checkN s l)) ∧ Below w.heap.size w w' := by
  subst hn
  exact check_any s wo ks ds al l cl w h0 h1 hl hln hb

theorem turned_len (s wo m a st : Int) (ak : Option Addr) (nk ck : Nat) (ad : Option Addr) (nd cd : Nat) (g : FuncId) (F : Nat → Int) (al : Option Addr) (l : List Int) (n cl : Nat) (w : World) (hnl : l.length = n) (hl : IntsAt w al l) (hn : n ≤ 1000)
    (hg : ∀ args w, Sem.run Try.prog (callFunc g args) w = .ok (.enter g args) w)
    (hF : ∀ (k : Nat) (hk : k < l.length) (w1 : World), Calls Try.prog g #[.agg #[.int .i64 s, .int .i64 wo, .slice ak nk ck, .slice ad nd cd], .agg #[.int .i64 m, .int .i64 a, .int .i64 st], .int .i64 l[k], .int .i64 k] w1 fun e w' => e = .returned (.int .i64 (F k)) ∧ Below w1.heap.size w1 w') :
    Calls Try.prog 42 #[.agg #[.int .i64 s, .int .i64 wo, .slice ak nk ck, .slice ad nd cd], .agg #[.func (.func g) #[] #[]], .agg #[.int .i64 m, .int .i64 a, .int .i64 st], .slice al n cl] w fun e w' =>
      ∃ a c, e = .returned (.slice a (upTo F n).length c) ∧ OwnL 3 1 w.heap.size w' a c (upTo F n).length ((upTo F n).map (Value.int .i64)) ∧ Below w.heap.size w w' := by
  subst hnl
  rw [upTo_len]
  exact turned_any s wo m a st ak nk ck ad nd cd g F al l cl w hl hn hg hF

set_option maxHeartbeats 4000000 in
theorem decode_full (s wo : Int) (ak : Option Addr) (ks : List (Int × Int × Int)) (ck : Nat) (ad : Option Addr) (ds : List Int) (cd : Nat) (day : Int) (al : Option Addr) (l : List Int) (cl : Nat) (w : World) (hk : Recs3At w ak ks) (hd : IntsAt w ad ds) (lk : ks.length ≤ 1000) (ld : ds.length ≤ 1000) (hl : IntsAt w al l) (ll : l.length ≤ 1000) (hcl : l.length ≤ cl) (hcm : cl ≤ 9223372036854775807) :
    Calls Try.prog 20 #[.agg #[.int .i64 s, .int .i64 wo, .slice ak ks.length ck, .slice ad ds.length cd], .int .i64 day, .slice al l.length cl] w fun e w' => Slices2 w.heap.size (decOut s wo ks ds day l) (kept (fun n => decide (wo ≤ n)) (decOut s wo ks ds day l)) (decodeErr s wo ks ds day l) e w' ∧ Below w.heap.size w w' := by
  by_cases hbk : bookErr s wo ks ds = 0
  · have Hbk := Lib.hid hbk
    obtain ⟨_, _, s0, s1, _, _, _, k0, d0, hka, hda⟩ := bookErr_ok hbk
    have Hka := Lib.hid hka
    have Hda := Lib.hid hda
    clear hka hda
    go_enter Try.func20, Try.ntmps20
    go_wp2_with (first
      | (go_at_call 31; refine (within_any _ _ _ _).mono ?_; rintro e w1 ⟨rfl, rfl⟩)
      | (go_at_call 37; refine (checkBook_any s wo ak ks ck ad ds cd _ (hk.below (by (repeat (first | exact Below.refl _ _ | refine Below.alloc ?_ (by first | omega | (simp; done) | (simp; omega)) _ | refine Below.drew ?_ | refine Below.setCell ?_ (by first | omega | (simp; done) | (simp; omega)) _ | refine Below.trans ?_ (Below.mono (by assumption) (by first | omega | (simp; done) | (simp; omega))))))) (hd.below (by (repeat (first | exact Below.refl _ _ | refine Below.alloc ?_ (by first | omega | (simp; done) | (simp; omega)) _ | refine Below.drew ?_ | refine Below.setCell ?_ (by first | omega | (simp; done) | (simp; omega)) _ | refine Below.trans ?_ (Below.mono (by assumption) (by first | omega | (simp; done) | (simp; omega))))))) lk ld).mono ?_; rintro e w1 ⟨rfl, hb1⟩; obtain ⟨hc1, hf1, hz1⟩ := bcell hb1; (try simp at hz1); (try (have hy0 : w.heap.size < w1.heap.size := by omega)); (try (have hy1 : w.heap.size + 1 < w1.heap.size := by omega)); (try (have hy2 : w.heap.size + 2 < w1.heap.size := by omega)))
      | (go_at_call 38; refine (day_any s wo day ak ad ks.length ck ds.length cd _ ld).mono ?_; rintro e w1 ⟨rfl, hb1⟩; obtain ⟨hc1, hf1, hz1⟩ := bcell hb1; (try simp at hz1); (try (have hy0 : w.heap.size < w1.heap.size := by omega)); (try (have hy1 : w.heap.size + 1 < w1.heap.size := by omega)); (try (have hy2 : w.heap.size + 2 < w1.heap.size := by omega)))
      | (go_at_call 39; refine (all_int al l cl 40 #[.agg #[.int .i64 s, .int .i64 wo, .slice ak ks.length ck, .slice ad ds.length cd]] #[] (plainOk s) _ (by omega) (hl.below (by (repeat (first | exact Below.refl _ _ | refine Below.alloc ?_ (by first | omega | (simp; done) | (simp; omega)) _ | refine Below.drew ?_ | refine Below.setCell ?_ (by first | omega | (simp; done) | (simp; omega)) _ | refine Below.trans ?_ (Below.mono (by assumption) (by first | omega | (simp; done) | (simp; omega))))))) (enters Try.func40 (by kernel_rfl) rfl) (fun x _ => plain_meets s wo ak ks ck ad ds cd x _ (by omega) (by omega))).mono ?_; rintro e w1 ⟨rfl, hb1⟩; obtain ⟨hc1, hf1, hz1⟩ := bcell hb1; (try simp at hz1); (try (have hy0 : w.heap.size < w1.heap.size := by omega)); (try (have hy1 : w.heap.size + 1 < w1.heap.size := by omega)); (try (have hy2 : w.heap.size + 2 < w1.heap.size := by omega)); cases hpa : l.all (plainOk s)))
    · have h1 : (!decide (0 ≤ day)) = true ∨ (!decide (day ≤ (ds.length : Int) - 1)) = true := by assumption
      have e1 : decodeErr s wo ks ds day l = 2 := by
        unfold decodeErr; rw [if_neg (by simp [Hbk.out]), if_pos (by simp at h1; omega)]
      unfold decOut
      rw [if_neg (by omega), e1]
      go_ret3
      exact ⟨Slices2.err, by (repeat (first | exact Below.refl _ _ | refine Below.alloc ?_ (by first | omega | (simp; done) | (simp; omega)) _ | refine Below.drew ?_ | refine Below.setCell ?_ (by first | omega | (simp; done) | (simp; omega)) _ | refine Below.trans ?_ (Below.mono (by assumption) (by first | omega | (simp; done) | (simp; omega)))))⟩
    · have h1 : (!decide (0 ≤ day)) = false ∧ (!decide (day ≤ (ds.length : Int) - 1)) = false := by assumption
      have e1 : decodeErr s wo ks ds day l = 4 := by
        unfold decodeErr; rw [if_neg (by simp [Hbk.out]), if_neg (by simp at h1; omega), if_pos (.inr hpa)]
      unfold decOut
      rw [if_neg (by omega), e1]
      go_ret3
      exact ⟨Slices2.err, by (repeat (first | exact Below.refl _ _ | refine Below.alloc ?_ (by first | omega | (simp; done) | (simp; omega)) _ | refine Below.drew ?_ | refine Below.setCell ?_ (by first | omega | (simp; done) | (simp; omega)) _ | refine Below.trans ?_ (Below.mono (by assumption) (by first | omega | (simp; done) | (simp; omega)))))⟩
    · have h1 : (!decide (0 ≤ day)) = false ∧ (!decide (day ≤ (ds.length : Int) - 1)) = false := by assumption
      have h2 : 1 ≤ (l.length : Int) - 1 ∧ (l.length : Int) - 1 ≤ 11 := by assumption
      have hday : 0 ≤ day ∧ day < (ds.length : Int) := by simp at h1; omega
      obtain ⟨d, rfl⟩ := Int.eq_ofNat_of_zero_le hday.1
      have hdl : d < ds.length := by omega
      have E0 : Hid (decodeErr s wo ks ds d l = if l.getD 0 0 ≠ indN ks ds d then 8 else if l.getD (l.length - 1) 0 ≠ checkN s (l.take (l.length - 1)) then 11 else 0) := by
        show decodeErr s wo ks ds d l = _
        unfold decodeErr; rw [if_neg (by simp [Hbk.out]), if_neg (by simp at h1; omega), if_neg (by rw [hpa]; simp; omega)]
      have Hall := Lib.hid hpa
      clear hpa h1
      obtain ⟨h2a, h2b⟩ := h2
      have hl2 : 2 ≤ l.length := by omega
      have hBox1 : Below (w.heap.size + 1) (w.alloc (.cells #[.int .i64 s, .int .i64 wo, .slice ak ks.length ck, .slice ad ds.length cd] 49)) w1 := by (repeat (first | exact Below.refl _ _ | refine Below.alloc ?_ (by first | omega | (simp; done) | (simp; omega)) _ | refine Below.drew ?_ | refine Below.setCell ?_ (by first | omega | (simp; done) | (simp; omega)) _ | refine Below.trans ?_ (Below.mono (by assumption) (by first | omega | (simp; done) | (simp; omega)))))
      have hwB : Below w.heap.size w w1 := by (repeat (first | exact Below.refl _ _ | refine Below.alloc ?_ (by first | omega | (simp; done) | (simp; omega)) _ | refine Below.drew ?_ | refine Below.setCell ?_ (by first | omega | (simp; done) | (simp; omega)) _ | refine Below.trans ?_ (Below.mono (by assumption) (by first | omega | (simp; done) | (simp; omega)))))
      have hdom : ∀ x ∈ ds, 0 ≤ x ∧ x ≤ 1000 := fun x hx => by have := List.all_eq_true.1 Hda.out x hx; simp [ownOk] at this; omega
      have hlm : ∀ x ∈ l, 0 ≤ x ∧ x ≤ 1000 := fun x hx => by have := List.all_eq_true.1 Hall.out x hx; simp [plainOk] at this; omega
      obtain ⟨b3, off3, hale, hb3, hc0⟩ := (hl.below hwB) 0 (by omega)
      have hc0' : w1.cell? ⟨b3, off3, none⟩ = some (.int .i64 l[0]) := by rw [Nat.add_zero] at hc0; rw [hc0]; simp [show 0 < l.length by omega]
      have hll : (0 : Int) < (l.length : Int) := by omega
      subst hale
      have hiv : indN ks ds (d : Int) = (ds[d] + (d : Int)) % ks.length := by simp [indN, hdl]
      have Hiv := Lib.hid hiv
      clear hiv hc0
      (refine wp_region_ext 8 (by kernel_rfl) (by kernel_rfl) ?_; simp only [List.take_succ_cons, List.take_zero, List.drop_succ_cons, List.drop_zero]; (repeat (go_big_quiet_step ((go_at_call 41; exact Calls_ext (indicator_any s wo _ ks ck _ ds cd d _ (hk.below (hwB.trans ((Ext.below _).mono hwB.size))) (hd.below (hwB.trans ((Ext.below _).mono hwB.size))) lk ld hdl k0 hdom))))); refine wpQuiet_nil ?_; rintro w2 ⟨⟨_, hex⟩, rfl⟩; (try dsimp only); obtain ⟨hc1, hf1, hz1⟩ := bcell hex; (try simp at hz1); (try (have hy0 : w.heap.size < w2.heap.size := by omega)); (try (have hy1 : w.heap.size + 1 < w2.heap.size := by omega)); (try (have hy2 : w.heap.size + 2 < w2.heap.size := by omega)))
      go_wp2
      · have h3 : (l[0] != (ds[d] + (d : Int)) % (ks.length : Int)) = true := by assumption
        have e1 : decodeErr s wo ks ds d l = 8 := by
          rw [E0.out, if_pos]
          rw [Hiv.out]
          simpa [show 0 < l.length by omega] using h3
        unfold decOut
        rw [if_neg (by omega), e1]
        go_ret3
        exact ⟨Slices2.err, by (repeat (first | exact Below.refl _ _ | refine Below.alloc ?_ (by first | omega | (simp; done) | (simp; omega)) _ | refine Below.drew ?_ | refine Below.setCell ?_ (by first | omega | (simp; done) | (simp; omega)) _ | refine Below.trans ?_ (Below.mono (by assumption) (by first | omega | (simp; done) | (simp; omega)))))⟩
      · have h3 : (l[0] != (ds[d] + (d : Int)) % (ks.length : Int)) = false := by assumption
        have E1 : Hid (decodeErr s wo ks ds d l = if l.getD (l.length - 1) 0 ≠ checkN s (l.take (l.length - 1)) then 11 else 0) := by
          show decodeErr s wo ks ds d l = _
          rw [E0.out, if_neg]
          rw [Hiv.out]
          simpa [show 0 < l.length by omega] using h3
        clear h3
        have hwB2 : Below w.heap.size w w2 := hwB.trans (hex.mono hwB.size)
        have hB12 := hex
        have hy1w : w.heap.size + 1 ≤ w1.heap.size := by omega
        have hy2w : w.heap.size + 1 ≤ w2.heap.size := by omega
        have hb32 : b3 < w2.heap.size := by omega
        obtain ⟨b4, off4, h44, hb4, hc4⟩ := (hl.below hwB) (l.length - 1) (by omega)
        simp only [Option.some.injEq, Addr.mk.injEq, and_true] at h44
        obtain ⟨rfl, rfl⟩ := h44
        have hc4' : w1.cell? ⟨b3, off3 + (l.length - 1), none⟩ = some (.int .i64 l[l.length - 1]) := by rw [hc4]; simp [show l.length - 1 < l.length by omega]
        clear hc4
        have htk : l.length - 1 ≤ l.length := by omega
        have hsub := IntsAt.sub (hl.below hwB2) 0 (l.length - 1) (by omega)
        rw [Nat.add_zero, List.drop_zero] at hsub
        have hsl : (l.take (l.length - 1)).length = l.length - 1 := by simp
        have Hsl := Lib.hid hsl
        clear hsl
        (refine wp_region_ext 10 (by kernel_rfl) (by kernel_rfl) ?_; simp only [List.take_succ_cons, List.take_zero, List.drop_succ_cons, List.drop_zero]; (repeat (go_big_quiet_step ((go_at_call 44; exact Calls_ext (check_len s wo _ _ (some ⟨b3, off3, none⟩) (l.take (l.length - 1)) (l.length - 1) cl _ Hsl.out (by omega) (by omega) (hsub.below (Ext.below _)) (by omega) (fun x hx => hlm x (List.mem_of_mem_take hx))))))); refine wpQuiet_nil ?_; rintro w3 ⟨⟨_, hex⟩, rfl⟩; (try dsimp only); obtain ⟨hc1, hf1, hz1⟩ := bcell hex; (try simp at hz1); (try (have hy0 : w.heap.size < w3.heap.size := by omega)); (try (have hy1 : w.heap.size + 1 < w3.heap.size := by omega)); (try (have hy2 : w.heap.size + 2 < w3.heap.size := by omega)))
        go_wp2
        · have h3 : (l[l.length - 1] != checkN s (l.take (l.length - 1))) = true := by assumption
          have e1 : decodeErr s wo ks ds d l = 11 := by
            rw [E1.out, if_pos]
            simpa [show l.length - 1 < l.length by omega] using h3
          unfold decOut
          rw [if_neg (by omega), e1]
          go_ret3
          exact ⟨Slices2.err, by (repeat (first | exact Below.refl _ _ | refine Below.alloc ?_ (by first | omega | (simp; done) | (simp; omega)) _ | refine Below.drew ?_ | refine Below.setCell ?_ (by first | omega | (simp; done) | (simp; omega)) _ | refine Below.trans ?_ (Below.mono (by assumption) (by first | omega | (simp; done) | (simp; omega)))))⟩
        · have h3 : (l[l.length - 1] != checkN s (l.take (l.length - 1))) = false := by assumption
          have e1 : decodeErr s wo ks ds d l = 0 := by
            rw [E1.out, if_neg]
            simpa [show l.length - 1 < l.length by omega] using h3
          have E2 := Lib.hid e1
          clear h3 e1
          have hwB3 : Below w.heap.size w w3 := hwB2.trans (hex.mono hwB2.size)
          have hB23 := hex
          have hy3w : w.heap.size + 1 ≤ w3.heap.size := by omega
          obtain ⟨b, off, hade, hbl, hcd0⟩ := (hd.below hwB) d hdl
          have hdm := List.all_eq_true.1 Hda.out ds[d] (List.getElem_mem hdl)
          obtain ⟨kk, hkk⟩ : ∃ kk : Nat, ds[d] = (kk : Int) := ⟨ds[d].toNat, by simp [ownOk] at hdm; omega⟩
          have hkl : kk < ks.length := by simp [ownOk] at hdm; omega
          obtain ⟨b2, off2, hake, hbl2, hk0, hk1, hk2⟩ := (hk.below hwB) kk hkl
          have hcd : w1.cell? ⟨b, off + d, none⟩ = some (.int .i64 (kk : Int)) := by rw [hcd0, ← hkk]; simp [hdl]
          have hko := List.all_eq_true.1 Hka.out ks[kk] (List.getElem_mem hkl)
          have hkv : keyAt ks ds (d : Int) = ks[kk] := by simp [keyAt, hdl, hkk, hkl]
          obtain ⟨⟨m, a, st⟩, hkey⟩ : ∃ q : Int × Int × Int, ks[kk] = q := ⟨_, rfl⟩
          rw [hkey] at hk0 hk1 hk2 hko hkv
          have Hkv := Lib.hid hkv
          clear hkv hcd0 hkk hdm hkey
          have hkI : (kk : Int) < (ks.length : Int) := by omega
          have hdI : (d : Int) < (ds.length : Int) := by omega
          have z1 : b < w2.heap.size := by omega
          have z2 : b < w3.heap.size := by omega
          have z3 : b2 < w2.heap.size := by omega
          have z4 : b2 < w3.heap.size := by omega
          have hcl1 : ¬ cl = 1 := by omega
          have hsub2 := IntsAt.sub (hl.below hwB3) 1 (l.length - 2) (by omega)
          have hsl2 : Hid (((l.drop 1).take (l.length - 2)).length = l.length - 1 - 1) := by show _ = _; simp; omega
          have hF : ∀ (j : Nat) (hj : j < ((l.drop 1).take (l.length - 2)).length) (w1 : World), Calls Try.prog 33 #[.agg #[.int .i64 s, .int .i64 wo, .slice ak ks.length ck, .slice ad ds.length cd], .agg #[.int .i64 m, .int .i64 a, .int .i64 st], .int .i64 ((l.drop 1).take (l.length - 2))[j], .int .i64 j] w1 fun e w' => e = .returned (.int .i64 (decodeN s m a st (l.getD (j + 1) 0) j)) ∧ Below w1.heap.size w1 w' := by
            intro j hj w1
            have hj' : j + 1 < l.length := by simp at hj; omega
            have e1 : ((l.drop 1).take (l.length - 2))[j] = l[j + 1] := by simp [Nat.add_comm]
            have e2 : l.getD (j + 1) 0 = l[j + 1] := by simp [hj']
            rw [e1, e2]
            have hx := List.all_eq_true.1 Hall.out l[j + 1] (List.getElem_mem hj')
            simp [keyOk, plainOk] at hko hx
            exact decode_any s wo m a st l[j + 1] j _ _ w1 (by omega) (by omega) (by omega) (by omega) (by omega) (by omega) (by omega) (by omega) (by omega) (by omega) (by omega) (by omega)
          subst hade hake
          clear hc4' E0 E1
          (refine wp_region_ext 14 (by kernel_rfl) (by kernel_rfl) ?_; simp only [List.take_succ_cons, List.take_zero, List.drop_succ_cons, List.drop_zero]; (repeat (go_big_quiet_step ((fail)))); refine wpQuiet_nil ?_; rintro w4 ⟨⟨_, hex⟩, rfl⟩; (try dsimp only); obtain ⟨hc1, hf1, hz1⟩ := bcell hex; (try simp at hz1); (try (have hy0 : w.heap.size < w4.heap.size := by omega)); (try (have hy1 : w.heap.size + 1 < w4.heap.size := by omega)); (try (have hy2 : w.heap.size + 2 < w4.heap.size := by omega)))
          have hy4w : w.heap.size + 1 ≤ w4.heap.size := by omega
          go_wp2_with fail
          refine (turned_len s wo m a st _ ks.length ck _ ds.length cd 33 _ (some ⟨b3, off3 + 1, none⟩) _ _ _ _ hsl2.out (hsub2.below hex) (by omega) (enters Try.func33 (by kernel_rfl) rfl) hF).mono ?_
          rintro e w5 ⟨a5, c5, rfl, o5, hb5⟩
          obtain ⟨L, hL⟩ : ∃ L, upTo (fun j => decodeN s m a st (l.getD (j + 1) 0) j) (l.length - 1 - 1) = L := ⟨_, rfl⟩
          rw [hL] at o5
          rw [hL]
          have hres : decOut s wo ks ds d l = L := by
            unfold decOut decPlain
            rw [if_pos E2.out, Hkv.out, ← hL]
            rfl
          have Hres := Lib.hid hres
          have hLl : L.length ≤ 1000 := by rw [← hL, upTo_len]; omega
          clear hres hL hsub2 hF
          have hwB4 : Below w.heap.size w w4 := hwB3.trans (hex.mono hwB3.size)
          have hwB5 : Below w.heap.size w w5 := hwB4.trans (hb5.mono hwB4.size)
          have hBox := (((hBox1.trans (hB12.mono hy1w)).trans (hB23.mono hy2w)).trans (hex.mono hy3w)).trans (hb5.mono hy4w)
          have hbx : w5.cell? ⟨w.heap.size, 1, none⟩ = some (.int .i64 wo) := by
            refine (hBox.cell (p := ⟨w.heap.size, 1, none⟩) (Nat.lt_succ_self _)).trans ?_
            rw [World.cell?_alloc_at _ _ _ _ rfl]; rfl
          have hs5 : w.heap.size < w5.heap.size := by have := hBox.size; simp at this; omega
          go_wp2_with fail
          refine (clone_any a5 L c5 w5 o5.ints.1 (fun h => by subst h; have := o5.isnil; exact ⟨List.eq_nil_of_length_eq_zero this.1, this.2⟩) (by omega)).mono ?_
          rintro e w6 ⟨a6, c6, rfl, o6, hb6⟩
          have hs6 := hb6.size
          go_wp2_with fail
          refine (deleteFunc_any a6 L c6 w5.heap.size 47 #[] #[.pointer (some ⟨w.heap.size, 0, none⟩)] (fun n => decide (wo ≤ n)) w6 (by omega) hs6 o6 (enters Try.func47 (by kernel_rfl) rfl) (fun x _ w7 h7 => null_any w.heap.size x wo w7 (((hb6.trans h7).cell (p := ⟨w.heap.size, 1, none⟩) hs5).trans hbx))).mono ?_
          rintro e w7 ⟨a7, c7, rfl, o7, hb7⟩
          go_wp2
          go_ret3
          have hb57 : Below w5.heap.size w5 w7 := hb6.trans hb7
          rw [Hres.out, E2.out]
          exact ⟨⟨a5, c5, a7, c7, rfl, (o5.kept hb57).base_le hwB4.size, o7.base_le hwB5.size⟩, hwB5.trans (hb57.mono hwB5.size)⟩
    · have h1 : (!decide (0 ≤ day)) = false ∧ (!decide (day ≤ (ds.length : Int) - 1)) = false := by assumption
      have h2 : ¬ (1 ≤ (l.length : Int) - 1 ∧ (l.length : Int) - 1 ≤ 11) := by assumption
      have e1 : decodeErr s wo ks ds day l = 4 := by
        unfold decodeErr; rw [if_neg (by simp [Hbk.out]), if_neg (by simp at h1; omega), if_pos (.inl h2)]
      unfold decOut
      rw [if_neg (by omega), e1]
      go_ret3
      exact ⟨Slices2.err, by (repeat (first | exact Below.refl _ _ | refine Below.alloc ?_ (by first | omega | (simp; done) | (simp; omega)) _ | refine Below.drew ?_ | refine Below.setCell ?_ (by first | omega | (simp; done) | (simp; omega)) _ | refine Below.trans ?_ (Below.mono (by assumption) (by first | omega | (simp; done) | (simp; omega)))))⟩
  · have Hbk := Lib.hid hbk
    have e1 : decodeErr s wo ks ds day l = bookErr s wo ks ds := by unfold decodeErr; rw [if_pos hbk]
    have e2 : decOut s wo ks ds day l = [] := by unfold decOut; rw [if_neg (by rw [e1]; exact hbk)]
    rw [e1, e2]
    clear e1 e2
    have hne : (bookErr s wo ks ds != 0) = true := by simpa using hbk
    clear hbk
    go_enter Try.func20, Try.ntmps20
    go_wp2_with (go_at_call 37; refine (checkBook_any s wo ak ks ck ad ds cd _ (hk.below (by (repeat (first | exact Below.refl _ _ | refine Below.alloc ?_ (by first | omega | (simp; done) | (simp; omega)) _ | refine Below.drew ?_ | refine Below.setCell ?_ (by first | omega | (simp; done) | (simp; omega)) _ | refine Below.trans ?_ (Below.mono (by assumption) (by first | omega | (simp; done) | (simp; omega))))))) (hd.below (by (repeat (first | exact Below.refl _ _ | refine Below.alloc ?_ (by first | omega | (simp; done) | (simp; omega)) _ | refine Below.drew ?_ | refine Below.setCell ?_ (by first | omega | (simp; done) | (simp; omega)) _ | refine Below.trans ?_ (Below.mono (by assumption) (by first | omega | (simp; done) | (simp; omega))))))) lk ld).mono ?_; rintro e w1 ⟨rfl, hb1⟩; obtain ⟨hc1, hf1, hz1⟩ := bcell hb1; (try simp at hz1); (try (have hy0 : w.heap.size < w1.heap.size := by omega)); (try (have hy1 : w.heap.size + 1 < w1.heap.size := by omega)); (try (have hy2 : w.heap.size + 2 < w1.heap.size := by omega)))
    go_ret3
    exact ⟨Slices2.err, by (repeat (first | exact Below.refl _ _ | refine Below.alloc ?_ (by first | omega | (simp; done) | (simp; omega)) _ | refine Below.drew ?_ | refine Below.setCell ?_ (by first | omega | (simp; done) | (simp; omega)) _ | refine Below.trans ?_ (Below.mono (by assumption) (by first | omega | (simp; done) | (simp; omega)))))⟩
end Go.Proofs.Ytnofcpihkglmmaa

namespace Go.Proofs.Ytnofcpihkglmmaa
set_option linter.unusedVariables false
set_option linter.unusedSimpArgs false
set_option linter.unnecessarySimpa false
open Go.RowKit Go.Flow

end Go.Proofs.Ytnofcpihkglmmaa

namespace Go.Proofs.Ytnofcpihkglmmaa
set_option linter.unusedVariables false
set_option linter.unusedSimpArgs false
set_option linter.unnecessarySimpa false
open Go.RowKit Go.Flow

end Go.Proofs.Ytnofcpihkglmmaa
