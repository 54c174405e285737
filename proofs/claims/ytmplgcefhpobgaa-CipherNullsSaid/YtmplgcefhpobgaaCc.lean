/- slices.IndexFunc, slices.ContainsFunc and cipher's all, over whatever predicate -/
import Derived.Test.YtmplgcefhpobgaaCb
namespace Go.Proofs.Ytmplgcefhpobgaa
set_option linter.unusedVariables false
set_option linter.unusedSimpArgs false
set_option linter.unnecessarySimpa false
open Go.RowKit Go.Flow

set_option maxRecDepth 100000 in
set_option maxHeartbeats 400000 in
theorem indexFunc_int (a : Option Addr) (xs : List Int) (c : Nat) (g : FuncId) (first cap : Array Value) (p : Int → Bool) (w : World) (hl : xs.length ≤ 9223372036854775807) (hx : IntsAt w a xs)
    (hg : ∀ args w, Sem.run Try.prog (callFunc g args) w = .ok (.enter g args) w) (hp : ∀ x ∈ xs, Meets Try.prog w g first cap (.int .i64 x) (p x)) :
    Calls Try.prog 90 #[.slice a xs.length c, .func (.func g) first cap] w fun e w' => e = .returned (.int .i64 (idxBy p xs 0)) ∧ Below w.heap.size w w' := by
  go_enter Try.func90, Try.ntmps90
  go_wp2
  go_loopw [5, 8] (fun _ i wr => ∃ k : Nat, k ≤ xs.length ∧ i = .int .i64 k ∧ Below w.heap.size w wr ∧ idxBy p xs 0 = idxBy p (xs.drop k) k) (fun _ i _ => xs.length - (intOf i).toNat)
  case atStart => exact ⟨0, Nat.zero_le _, rfl, Below.refl _ _, by simp⟩
  case round =>
    obtain ⟨k, hk, rfl, hb, hi⟩ := hrel
    have Hi := Lib.hid hi
    clear hi
    by_cases hlt : k < xs.length
    · obtain ⟨b, off, rfl, hbl, hc⟩ := hx k hlt
      have hc' : wr.cell? ⟨b, off + k, none⟩ = some (.int .i64 (xs.getD k 0)) := (hb.cell (p := ⟨b, off + k, none⟩) hbl).trans hc
      clear hc
      have hm := hp xs[k] (List.getElem_mem hlt)
      go_wp2_with (refine (hm wr hb).mono ?_; rintro e w1 ⟨rfl, hb1⟩)
      · have h1 : p xs[k] = true := by assumption
        go_ret
        exact ⟨by rw [Hi.out, idxBy_hit p xs k hlt h1]; rfl, hb.trans (hb1.mono hb.size)⟩
      · have h1 : p xs[k] = false := by assumption
        go_roundw
        case rel => exact ⟨k + 1, by omega, by go_num, hb.trans (hb1.mono hb.size), by rw [Hi.out, idxBy_miss p xs k hlt h1]⟩
        case measure => simp [intOf]; omega
    · go_wp2
      go_ret
      exact ⟨by rw [Hi.out, idxBy_end p xs k k (by omega)]; rfl, hb⟩

set_option maxHeartbeats 400000 in
theorem containsFunc_int (a : Option Addr) (xs : List Int) (c : Nat) (g : FuncId) (first cap : Array Value) (p : Int → Bool) (w : World) (hl : xs.length ≤ 9223372036854775807) (hx : IntsAt w a xs)
    (hg : ∀ args w, Sem.run Try.prog (callFunc g args) w = .ok (.enter g args) w) (hp : ∀ x ∈ xs, Meets Try.prog w g first cap (.int .i64 x) (p x)) :
    Calls Try.prog 85 #[.slice a xs.length c, .func (.func g) first cap] w fun e w' => e = .returned (.bool (xs.any p)) ∧ Below w.heap.size w w' := by
  rw [← idxBy_any p xs 0]
  have hi := idxBy_le p xs 0
  go_enter Try.func85, Try.ntmps85
  go_wp2_with (go_at_call 90; refine (indexFunc_int a xs c g first cap p w hl hx hg hp).mono ?_; rintro e w1 ⟨rfl, hb1⟩; obtain ⟨hc1, hf1, hz1⟩ := bcell hb1; (try simp at hz1); (try (have hy0 : w.heap.size < w1.heap.size := by omega)); (try (have hy1 : w.heap.size + 1 < w1.heap.size := by omega)); (try (have hy2 : w.heap.size + 2 < w1.heap.size := by omega)))
  go_ret
  exact ⟨rfl, hb1⟩

set_option maxHeartbeats 400000 in
theorem allNot_int (x : Int) (B : Nat) (g : FuncId) (first cap : Array Value) (q : Bool) (w : World) (hB : B < w.heap.size) (hc : w.cell? ⟨B, 0, none⟩ = some (.func (.func g) first cap))
    (hg : ∀ args w, Sem.run Try.prog (callFunc g args) w = .ok (.enter g args) w) (hm : Meets Try.prog w g first cap (.int .i64 x) q) : Meets Try.prog w 86 #[] #[.pointer (some ⟨B, 0, none⟩)] (.int .i64 x) !q := by
  intro w' hb'
  have hc' : w'.cell? ⟨B, 0, none⟩ = some (.func (.func g) first cap) := (hb'.cell (p := ⟨B, 0, none⟩) hB).trans hc
  have hBw : B < w'.heap.size := Nat.lt_of_lt_of_le hB hb'.size
  clear hc
  show Calls Try.prog 86 #[.int .i64 x, .pointer (some ⟨B, 0, none⟩)] w' _
  go_enter Try.func86, Try.ntmps86
  go_wp2_with (refine (hm _ hb').mono ?_; rintro e w1 ⟨rfl, hb1⟩)
  go_ret
  exact ⟨rfl, hb1⟩

set_option maxHeartbeats 400000 in
theorem all_int (a : Option Addr) (xs : List Int) (c : Nat) (g : FuncId) (first cap : Array Value) (p : Int → Bool) (w : World) (hl : xs.length ≤ 9223372036854775807) (hx : IntsAt w a xs)
    (hg : ∀ args w, Sem.run Try.prog (callFunc g args) w = .ok (.enter g args) w) (hp : ∀ x ∈ xs, Meets Try.prog w g first cap (.int .i64 x) (p x)) :
    Calls Try.prog 54 #[.slice a xs.length c, .func (.func g) first cap] w fun e w' => e = .returned (.bool (xs.all p)) ∧ Below w.heap.size w w' := by
  have e1 : xs.all p = !(xs.any fun x => !p x) := by rw [List.all_eq_not_any_not]
  rw [e1]
  have hb0 : Below w.heap.size w (w.alloc (.cells #[.func (.func g) first cap] 93)) := (Below.refl _ _).alloc (Nat.le_refl _) _
  go_enter Try.func54, Try.ntmps54
  go_wp2_with (go_at_call 85; refine (containsFunc_int a xs c 86 #[] #[.pointer (some ⟨w.heap.size, 0, none⟩)] (fun x => !p x) _ hl (hx.below hb0) (enters Try.func86 (by kernel_rfl) rfl) (fun x hxx => allNot_int x w.heap.size g first cap (p x) _ (by simp) (by rw [World.cell?_alloc_at _ _ _ _ rfl]; rfl) hg ((hp x hxx).below hb0))).mono ?_; rintro e w1 ⟨rfl, hb1⟩; obtain ⟨hc1, hf1, hz1⟩ := bcell hb1; (try simp at hz1); (try (have hy0 : w.heap.size < w1.heap.size := by omega)); (try (have hy1 : w.heap.size + 1 < w1.heap.size := by omega)); (try (have hy2 : w.heap.size + 2 < w1.heap.size := by omega)))
  go_ret
  exact ⟨by simp, hb0.trans (hb1.mono (by simp))⟩

set_option maxRecDepth 100000 in
set_option maxHeartbeats 400000 in
theorem indexFunc_key (a : Option Addr) (xs : List (Int × Int × Int)) (c : Nat) (g : FuncId) (first cap : Array Value) (p : (Int × Int × Int) → Bool) (w : World) (hl : xs.length ≤ 9223372036854775807) (hx : Recs3At w a xs)
    (hg : ∀ args w, Sem.run Try.prog (callFunc g args) w = .ok (.enter g args) w) (hp : ∀ x ∈ xs, Meets Try.prog w g first cap (.agg #[.int .i64 x.1, .int .i64 x.2.1, .int .i64 x.2.2]) (p x)) :
    Calls Try.prog 99 #[.slice a xs.length c, .func (.func g) first cap] w fun e w' => e = .returned (.int .i64 (idxBy p xs 0)) ∧ Below w.heap.size w w' := by
  go_enter Try.func99, Try.ntmps99
  go_wp2
  go_loopw [5, 8] (fun _ i wr => ∃ k : Nat, k ≤ xs.length ∧ i = .int .i64 k ∧ Below w.heap.size w wr ∧ idxBy p xs 0 = idxBy p (xs.drop k) k) (fun _ i _ => xs.length - (intOf i).toNat)
  case atStart => exact ⟨0, Nat.zero_le _, rfl, Below.refl _ _, by simp⟩
  case round =>
    obtain ⟨k, hk, rfl, hb, hi⟩ := hrel
    have Hi := Lib.hid hi
    clear hi
    by_cases hlt : k < xs.length
    · obtain ⟨b, off, rfl, hbl, h0, h1, h2⟩ := hx k hlt
      have h0' := (hb.cell (p := ⟨b, off + k * 3, none⟩) hbl).trans h0
      have h1' := (hb.cell (p := ⟨b, off + k * 3 + 1, none⟩) hbl).trans h1
      have h2' := (hb.cell (p := ⟨b, off + k * 3 + 2, none⟩) hbl).trans h2
      clear h0 h1 h2
      have hm := hp xs[k] (List.getElem_mem hlt)
      go_wp2_with (refine (hm wr hb).mono ?_; rintro e w1 ⟨rfl, hb1⟩)
      · have h1 : p xs[k] = true := by assumption
        go_ret
        exact ⟨by rw [Hi.out, idxBy_hit p xs k hlt h1]; rfl, hb.trans (hb1.mono hb.size)⟩
      · have h1 : p xs[k] = false := by assumption
        go_roundw
        case rel => exact ⟨k + 1, by omega, by go_num, hb.trans (hb1.mono hb.size), by rw [Hi.out, idxBy_miss p xs k hlt h1]⟩
        case measure => simp [intOf]; omega
    · go_wp2
      go_ret
      exact ⟨by rw [Hi.out, idxBy_end p xs k k (by omega)]; rfl, hb⟩

set_option maxHeartbeats 400000 in
theorem containsFunc_key (a : Option Addr) (xs : List (Int × Int × Int)) (c : Nat) (g : FuncId) (first cap : Array Value) (p : (Int × Int × Int) → Bool) (w : World) (hl : xs.length ≤ 9223372036854775807) (hx : Recs3At w a xs)
    (hg : ∀ args w, Sem.run Try.prog (callFunc g args) w = .ok (.enter g args) w) (hp : ∀ x ∈ xs, Meets Try.prog w g first cap (.agg #[.int .i64 x.1, .int .i64 x.2.1, .int .i64 x.2.2]) (p x)) :
    Calls Try.prog 83 #[.slice a xs.length c, .func (.func g) first cap] w fun e w' => e = .returned (.bool (xs.any p)) ∧ Below w.heap.size w w' := by
  rw [← idxBy_any p xs 0]
  have hi := idxBy_le p xs 0
  go_enter Try.func83, Try.ntmps83
  go_wp2_with (go_at_call 99; refine (indexFunc_key a xs c g first cap p w hl hx hg hp).mono ?_; rintro e w1 ⟨rfl, hb1⟩; obtain ⟨hc1, hf1, hz1⟩ := bcell hb1; (try simp at hz1); (try (have hy0 : w.heap.size < w1.heap.size := by omega)); (try (have hy1 : w.heap.size + 1 < w1.heap.size := by omega)); (try (have hy2 : w.heap.size + 2 < w1.heap.size := by omega)))
  go_ret
  exact ⟨rfl, hb1⟩

set_option maxHeartbeats 400000 in
theorem allNot_key (x : (Int × Int × Int)) (B : Nat) (g : FuncId) (first cap : Array Value) (q : Bool) (w : World) (hB : B < w.heap.size) (hc : w.cell? ⟨B, 0, none⟩ = some (.func (.func g) first cap))
    (hg : ∀ args w, Sem.run Try.prog (callFunc g args) w = .ok (.enter g args) w) (hm : Meets Try.prog w g first cap (.agg #[.int .i64 x.1, .int .i64 x.2.1, .int .i64 x.2.2]) q) : Meets Try.prog w 84 #[] #[.pointer (some ⟨B, 0, none⟩)] (.agg #[.int .i64 x.1, .int .i64 x.2.1, .int .i64 x.2.2]) !q := by
  intro w' hb'
  have hc' : w'.cell? ⟨B, 0, none⟩ = some (.func (.func g) first cap) := (hb'.cell (p := ⟨B, 0, none⟩) hB).trans hc
  have hBw : B < w'.heap.size := Nat.lt_of_lt_of_le hB hb'.size
  clear hc
  show Calls Try.prog 84 #[.agg #[.int .i64 x.1, .int .i64 x.2.1, .int .i64 x.2.2], .pointer (some ⟨B, 0, none⟩)] w' _
  go_enter Try.func84, Try.ntmps84
  go_wp2_with (refine (hm _ (hb'.trans ((Below.refl _ _).alloc hb'.size _) )).mono ?_; rintro e w1 ⟨rfl, hb1⟩)
  go_ret
  exact ⟨rfl, ((Below.refl _ _).alloc (Nat.le_refl _) _).trans (hb1.mono (by simp))⟩

set_option maxHeartbeats 400000 in
theorem all_key (a : Option Addr) (xs : List (Int × Int × Int)) (c : Nat) (g : FuncId) (first cap : Array Value) (p : (Int × Int × Int) → Bool) (w : World) (hl : xs.length ≤ 9223372036854775807) (hx : Recs3At w a xs)
    (hg : ∀ args w, Sem.run Try.prog (callFunc g args) w = .ok (.enter g args) w) (hp : ∀ x ∈ xs, Meets Try.prog w g first cap (.agg #[.int .i64 x.1, .int .i64 x.2.1, .int .i64 x.2.2]) (p x)) :
    Calls Try.prog 53 #[.slice a xs.length c, .func (.func g) first cap] w fun e w' => e = .returned (.bool (xs.all p)) ∧ Below w.heap.size w w' := by
  have e1 : xs.all p = !(xs.any fun x => !p x) := by rw [List.all_eq_not_any_not]
  rw [e1]
  have hb0 : Below w.heap.size w (w.alloc (.cells #[.func (.func g) first cap] 92)) := (Below.refl _ _).alloc (Nat.le_refl _) _
  go_enter Try.func53, Try.ntmps53
  go_wp2_with (go_at_call 83; refine (containsFunc_key a xs c 84 #[] #[.pointer (some ⟨w.heap.size, 0, none⟩)] (fun x => !p x) _ hl (hx.below hb0) (enters Try.func84 (by kernel_rfl) rfl) (fun x hxx => allNot_key x w.heap.size g first cap (p x) _ (by simp) (by rw [World.cell?_alloc_at _ _ _ _ rfl]; rfl) hg ((hp x hxx).below hb0))).mono ?_; rintro e w1 ⟨rfl, hb1⟩; obtain ⟨hc1, hf1, hz1⟩ := bcell hb1; (try simp at hz1); (try (have hy0 : w.heap.size < w1.heap.size := by omega)); (try (have hy1 : w.heap.size + 1 < w1.heap.size := by omega)); (try (have hy2 : w.heap.size + 2 < w1.heap.size := by omega)))
  go_ret
  exact ⟨by simp, hb0.trans (hb1.mono (by simp))⟩

set_option maxRecDepth 100000 in
set_option maxHeartbeats 400000 in
theorem indexFunc_loss (a : Option Addr) (xs : List (Int × Int)) (c : Nat) (g : FuncId) (first cap : Array Value) (p : (Int × Int) → Bool) (w : World) (hl : xs.length ≤ 9223372036854775807) (hx : Recs2At w a xs)
    (hg : ∀ args w, Sem.run Try.prog (callFunc g args) w = .ok (.enter g args) w) (hp : ∀ x ∈ xs, Meets Try.prog w g first cap (.agg #[.int .i64 x.1, .int .i64 x.2]) (p x)) :
    Calls Try.prog 105 #[.slice a xs.length c, .func (.func g) first cap] w fun e w' => e = .returned (.int .i64 (idxBy p xs 0)) ∧ Below w.heap.size w w' := by
  go_enter Try.func105, Try.ntmps105
  go_wp2
  go_loopw [5, 8] (fun _ i wr => ∃ k : Nat, k ≤ xs.length ∧ i = .int .i64 k ∧ Below w.heap.size w wr ∧ idxBy p xs 0 = idxBy p (xs.drop k) k) (fun _ i _ => xs.length - (intOf i).toNat)
  case atStart => exact ⟨0, Nat.zero_le _, rfl, Below.refl _ _, by simp⟩
  case round =>
    obtain ⟨k, hk, rfl, hb, hi⟩ := hrel
    have Hi := Lib.hid hi
    clear hi
    by_cases hlt : k < xs.length
    · obtain ⟨b, off, rfl, hbl, h0, h1⟩ := hx k hlt
      have h0' := (hb.cell (p := ⟨b, off + k * 2, none⟩) hbl).trans h0
      have h1' := (hb.cell (p := ⟨b, off + k * 2 + 1, none⟩) hbl).trans h1
      clear h0 h1
      have hm := hp xs[k] (List.getElem_mem hlt)
      go_wp2_with (refine (hm wr hb).mono ?_; rintro e w1 ⟨rfl, hb1⟩)
      · have h1 : p xs[k] = true := by assumption
        go_ret
        exact ⟨by rw [Hi.out, idxBy_hit p xs k hlt h1]; rfl, hb.trans (hb1.mono hb.size)⟩
      · have h1 : p xs[k] = false := by assumption
        go_roundw
        case rel => exact ⟨k + 1, by omega, by go_num, hb.trans (hb1.mono hb.size), by rw [Hi.out, idxBy_miss p xs k hlt h1]⟩
        case measure => simp [intOf]; omega
    · go_wp2
      go_ret
      exact ⟨by rw [Hi.out, idxBy_end p xs k k (by omega)]; rfl, hb⟩

set_option maxHeartbeats 400000 in
theorem containsFunc_loss (a : Option Addr) (xs : List (Int × Int)) (c : Nat) (g : FuncId) (first cap : Array Value) (p : (Int × Int) → Bool) (w : World) (hl : xs.length ≤ 9223372036854775807) (hx : Recs2At w a xs)
    (hg : ∀ args w, Sem.run Try.prog (callFunc g args) w = .ok (.enter g args) w) (hp : ∀ x ∈ xs, Meets Try.prog w g first cap (.agg #[.int .i64 x.1, .int .i64 x.2]) (p x)) :
    Calls Try.prog 100 #[.slice a xs.length c, .func (.func g) first cap] w fun e w' => e = .returned (.bool (xs.any p)) ∧ Below w.heap.size w w' := by
  rw [← idxBy_any p xs 0]
  have hi := idxBy_le p xs 0
  go_enter Try.func100, Try.ntmps100
  go_wp2_with (go_at_call 105; refine (indexFunc_loss a xs c g first cap p w hl hx hg hp).mono ?_; rintro e w1 ⟨rfl, hb1⟩; obtain ⟨hc1, hf1, hz1⟩ := bcell hb1; (try simp at hz1); (try (have hy0 : w.heap.size < w1.heap.size := by omega)); (try (have hy1 : w.heap.size + 1 < w1.heap.size := by omega)); (try (have hy2 : w.heap.size + 2 < w1.heap.size := by omega)))
  go_ret
  exact ⟨rfl, hb1⟩

set_option maxHeartbeats 400000 in
theorem allNot_loss (x : (Int × Int)) (B : Nat) (g : FuncId) (first cap : Array Value) (q : Bool) (w : World) (hB : B < w.heap.size) (hc : w.cell? ⟨B, 0, none⟩ = some (.func (.func g) first cap))
    (hg : ∀ args w, Sem.run Try.prog (callFunc g args) w = .ok (.enter g args) w) (hm : Meets Try.prog w g first cap (.agg #[.int .i64 x.1, .int .i64 x.2]) q) : Meets Try.prog w 101 #[] #[.pointer (some ⟨B, 0, none⟩)] (.agg #[.int .i64 x.1, .int .i64 x.2]) !q := by
  intro w' hb'
  have hc' : w'.cell? ⟨B, 0, none⟩ = some (.func (.func g) first cap) := (hb'.cell (p := ⟨B, 0, none⟩) hB).trans hc
  have hBw : B < w'.heap.size := Nat.lt_of_lt_of_le hB hb'.size
  clear hc
  show Calls Try.prog 101 #[.agg #[.int .i64 x.1, .int .i64 x.2], .pointer (some ⟨B, 0, none⟩)] w' _
  go_enter Try.func101, Try.ntmps101
  go_wp2_with (refine (hm _ (hb'.trans ((Below.refl _ _).alloc hb'.size _) )).mono ?_; rintro e w1 ⟨rfl, hb1⟩)
  go_ret
  exact ⟨rfl, ((Below.refl _ _).alloc (Nat.le_refl _) _).trans (hb1.mono (by simp))⟩

set_option maxHeartbeats 400000 in
theorem all_loss (a : Option Addr) (xs : List (Int × Int)) (c : Nat) (g : FuncId) (first cap : Array Value) (p : (Int × Int) → Bool) (w : World) (hl : xs.length ≤ 9223372036854775807) (hx : Recs2At w a xs)
    (hg : ∀ args w, Sem.run Try.prog (callFunc g args) w = .ok (.enter g args) w) (hp : ∀ x ∈ xs, Meets Try.prog w g first cap (.agg #[.int .i64 x.1, .int .i64 x.2]) (p x)) :
    Calls Try.prog 92 #[.slice a xs.length c, .func (.func g) first cap] w fun e w' => e = .returned (.bool (xs.all p)) ∧ Below w.heap.size w w' := by
  have e1 : xs.all p = !(xs.any fun x => !p x) := by rw [List.all_eq_not_any_not]
  rw [e1]
  have hb0 : Below w.heap.size w (w.alloc (.cells #[.func (.func g) first cap] 136)) := (Below.refl _ _).alloc (Nat.le_refl _) _
  go_enter Try.func92, Try.ntmps92
  go_wp2_with (go_at_call 100; refine (containsFunc_loss a xs c 101 #[] #[.pointer (some ⟨w.heap.size, 0, none⟩)] (fun x => !p x) _ hl (hx.below hb0) (enters Try.func101 (by kernel_rfl) rfl) (fun x hxx => allNot_loss x w.heap.size g first cap (p x) _ (by simp) (by rw [World.cell?_alloc_at _ _ _ _ rfl]; rfl) hg ((hp x hxx).below hb0))).mono ?_; rintro e w1 ⟨rfl, hb1⟩; obtain ⟨hc1, hf1, hz1⟩ := bcell hb1; (try simp at hz1); (try (have hy0 : w.heap.size < w1.heap.size := by omega)); (try (have hy1 : w.heap.size + 1 < w1.heap.size := by omega)); (try (have hy2 : w.heap.size + 2 < w1.heap.size := by omega)))
  go_ret
  exact ⟨by simp, hb0.trans (hb1.mono (by simp))⟩

set_option maxRecDepth 100000 in
set_option maxHeartbeats 400000 in
theorem indexFunc_guess (a : Option Addr) (xs : List (Int × Int)) (c : Nat) (g : FuncId) (first cap : Array Value) (p : (Int × Int) → Bool) (w : World) (hl : xs.length ≤ 9223372036854775807) (hx : Recs2At w a xs)
    (hg : ∀ args w, Sem.run Try.prog (callFunc g args) w = .ok (.enter g args) w) (hp : ∀ x ∈ xs, Meets Try.prog w g first cap (.agg #[.int .i64 x.1, .int .i64 x.2]) (p x)) :
    Calls Try.prog 106 #[.slice a xs.length c, .func (.func g) first cap] w fun e w' => e = .returned (.int .i64 (idxBy p xs 0)) ∧ Below w.heap.size w w' := by
  go_enter Try.func106, Try.ntmps106
  go_wp2
  go_loopw [5, 8] (fun _ i wr => ∃ k : Nat, k ≤ xs.length ∧ i = .int .i64 k ∧ Below w.heap.size w wr ∧ idxBy p xs 0 = idxBy p (xs.drop k) k) (fun _ i _ => xs.length - (intOf i).toNat)
  case atStart => exact ⟨0, Nat.zero_le _, rfl, Below.refl _ _, by simp⟩
  case round =>
    obtain ⟨k, hk, rfl, hb, hi⟩ := hrel
    have Hi := Lib.hid hi
    clear hi
    by_cases hlt : k < xs.length
    · obtain ⟨b, off, rfl, hbl, h0, h1⟩ := hx k hlt
      have h0' := (hb.cell (p := ⟨b, off + k * 2, none⟩) hbl).trans h0
      have h1' := (hb.cell (p := ⟨b, off + k * 2 + 1, none⟩) hbl).trans h1
      clear h0 h1
      have hm := hp xs[k] (List.getElem_mem hlt)
      go_wp2_with (refine (hm wr hb).mono ?_; rintro e w1 ⟨rfl, hb1⟩)
      · have h1 : p xs[k] = true := by assumption
        go_ret
        exact ⟨by rw [Hi.out, idxBy_hit p xs k hlt h1]; rfl, hb.trans (hb1.mono hb.size)⟩
      · have h1 : p xs[k] = false := by assumption
        go_roundw
        case rel => exact ⟨k + 1, by omega, by go_num, hb.trans (hb1.mono hb.size), by rw [Hi.out, idxBy_miss p xs k hlt h1]⟩
        case measure => simp [intOf]; omega
    · go_wp2
      go_ret
      exact ⟨by rw [Hi.out, idxBy_end p xs k k (by omega)]; rfl, hb⟩

set_option maxHeartbeats 400000 in
theorem containsFunc_guess (a : Option Addr) (xs : List (Int × Int)) (c : Nat) (g : FuncId) (first cap : Array Value) (p : (Int × Int) → Bool) (w : World) (hl : xs.length ≤ 9223372036854775807) (hx : Recs2At w a xs)
    (hg : ∀ args w, Sem.run Try.prog (callFunc g args) w = .ok (.enter g args) w) (hp : ∀ x ∈ xs, Meets Try.prog w g first cap (.agg #[.int .i64 x.1, .int .i64 x.2]) (p x)) :
    Calls Try.prog 103 #[.slice a xs.length c, .func (.func g) first cap] w fun e w' => e = .returned (.bool (xs.any p)) ∧ Below w.heap.size w w' := by
  rw [← idxBy_any p xs 0]
  have hi := idxBy_le p xs 0
  go_enter Try.func103, Try.ntmps103
  go_wp2_with (go_at_call 106; refine (indexFunc_guess a xs c g first cap p w hl hx hg hp).mono ?_; rintro e w1 ⟨rfl, hb1⟩; obtain ⟨hc1, hf1, hz1⟩ := bcell hb1; (try simp at hz1); (try (have hy0 : w.heap.size < w1.heap.size := by omega)); (try (have hy1 : w.heap.size + 1 < w1.heap.size := by omega)); (try (have hy2 : w.heap.size + 2 < w1.heap.size := by omega)))
  go_ret
  exact ⟨rfl, hb1⟩

set_option maxHeartbeats 400000 in
theorem allNot_guess (x : (Int × Int)) (B : Nat) (g : FuncId) (first cap : Array Value) (q : Bool) (w : World) (hB : B < w.heap.size) (hc : w.cell? ⟨B, 0, none⟩ = some (.func (.func g) first cap))
    (hg : ∀ args w, Sem.run Try.prog (callFunc g args) w = .ok (.enter g args) w) (hm : Meets Try.prog w g first cap (.agg #[.int .i64 x.1, .int .i64 x.2]) q) : Meets Try.prog w 104 #[] #[.pointer (some ⟨B, 0, none⟩)] (.agg #[.int .i64 x.1, .int .i64 x.2]) !q := by
  intro w' hb'
  have hc' : w'.cell? ⟨B, 0, none⟩ = some (.func (.func g) first cap) := (hb'.cell (p := ⟨B, 0, none⟩) hB).trans hc
  have hBw : B < w'.heap.size := Nat.lt_of_lt_of_le hB hb'.size
  clear hc
  show Calls Try.prog 104 #[.agg #[.int .i64 x.1, .int .i64 x.2], .pointer (some ⟨B, 0, none⟩)] w' _
  go_enter Try.func104, Try.ntmps104
  go_wp2_with (refine (hm _ (hb'.trans ((Below.refl _ _).alloc hb'.size _) )).mono ?_; rintro e w1 ⟨rfl, hb1⟩)
  go_ret
  exact ⟨rfl, ((Below.refl _ _).alloc (Nat.le_refl _) _).trans (hb1.mono (by simp))⟩

set_option maxHeartbeats 400000 in
theorem all_guess (a : Option Addr) (xs : List (Int × Int)) (c : Nat) (g : FuncId) (first cap : Array Value) (p : (Int × Int) → Bool) (w : World) (hl : xs.length ≤ 9223372036854775807) (hx : Recs2At w a xs)
    (hg : ∀ args w, Sem.run Try.prog (callFunc g args) w = .ok (.enter g args) w) (hp : ∀ x ∈ xs, Meets Try.prog w g first cap (.agg #[.int .i64 x.1, .int .i64 x.2]) (p x)) :
    Calls Try.prog 95 #[.slice a xs.length c, .func (.func g) first cap] w fun e w' => e = .returned (.bool (xs.all p)) ∧ Below w.heap.size w w' := by
  have e1 : xs.all p = !(xs.any fun x => !p x) := by rw [List.all_eq_not_any_not]
  rw [e1]
  have hb0 : Below w.heap.size w (w.alloc (.cells #[.func (.func g) first cap] 140)) := (Below.refl _ _).alloc (Nat.le_refl _) _
  go_enter Try.func95, Try.ntmps95
  go_wp2_with (go_at_call 103; refine (containsFunc_guess a xs c 104 #[] #[.pointer (some ⟨w.heap.size, 0, none⟩)] (fun x => !p x) _ hl (hx.below hb0) (enters Try.func104 (by kernel_rfl) rfl) (fun x hxx => allNot_guess x w.heap.size g first cap (p x) _ (by simp) (by rw [World.cell?_alloc_at _ _ _ _ rfl]; rfl) hg ((hp x hxx).below hb0))).mono ?_; rintro e w1 ⟨rfl, hb1⟩; obtain ⟨hc1, hf1, hz1⟩ := bcell hb1; (try simp at hz1); (try (have hy0 : w.heap.size < w1.heap.size := by omega)); (try (have hy1 : w.heap.size + 1 < w1.heap.size := by omega)); (try (have hy2 : w.heap.size + 2 < w1.heap.size := by omega)))
  go_ret
  exact ⟨by simp, hb0.trans (hb1.mono (by simp))⟩

end Go.Proofs.Ytmplgcefhpobgaa
