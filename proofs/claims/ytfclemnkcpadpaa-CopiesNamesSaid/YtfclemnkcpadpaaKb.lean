/- copies: slices.IndexFunc, ContainsFunc, and all, over ints, ranges, legs, routes, entries -/
import Derived.Test.YtfclemnkcpadpaaKa
import Derived.Test.YtfclemnkcpadpaaOwn
namespace Go.Proofs.Ytfclemnkcpadpaa
set_option linter.unusedVariables false
set_option linter.unusedSimpArgs false
set_option linter.unnecessarySimpa false
open Go.RowKit Go.Flow

structure Ent where
  num : Int
  at_ : Int
  skip : Bool
deriving DecidableEq
def EntsAt (w : World) (a : Option Addr) (xs : List Ent) : Prop :=
  ∀ k (h : k < xs.length), ∃ b off, a = some ⟨b, off, none⟩ ∧ b < w.heap.size ∧ w.cell? ⟨b, off + k * 3, none⟩ = some (.int .i64 xs[k].num) ∧ w.cell? ⟨b, off + k * 3 + 1, none⟩ = some (.int .i64 xs[k].at_) ∧ w.cell? ⟨b, off + k * 3 + 2, none⟩ = some (.bool xs[k].skip)
theorem EntsAt.below {w w' : World} {a : Option Addr} {xs : List Ent} (h : EntsAt w a xs) (hb : Below w.heap.size w w') : EntsAt w' a xs := fun k hk =>
  let ⟨b, off, ha, hlt, h0, h1, h2⟩ := h k hk
  ⟨b, off, ha, Nat.lt_of_lt_of_le hlt hb.size, (hb.cell (p := ⟨b, _, none⟩) hlt).trans h0, (hb.cell (p := ⟨b, _, none⟩) hlt).trans h1, (hb.cell (p := ⟨b, _, none⟩) hlt).trans h2⟩
theorem EntsAt.nil (w : World) (a : Option Addr) : EntsAt w a [] := fun k hk => absurd hk (Nat.not_lt_zero k)

set_option maxRecDepth 100000 in
set_option maxHeartbeats 400000 in
theorem indexFunc_int (a : Option Addr) (xs : List Int) (c : Nat) (g : FuncId) (first cap : Array Value) (p : Int → Bool) (w : World) (hl : xs.length ≤ 9223372036854775807) (hx : IntsAt w a xs)
    (hg : ∀ args w, Sem.run Try.prog (callFunc g args) w = .ok (.enter g args) w) (hp : ∀ x ∈ xs, Meets Try.prog w g first cap (.int .i64 x) (p x)) :
    Calls Try.prog 114 #[.slice a xs.length c, .func (.func g) first cap] w fun e w' => e = .returned (.int .i64 (idxBy p xs 0)) ∧ Below w.heap.size w w' := by
  go_enter Try.func114, Try.ntmps114
  go_wp2
  go_loopw [5, 8] (fun _ i wr => ∃ k : Nat, k ≤ xs.length ∧ i = .int .i64 k ∧ Below w.heap.size w wr ∧ idxBy p xs 0 = idxBy p (xs.drop k) k) (fun _ i _ => xs.length - (intOf i).toNat)
  case atStart => exact ⟨0, Nat.zero_le _, rfl, Below.refl _ _, by simp⟩
  case round =>
    obtain ⟨k, hk, rfl, hb, hi⟩ := hrel
    have Hi := Lib.hid hi
    clear hi
    by_cases hlt : k < xs.length
    · obtain ⟨b, off, rfl, hbl, hc⟩ := hx k hlt
      have hm := hp xs[k] (List.getElem_mem hlt)
      have hc' : wr.cell? ⟨b, off + k, none⟩ = some (.int .i64 (xs.getD k 0)) := (hb.cell (p := ⟨b, off + k, none⟩) hbl).trans hc
      clear hc
      go_wp2_with (refine (hm wr hb).mono ?_; rintro e w1 ⟨rfl, hb1⟩)
      · have h1 : p xs[k] = true := by assumption
        go_ret
        exact ⟨by rw [Hi.out, idxBy_hit p xs k hlt h1]; rfl, hb.trans (hb1.mono hb.size)⟩
      · have h1 : p xs[k] = false := by assumption
        go_roundw
        case rel => exact ⟨k + 1, by omega, by go_num, hb.trans (hb1.mono hb.size), by rw [Hi.out, idxBy_miss p xs k hlt h1]⟩
        case measure => simp [intOf]; omega
    · go_wp2
      go_ret
      exact ⟨by rw [Hi.out, idxBy_end p xs k k (by omega)]; rfl, hb⟩

set_option maxHeartbeats 400000 in
theorem containsFunc_int (a : Option Addr) (xs : List Int) (c : Nat) (g : FuncId) (first cap : Array Value) (p : Int → Bool) (w : World) (hl : xs.length ≤ 9223372036854775807) (hx : IntsAt w a xs)
    (hg : ∀ args w, Sem.run Try.prog (callFunc g args) w = .ok (.enter g args) w) (hp : ∀ x ∈ xs, Meets Try.prog w g first cap (.int .i64 x) (p x)) :
    Calls Try.prog 93 #[.slice a xs.length c, .func (.func g) first cap] w fun e w' => e = .returned (.bool (xs.any p)) ∧ Below w.heap.size w w' := by
  rw [← idxBy_any p xs 0]
  have hi := idxBy_le p xs 0
  go_enter Try.func93, Try.ntmps93
  go_wp2_with (go_at_call 114; refine (indexFunc_int a xs c g first cap p w hl hx hg hp).mono ?_; rintro e w1 ⟨rfl, hb1⟩; obtain ⟨hc1, hf1, hz1⟩ := bcell hb1; (try simp at hz1); (try (have hy0 : w.heap.size < w1.heap.size := by omega)); (try (have hy1 : w.heap.size + 1 < w1.heap.size := by omega)); (try (have hy2 : w.heap.size + 2 < w1.heap.size := by omega)))
  go_ret
  exact ⟨rfl, hb1⟩

set_option maxHeartbeats 400000 in
theorem allNot_int (x : Int) (B : Nat) (g : FuncId) (first cap : Array Value) (q : Bool) (w : World) (hB : B < w.heap.size) (hc : w.cell? ⟨B, 0, none⟩ = some (.func (.func g) first cap))
    (hg : ∀ args w, Sem.run Try.prog (callFunc g args) w = .ok (.enter g args) w) (hm : Meets Try.prog w g first cap (.int .i64 x) q) : Meets Try.prog w 94 #[] #[.pointer (some ⟨B, 0, none⟩)] (.int .i64 x) !q := by
  intro w' hb'
  have hc' : w'.cell? ⟨B, 0, none⟩ = some (.func (.func g) first cap) := (hb'.cell (p := ⟨B, 0, none⟩) hB).trans hc
  have hBw : B < w'.heap.size := Nat.lt_of_lt_of_le hB hb'.size
  clear hc
  show Calls Try.prog 94 #[.int .i64 x, .pointer (some ⟨B, 0, none⟩)] w' _
  go_enter Try.func94, Try.ntmps94
  go_wp2_with (refine (hm _ hb').mono ?_; rintro e w1 ⟨rfl, hb1⟩)
  go_ret
  exact ⟨rfl, hb1⟩

set_option maxHeartbeats 400000 in
theorem all_int (a : Option Addr) (xs : List Int) (c : Nat) (g : FuncId) (first cap : Array Value) (p : Int → Bool) (w : World) (hl : xs.length ≤ 9223372036854775807) (hx : IntsAt w a xs)
    (hg : ∀ args w, Sem.run Try.prog (callFunc g args) w = .ok (.enter g args) w) (hp : ∀ x ∈ xs, Meets Try.prog w g first cap (.int .i64 x) (p x)) :
    Calls Try.prog 59 #[.slice a xs.length c, .func (.func g) first cap] w fun e w' => e = .returned (.bool (xs.all p)) ∧ Below w.heap.size w w' := by
  have e1 : xs.all p = !(xs.any fun x => !p x) := by rw [List.all_eq_not_any_not]
  rw [e1]
  have hb0 : Below w.heap.size w (w.alloc (.cells #[.func (.func g) first cap] 109)) := (Below.refl _ _).alloc (Nat.le_refl _) _
  go_enter Try.func59, Try.ntmps59
  go_wp2_with (go_at_call 93; refine (containsFunc_int a xs c 94 #[] #[.pointer (some ⟨w.heap.size, 0, none⟩)] (fun x => !p x) _ hl (hx.below hb0) (enters Try.func94 (by kernel_rfl) rfl) (fun x hxx => allNot_int x w.heap.size g first cap (p x) _ (by simp) (by rw [World.cell?_alloc_at _ _ _ _ rfl]; rfl) hg ((hp x hxx).below hb0))).mono ?_; rintro e w1 ⟨rfl, hb1⟩; obtain ⟨hc1, hf1, hz1⟩ := bcell hb1; (try simp at hz1); (try (have hy0 : w.heap.size < w1.heap.size := by omega)); (try (have hy1 : w.heap.size + 1 < w1.heap.size := by omega)); (try (have hy2 : w.heap.size + 2 < w1.heap.size := by omega)))
  go_ret
  exact ⟨by simp, hb0.trans (hb1.mono (by simp))⟩

set_option maxRecDepth 100000 in
set_option maxHeartbeats 400000 in
theorem indexFunc_range (a : Option Addr) (xs : List (Int × Int)) (c : Nat) (g : FuncId) (first cap : Array Value) (p : (Int × Int) → Bool) (w : World) (hl : xs.length ≤ 9223372036854775807) (hx : Recs2At w a xs)
    (hg : ∀ args w, Sem.run Try.prog (callFunc g args) w = .ok (.enter g args) w) (hp : ∀ x ∈ xs, Meets Try.prog w g first cap (.agg #[.int .i64 x.1, .int .i64 x.2]) (p x)) :
    Calls Try.prog 126 #[.slice a xs.length c, .func (.func g) first cap] w fun e w' => e = .returned (.int .i64 (idxBy p xs 0)) ∧ Below w.heap.size w w' := by
  go_enter Try.func126, Try.ntmps126
  go_wp2
  go_loopw [5, 8] (fun _ i wr => ∃ k : Nat, k ≤ xs.length ∧ i = .int .i64 k ∧ Below w.heap.size w wr ∧ idxBy p xs 0 = idxBy p (xs.drop k) k) (fun _ i _ => xs.length - (intOf i).toNat)
  case atStart => exact ⟨0, Nat.zero_le _, rfl, Below.refl _ _, by simp⟩
  case round =>
    obtain ⟨k, hk, rfl, hb, hi⟩ := hrel
    have Hi := Lib.hid hi
    clear hi
    by_cases hlt : k < xs.length
    · obtain ⟨b, off, rfl, hbl, h0, h1⟩ := hx k hlt
      have hm := hp xs[k] (List.getElem_mem hlt)
      have h0' := (hb.cell (p := ⟨b, off + k * 2, none⟩) hbl).trans h0
      have h1' := (hb.cell (p := ⟨b, off + k * 2 + 1, none⟩) hbl).trans h1
      clear h0 h1
      go_wp2_with (refine (hm wr hb).mono ?_; rintro e w1 ⟨rfl, hb1⟩)
      · have h1 : p xs[k] = true := by assumption
        go_ret
        exact ⟨by rw [Hi.out, idxBy_hit p xs k hlt h1]; rfl, hb.trans (hb1.mono hb.size)⟩
      · have h1 : p xs[k] = false := by assumption
        go_roundw
        case rel => exact ⟨k + 1, by omega, by go_num, hb.trans (hb1.mono hb.size), by rw [Hi.out, idxBy_miss p xs k hlt h1]⟩
        case measure => simp [intOf]; omega
    · go_wp2
      go_ret
      exact ⟨by rw [Hi.out, idxBy_end p xs k k (by omega)]; rfl, hb⟩

set_option maxHeartbeats 400000 in
theorem containsFunc_range (a : Option Addr) (xs : List (Int × Int)) (c : Nat) (g : FuncId) (first cap : Array Value) (p : (Int × Int) → Bool) (w : World) (hl : xs.length ≤ 9223372036854775807) (hx : Recs2At w a xs)
    (hg : ∀ args w, Sem.run Try.prog (callFunc g args) w = .ok (.enter g args) w) (hp : ∀ x ∈ xs, Meets Try.prog w g first cap (.agg #[.int .i64 x.1, .int .i64 x.2]) (p x)) :
    Calls Try.prog 120 #[.slice a xs.length c, .func (.func g) first cap] w fun e w' => e = .returned (.bool (xs.any p)) ∧ Below w.heap.size w w' := by
  rw [← idxBy_any p xs 0]
  have hi := idxBy_le p xs 0
  go_enter Try.func120, Try.ntmps120
  go_wp2_with (go_at_call 126; refine (indexFunc_range a xs c g first cap p w hl hx hg hp).mono ?_; rintro e w1 ⟨rfl, hb1⟩; obtain ⟨hc1, hf1, hz1⟩ := bcell hb1; (try simp at hz1); (try (have hy0 : w.heap.size < w1.heap.size := by omega)); (try (have hy1 : w.heap.size + 1 < w1.heap.size := by omega)); (try (have hy2 : w.heap.size + 2 < w1.heap.size := by omega)))
  go_ret
  exact ⟨rfl, hb1⟩

set_option maxHeartbeats 400000 in
theorem allNot_range (x : (Int × Int)) (B : Nat) (g : FuncId) (first cap : Array Value) (q : Bool) (w : World) (hB : B < w.heap.size) (hc : w.cell? ⟨B, 0, none⟩ = some (.func (.func g) first cap))
    (hg : ∀ args w, Sem.run Try.prog (callFunc g args) w = .ok (.enter g args) w) (hm : Meets Try.prog w g first cap (.agg #[.int .i64 x.1, .int .i64 x.2]) q) : Meets Try.prog w 125 #[] #[.pointer (some ⟨B, 0, none⟩)] (.agg #[.int .i64 x.1, .int .i64 x.2]) !q := by
  intro w' hb'
  have hc' : w'.cell? ⟨B, 0, none⟩ = some (.func (.func g) first cap) := (hb'.cell (p := ⟨B, 0, none⟩) hB).trans hc
  have hBw : B < w'.heap.size := Nat.lt_of_lt_of_le hB hb'.size
  clear hc
  show Calls Try.prog 125 #[.agg #[.int .i64 x.1, .int .i64 x.2], .pointer (some ⟨B, 0, none⟩)] w' _
  go_enter Try.func125, Try.ntmps125
  go_wp2_with (refine (hm _ (hb'.trans ((Below.refl _ _).alloc hb'.size _))).mono ?_; rintro e w1 ⟨rfl, hb1⟩)
  go_ret
  exact ⟨rfl, ((Below.refl _ _).alloc (Nat.le_refl _) _).trans (hb1.mono (by simp))⟩

set_option maxHeartbeats 400000 in
theorem all_range (a : Option Addr) (xs : List (Int × Int)) (c : Nat) (g : FuncId) (first cap : Array Value) (p : (Int × Int) → Bool) (w : World) (hl : xs.length ≤ 9223372036854775807) (hx : Recs2At w a xs)
    (hg : ∀ args w, Sem.run Try.prog (callFunc g args) w = .ok (.enter g args) w) (hp : ∀ x ∈ xs, Meets Try.prog w g first cap (.agg #[.int .i64 x.1, .int .i64 x.2]) (p x)) :
    Calls Try.prog 116 #[.slice a xs.length c, .func (.func g) first cap] w fun e w' => e = .returned (.bool (xs.all p)) ∧ Below w.heap.size w w' := by
  have e1 : xs.all p = !(xs.any fun x => !p x) := by rw [List.all_eq_not_any_not]
  rw [e1]
  have hb0 : Below w.heap.size w (w.alloc (.cells #[.func (.func g) first cap] 170)) := (Below.refl _ _).alloc (Nat.le_refl _) _
  go_enter Try.func116, Try.ntmps116
  go_wp2_with (go_at_call 120; refine (containsFunc_range a xs c 125 #[] #[.pointer (some ⟨w.heap.size, 0, none⟩)] (fun x => !p x) _ hl (hx.below hb0) (enters Try.func125 (by kernel_rfl) rfl) (fun x hxx => allNot_range x w.heap.size g first cap (p x) _ (by simp) (by rw [World.cell?_alloc_at _ _ _ _ rfl]; rfl) hg ((hp x hxx).below hb0))).mono ?_; rintro e w1 ⟨rfl, hb1⟩; obtain ⟨hc1, hf1, hz1⟩ := bcell hb1; (try simp at hz1); (try (have hy0 : w.heap.size < w1.heap.size := by omega)); (try (have hy1 : w.heap.size + 1 < w1.heap.size := by omega)); (try (have hy2 : w.heap.size + 2 < w1.heap.size := by omega)))
  go_ret
  exact ⟨by simp, hb0.trans (hb1.mono (by simp))⟩

set_option maxRecDepth 100000 in
set_option maxHeartbeats 400000 in
theorem indexFunc_leg (a : Option Addr) (xs : List Leg) (c : Nat) (g : FuncId) (first cap : Array Value) (p : Leg → Bool) (w : World) (hl : xs.length ≤ 9223372036854775807) (hx : LegsAt w a xs)
    (hg : ∀ args w, Sem.run Try.prog (callFunc g args) w = .ok (.enter g args) w) (hp : ∀ x ∈ xs, ∀ ar ca, Recs2At w ar x.asl → Meets Try.prog w g first cap (.agg #[.int .i64 x.lo, .int .i64 x.hi, .slice ar x.asl.length ca]) (p x)) :
    Calls Try.prog 124 #[.slice a xs.length c, .func (.func g) first cap] w fun e w' => e = .returned (.int .i64 (idxBy p xs 0)) ∧ Below w.heap.size w w' := by
  go_enter Try.func124, Try.ntmps124
  go_wp2
  go_loopw [5, 8] (fun _ i wr => ∃ k : Nat, k ≤ xs.length ∧ i = .int .i64 k ∧ Below w.heap.size w wr ∧ idxBy p xs 0 = idxBy p (xs.drop k) k) (fun _ i _ => xs.length - (intOf i).toNat)
  case atStart => exact ⟨0, Nat.zero_le _, rfl, Below.refl _ _, by simp⟩
  case round =>
    obtain ⟨k, hk, rfl, hb, hi⟩ := hrel
    have Hi := Lib.hid hi
    clear hi
    by_cases hlt : k < xs.length
    · obtain ⟨b, off, ar, ca, rfl, hbl, h0, h1, h2, h3⟩ := hx k hlt
      have hm := hp xs[k] (List.getElem_mem hlt) ar ca h3
      have h0' := (hb.cell (p := ⟨b, off + k * 3, none⟩) hbl).trans h0
      have h1' := (hb.cell (p := ⟨b, off + k * 3 + 1, none⟩) hbl).trans h1
      have h2' := (hb.cell (p := ⟨b, off + k * 3 + 2, none⟩) hbl).trans h2
      clear h0 h1 h2 h3
      go_wp2_with (refine (hm wr hb).mono ?_; rintro e w1 ⟨rfl, hb1⟩)
      · have h1 : p xs[k] = true := by assumption
        go_ret
        exact ⟨by rw [Hi.out, idxBy_hit p xs k hlt h1]; rfl, hb.trans (hb1.mono hb.size)⟩
      · have h1 : p xs[k] = false := by assumption
        go_roundw
        case rel => exact ⟨k + 1, by omega, by go_num, hb.trans (hb1.mono hb.size), by rw [Hi.out, idxBy_miss p xs k hlt h1]⟩
        case measure => simp [intOf]; omega
    · go_wp2
      go_ret
      exact ⟨by rw [Hi.out, idxBy_end p xs k k (by omega)]; rfl, hb⟩

set_option maxHeartbeats 400000 in
theorem containsFunc_leg (a : Option Addr) (xs : List Leg) (c : Nat) (g : FuncId) (first cap : Array Value) (p : Leg → Bool) (w : World) (hl : xs.length ≤ 9223372036854775807) (hx : LegsAt w a xs)
    (hg : ∀ args w, Sem.run Try.prog (callFunc g args) w = .ok (.enter g args) w) (hp : ∀ x ∈ xs, ∀ ar ca, Recs2At w ar x.asl → Meets Try.prog w g first cap (.agg #[.int .i64 x.lo, .int .i64 x.hi, .slice ar x.asl.length ca]) (p x)) :
    Calls Try.prog 112 #[.slice a xs.length c, .func (.func g) first cap] w fun e w' => e = .returned (.bool (xs.any p)) ∧ Below w.heap.size w w' := by
  rw [← idxBy_any p xs 0]
  have hi := idxBy_le p xs 0
  go_enter Try.func112, Try.ntmps112
  go_wp2_with (go_at_call 124; refine (indexFunc_leg a xs c g first cap p w hl hx hg hp).mono ?_; rintro e w1 ⟨rfl, hb1⟩; obtain ⟨hc1, hf1, hz1⟩ := bcell hb1; (try simp at hz1); (try (have hy0 : w.heap.size < w1.heap.size := by omega)); (try (have hy1 : w.heap.size + 1 < w1.heap.size := by omega)); (try (have hy2 : w.heap.size + 2 < w1.heap.size := by omega)))
  go_ret
  exact ⟨rfl, hb1⟩

set_option maxHeartbeats 400000 in
theorem allNot_leg (x : Leg) (ar : Option Addr) (ca : Nat) (B : Nat) (g : FuncId) (first cap : Array Value) (q : Bool) (w : World) (hB : B < w.heap.size) (hc : w.cell? ⟨B, 0, none⟩ = some (.func (.func g) first cap))
    (hg : ∀ args w, Sem.run Try.prog (callFunc g args) w = .ok (.enter g args) w) (hm : Meets Try.prog w g first cap (.agg #[.int .i64 x.lo, .int .i64 x.hi, .slice ar x.asl.length ca]) q) : Meets Try.prog w 113 #[] #[.pointer (some ⟨B, 0, none⟩)] (.agg #[.int .i64 x.lo, .int .i64 x.hi, .slice ar x.asl.length ca]) !q := by
  intro w' hb'
  have hc' : w'.cell? ⟨B, 0, none⟩ = some (.func (.func g) first cap) := (hb'.cell (p := ⟨B, 0, none⟩) hB).trans hc
  have hBw : B < w'.heap.size := Nat.lt_of_lt_of_le hB hb'.size
  clear hc
  show Calls Try.prog 113 #[.agg #[.int .i64 x.lo, .int .i64 x.hi, .slice ar x.asl.length ca], .pointer (some ⟨B, 0, none⟩)] w' _
  go_enter Try.func113, Try.ntmps113
  go_wp2_with (refine (hm _ (hb'.trans ((Below.refl _ _).alloc hb'.size _))).mono ?_; rintro e w1 ⟨rfl, hb1⟩)
  go_ret
  exact ⟨rfl, ((Below.refl _ _).alloc (Nat.le_refl _) _).trans (hb1.mono (by simp))⟩

set_option maxHeartbeats 400000 in
theorem all_leg (a : Option Addr) (xs : List Leg) (c : Nat) (g : FuncId) (first cap : Array Value) (p : Leg → Bool) (w : World) (hl : xs.length ≤ 9223372036854775807) (hx : LegsAt w a xs)
    (hg : ∀ args w, Sem.run Try.prog (callFunc g args) w = .ok (.enter g args) w) (hp : ∀ x ∈ xs, ∀ W, Below w.heap.size w W → ∀ ar ca, Recs2At W ar x.asl → Meets Try.prog W g first cap (.agg #[.int .i64 x.lo, .int .i64 x.hi, .slice ar x.asl.length ca]) (p x)) :
    Calls Try.prog 91 #[.slice a xs.length c, .func (.func g) first cap] w fun e w' => e = .returned (.bool (xs.all p)) ∧ Below w.heap.size w w' := by
  have e1 : xs.all p = !(xs.any fun x => !p x) := by rw [List.all_eq_not_any_not]
  rw [e1]
  have hb0 : Below w.heap.size w (w.alloc (.cells #[.func (.func g) first cap] 148)) := (Below.refl _ _).alloc (Nat.le_refl _) _
  have hp' := fun x hxx => hp x hxx _ hb0
  go_enter Try.func91, Try.ntmps91
  go_wp2_with (go_at_call 112; refine (containsFunc_leg a xs c 113 #[] #[.pointer (some ⟨w.heap.size, 0, none⟩)] (fun x => !p x) _ hl (hx.below hb0) (enters Try.func113 (by kernel_rfl) rfl) (fun x hxx ar ca h => allNot_leg x ar ca w.heap.size g first cap (p x) _ (by simp) (by rw [World.cell?_alloc_at _ _ _ _ rfl]; rfl) hg (hp' x hxx ar ca h))).mono ?_; rintro e w1 ⟨rfl, hb1⟩; obtain ⟨hc1, hf1, hz1⟩ := bcell hb1; (try simp at hz1); (try (have hy0 : w.heap.size < w1.heap.size := by omega)); (try (have hy1 : w.heap.size + 1 < w1.heap.size := by omega)); (try (have hy2 : w.heap.size + 2 < w1.heap.size := by omega)))
  go_ret
  exact ⟨by simp, hb0.trans (hb1.mono (by simp))⟩

set_option maxRecDepth 100000 in
set_option maxHeartbeats 400000 in
theorem indexFunc_route (a : Option Addr) (xs : List Route) (c : Nat) (g : FuncId) (first cap : Array Value) (p : Route → Bool) (w : World) (hl : xs.length ≤ 9223372036854775807) (hx : RoutesAt w a xs)
    (hg : ∀ args w, Sem.run Try.prog (callFunc g args) w = .ok (.enter g args) w) (hp : ∀ x ∈ xs, ∀ al ca, LegsAt w al x.legs → Meets Try.prog w g first cap (.agg #[.slice al x.legs.length ca, .bool x.lossy]) (p x)) :
    Calls Try.prog 111 #[.slice a xs.length c, .func (.func g) first cap] w fun e w' => e = .returned (.int .i64 (idxBy p xs 0)) ∧ Below w.heap.size w w' := by
  go_enter Try.func111, Try.ntmps111
  go_wp2
  go_loopw [5, 8] (fun _ i wr => ∃ k : Nat, k ≤ xs.length ∧ i = .int .i64 k ∧ Below w.heap.size w wr ∧ idxBy p xs 0 = idxBy p (xs.drop k) k) (fun _ i _ => xs.length - (intOf i).toNat)
  case atStart => exact ⟨0, Nat.zero_le _, rfl, Below.refl _ _, by simp⟩
  case round =>
    obtain ⟨k, hk, rfl, hb, hi⟩ := hrel
    have Hi := Lib.hid hi
    clear hi
    by_cases hlt : k < xs.length
    · obtain ⟨b, off, al, ca, rfl, hbl, h0, h1, h2⟩ := hx k hlt
      have hm := hp xs[k] (List.getElem_mem hlt) al ca h2
      have h0' := (hb.cell (p := ⟨b, off + k * 2, none⟩) hbl).trans h0
      have h1' := (hb.cell (p := ⟨b, off + k * 2 + 1, none⟩) hbl).trans h1
      clear h0 h1 h2
      go_wp2_with (refine (hm wr hb).mono ?_; rintro e w1 ⟨rfl, hb1⟩)
      · have h1 : p xs[k] = true := by assumption
        go_ret
        exact ⟨by rw [Hi.out, idxBy_hit p xs k hlt h1]; rfl, hb.trans (hb1.mono hb.size)⟩
      · have h1 : p xs[k] = false := by assumption
        go_roundw
        case rel => exact ⟨k + 1, by omega, by go_num, hb.trans (hb1.mono hb.size), by rw [Hi.out, idxBy_miss p xs k hlt h1]⟩
        case measure => simp [intOf]; omega
    · go_wp2
      go_ret
      exact ⟨by rw [Hi.out, idxBy_end p xs k k (by omega)]; rfl, hb⟩

set_option maxHeartbeats 400000 in
theorem containsFunc_route (a : Option Addr) (xs : List Route) (c : Nat) (g : FuncId) (first cap : Array Value) (p : Route → Bool) (w : World) (hl : xs.length ≤ 9223372036854775807) (hx : RoutesAt w a xs)
    (hg : ∀ args w, Sem.run Try.prog (callFunc g args) w = .ok (.enter g args) w) (hp : ∀ x ∈ xs, ∀ al ca, LegsAt w al x.legs → Meets Try.prog w g first cap (.agg #[.slice al x.legs.length ca, .bool x.lossy]) (p x)) :
    Calls Try.prog 89 #[.slice a xs.length c, .func (.func g) first cap] w fun e w' => e = .returned (.bool (xs.any p)) ∧ Below w.heap.size w w' := by
  rw [← idxBy_any p xs 0]
  have hi := idxBy_le p xs 0
  go_enter Try.func89, Try.ntmps89
  go_wp2_with (go_at_call 111; refine (indexFunc_route a xs c g first cap p w hl hx hg hp).mono ?_; rintro e w1 ⟨rfl, hb1⟩; obtain ⟨hc1, hf1, hz1⟩ := bcell hb1; (try simp at hz1); (try (have hy0 : w.heap.size < w1.heap.size := by omega)); (try (have hy1 : w.heap.size + 1 < w1.heap.size := by omega)); (try (have hy2 : w.heap.size + 2 < w1.heap.size := by omega)))
  go_ret
  exact ⟨rfl, hb1⟩

set_option maxHeartbeats 400000 in
theorem allNot_route (x : Route) (al : Option Addr) (ca : Nat) (B : Nat) (g : FuncId) (first cap : Array Value) (q : Bool) (w : World) (hB : B < w.heap.size) (hc : w.cell? ⟨B, 0, none⟩ = some (.func (.func g) first cap))
    (hg : ∀ args w, Sem.run Try.prog (callFunc g args) w = .ok (.enter g args) w) (hm : Meets Try.prog w g first cap (.agg #[.slice al x.legs.length ca, .bool x.lossy]) q) : Meets Try.prog w 90 #[] #[.pointer (some ⟨B, 0, none⟩)] (.agg #[.slice al x.legs.length ca, .bool x.lossy]) !q := by
  intro w' hb'
  have hc' : w'.cell? ⟨B, 0, none⟩ = some (.func (.func g) first cap) := (hb'.cell (p := ⟨B, 0, none⟩) hB).trans hc
  have hBw : B < w'.heap.size := Nat.lt_of_lt_of_le hB hb'.size
  clear hc
  show Calls Try.prog 90 #[.agg #[.slice al x.legs.length ca, .bool x.lossy], .pointer (some ⟨B, 0, none⟩)] w' _
  go_enter Try.func90, Try.ntmps90
  go_wp2_with (refine (hm _ (hb'.trans ((Below.refl _ _).alloc hb'.size _))).mono ?_; rintro e w1 ⟨rfl, hb1⟩)
  go_ret
  exact ⟨rfl, ((Below.refl _ _).alloc (Nat.le_refl _) _).trans (hb1.mono (by simp))⟩

set_option maxHeartbeats 400000 in
theorem all_route (a : Option Addr) (xs : List Route) (c : Nat) (g : FuncId) (first cap : Array Value) (p : Route → Bool) (w : World) (hl : xs.length ≤ 9223372036854775807) (hx : RoutesAt w a xs)
    (hg : ∀ args w, Sem.run Try.prog (callFunc g args) w = .ok (.enter g args) w) (hp : ∀ x ∈ xs, ∀ W, Below w.heap.size w W → ∀ al ca, LegsAt W al x.legs → Meets Try.prog W g first cap (.agg #[.slice al x.legs.length ca, .bool x.lossy]) (p x)) :
    Calls Try.prog 57 #[.slice a xs.length c, .func (.func g) first cap] w fun e w' => e = .returned (.bool (xs.all p)) ∧ Below w.heap.size w w' := by
  have e1 : xs.all p = !(xs.any fun x => !p x) := by rw [List.all_eq_not_any_not]
  rw [e1]
  have hb0 : Below w.heap.size w (w.alloc (.cells #[.func (.func g) first cap] 111)) := (Below.refl _ _).alloc (Nat.le_refl _) _
  have hp' := fun x hxx => hp x hxx _ hb0
  go_enter Try.func57, Try.ntmps57
  go_wp2_with (go_at_call 89; refine (containsFunc_route a xs c 90 #[] #[.pointer (some ⟨w.heap.size, 0, none⟩)] (fun x => !p x) _ hl (hx.below hb0) (enters Try.func90 (by kernel_rfl) rfl) (fun x hxx al ca h => allNot_route x al ca w.heap.size g first cap (p x) _ (by simp) (by rw [World.cell?_alloc_at _ _ _ _ rfl]; rfl) hg (hp' x hxx al ca h))).mono ?_; rintro e w1 ⟨rfl, hb1⟩; obtain ⟨hc1, hf1, hz1⟩ := bcell hb1; (try simp at hz1); (try (have hy0 : w.heap.size < w1.heap.size := by omega)); (try (have hy1 : w.heap.size + 1 < w1.heap.size := by omega)); (try (have hy2 : w.heap.size + 2 < w1.heap.size := by omega)))
  go_ret
  exact ⟨by simp, hb0.trans (hb1.mono (by simp))⟩

set_option maxRecDepth 100000 in
set_option maxHeartbeats 400000 in
theorem indexFunc_entry (a : Option Addr) (xs : List Ent) (c : Nat) (g : FuncId) (first cap : Array Value) (p : Ent → Bool) (w : World) (hl : xs.length ≤ 9223372036854775807) (hx : EntsAt w a xs)
    (hg : ∀ args w, Sem.run Try.prog (callFunc g args) w = .ok (.enter g args) w) (hp : ∀ x ∈ xs, Meets Try.prog w g first cap (.agg #[.int .i64 x.num, .int .i64 x.at_, .bool x.skip]) (p x)) :
    Calls Try.prog 123 #[.slice a xs.length c, .func (.func g) first cap] w fun e w' => e = .returned (.int .i64 (idxBy p xs 0)) ∧ Below w.heap.size w w' := by
  go_enter Try.func123, Try.ntmps123
  go_wp2
  go_loopw [5, 8] (fun _ i wr => ∃ k : Nat, k ≤ xs.length ∧ i = .int .i64 k ∧ Below w.heap.size w wr ∧ idxBy p xs 0 = idxBy p (xs.drop k) k) (fun _ i _ => xs.length - (intOf i).toNat)
  case atStart => exact ⟨0, Nat.zero_le _, rfl, Below.refl _ _, by simp⟩
  case round =>
    obtain ⟨k, hk, rfl, hb, hi⟩ := hrel
    have Hi := Lib.hid hi
    clear hi
    by_cases hlt : k < xs.length
    · obtain ⟨b, off, rfl, hbl, h0, h1, h2⟩ := hx k hlt
      have hm := hp xs[k] (List.getElem_mem hlt)
      have h0' := (hb.cell (p := ⟨b, off + k * 3, none⟩) hbl).trans h0
      have h1' := (hb.cell (p := ⟨b, off + k * 3 + 1, none⟩) hbl).trans h1
      have h2' := (hb.cell (p := ⟨b, off + k * 3 + 2, none⟩) hbl).trans h2
      clear h0 h1 h2
      go_wp2_with (refine (hm wr hb).mono ?_; rintro e w1 ⟨rfl, hb1⟩)
      · have h1 : p xs[k] = true := by assumption
        go_ret
        exact ⟨by rw [Hi.out, idxBy_hit p xs k hlt h1]; rfl, hb.trans (hb1.mono hb.size)⟩
      · have h1 : p xs[k] = false := by assumption
        go_roundw
        case rel => exact ⟨k + 1, by omega, by go_num, hb.trans (hb1.mono hb.size), by rw [Hi.out, idxBy_miss p xs k hlt h1]⟩
        case measure => simp [intOf]; omega
    · go_wp2
      go_ret
      exact ⟨by rw [Hi.out, idxBy_end p xs k k (by omega)]; rfl, hb⟩

set_option maxHeartbeats 400000 in
theorem containsFunc_entry (a : Option Addr) (xs : List Ent) (c : Nat) (g : FuncId) (first cap : Array Value) (p : Ent → Bool) (w : World) (hl : xs.length ≤ 9223372036854775807) (hx : EntsAt w a xs)
    (hg : ∀ args w, Sem.run Try.prog (callFunc g args) w = .ok (.enter g args) w) (hp : ∀ x ∈ xs, Meets Try.prog w g first cap (.agg #[.int .i64 x.num, .int .i64 x.at_, .bool x.skip]) (p x)) :
    Calls Try.prog 108 #[.slice a xs.length c, .func (.func g) first cap] w fun e w' => e = .returned (.bool (xs.any p)) ∧ Below w.heap.size w w' := by
  rw [← idxBy_any p xs 0]
  have hi := idxBy_le p xs 0
  go_enter Try.func108, Try.ntmps108
  go_wp2_with (go_at_call 123; refine (indexFunc_entry a xs c g first cap p w hl hx hg hp).mono ?_; rintro e w1 ⟨rfl, hb1⟩; obtain ⟨hc1, hf1, hz1⟩ := bcell hb1; (try simp at hz1); (try (have hy0 : w.heap.size < w1.heap.size := by omega)); (try (have hy1 : w.heap.size + 1 < w1.heap.size := by omega)); (try (have hy2 : w.heap.size + 2 < w1.heap.size := by omega)))
  go_ret
  exact ⟨rfl, hb1⟩

set_option maxHeartbeats 400000 in
theorem allNot_entry (x : Ent) (B : Nat) (g : FuncId) (first cap : Array Value) (q : Bool) (w : World) (hB : B < w.heap.size) (hc : w.cell? ⟨B, 0, none⟩ = some (.func (.func g) first cap))
    (hg : ∀ args w, Sem.run Try.prog (callFunc g args) w = .ok (.enter g args) w) (hm : Meets Try.prog w g first cap (.agg #[.int .i64 x.num, .int .i64 x.at_, .bool x.skip]) q) : Meets Try.prog w 110 #[] #[.pointer (some ⟨B, 0, none⟩)] (.agg #[.int .i64 x.num, .int .i64 x.at_, .bool x.skip]) !q := by
  intro w' hb'
  have hc' : w'.cell? ⟨B, 0, none⟩ = some (.func (.func g) first cap) := (hb'.cell (p := ⟨B, 0, none⟩) hB).trans hc
  have hBw : B < w'.heap.size := Nat.lt_of_lt_of_le hB hb'.size
  clear hc
  show Calls Try.prog 110 #[.agg #[.int .i64 x.num, .int .i64 x.at_, .bool x.skip], .pointer (some ⟨B, 0, none⟩)] w' _
  go_enter Try.func110, Try.ntmps110
  go_wp2_with (refine (hm _ (hb'.trans ((Below.refl _ _).alloc hb'.size _))).mono ?_; rintro e w1 ⟨rfl, hb1⟩)
  go_ret
  exact ⟨rfl, ((Below.refl _ _).alloc (Nat.le_refl _) _).trans (hb1.mono (by simp))⟩

set_option maxHeartbeats 400000 in
theorem all_entry (a : Option Addr) (xs : List Ent) (c : Nat) (g : FuncId) (first cap : Array Value) (p : Ent → Bool) (w : World) (hl : xs.length ≤ 9223372036854775807) (hx : EntsAt w a xs)
    (hg : ∀ args w, Sem.run Try.prog (callFunc g args) w = .ok (.enter g args) w) (hp : ∀ x ∈ xs, Meets Try.prog w g first cap (.agg #[.int .i64 x.num, .int .i64 x.at_, .bool x.skip]) (p x)) :
    Calls Try.prog 87 #[.slice a xs.length c, .func (.func g) first cap] w fun e w' => e = .returned (.bool (xs.all p)) ∧ Below w.heap.size w w' := by
  have e1 : xs.all p = !(xs.any fun x => !p x) := by rw [List.all_eq_not_any_not]
  rw [e1]
  have hb0 : Below w.heap.size w (w.alloc (.cells #[.func (.func g) first cap] 146)) := (Below.refl _ _).alloc (Nat.le_refl _) _
  go_enter Try.func87, Try.ntmps87
  go_wp2_with (go_at_call 108; refine (containsFunc_entry a xs c 110 #[] #[.pointer (some ⟨w.heap.size, 0, none⟩)] (fun x => !p x) _ hl (hx.below hb0) (enters Try.func110 (by kernel_rfl) rfl) (fun x hxx => allNot_entry x w.heap.size g first cap (p x) _ (by simp) (by rw [World.cell?_alloc_at _ _ _ _ rfl]; rfl) hg ((hp x hxx).below hb0))).mono ?_; rintro e w1 ⟨rfl, hb1⟩; obtain ⟨hc1, hf1, hz1⟩ := bcell hb1; (try simp at hz1); (try (have hy0 : w.heap.size < w1.heap.size := by omega)); (try (have hy1 : w.heap.size + 1 < w1.heap.size := by omega)); (try (have hy2 : w.heap.size + 2 < w1.heap.size := by omega)))
  go_ret
  exact ⟨by simp, hb0.trans (hb1.mono (by simp))⟩
end Go.Proofs.Ytfclemnkcpadpaa
