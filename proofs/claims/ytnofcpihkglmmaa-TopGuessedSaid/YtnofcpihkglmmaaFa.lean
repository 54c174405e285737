/- flash: generics over strings, bytes, ints -/
import Derived.Test.YtnofcpihkglmmaaOwn
import Derived.Test.YtnofcpihkglmmaaFlo
import Derived.Test.YtnofcpihkglmmaaCel
import Derived.Test.YtnofcpihkglmmaaCep
namespace Go.Proofs.Ytnofcpihkglmmaa
set_option linter.unusedVariables false
set_option linter.unusedSimpArgs false
set_option linter.unnecessarySimpa false
open Go.RowKit Go.Flow

theorem f2_cell_ltK {w : World} {b o : Nat} {v : Value} (h : w.cell? ⟨b, o, none⟩ = some v) : b < w.heap.size := by
  rcases Nat.lt_or_ge b w.heap.size with hl | hl
  · exact hl
  · simp [World.cell?, Array.getElem?_eq_none hl] at h
/-- Strings in a slice. -/
def StrsAt (w : World) (a : Option Addr) (xs : List ByteArray) : Prop :=
  ∀ k (h : k < xs.length), ∃ b off, a = some ⟨b, off, none⟩ ∧ b < w.heap.size ∧ w.cell? ⟨b, off + k, none⟩ = some (.string xs[k])
theorem StrsAt.below {w w' : World} {a : Option Addr} {xs : List ByteArray} (h : StrsAt w a xs) (hb : Below w.heap.size w w') : StrsAt w' a xs := fun k hk =>
  let ⟨b, off, ha, hlt, hc⟩ := h k hk
  ⟨b, off, ha, Nat.lt_of_lt_of_le hlt hb.size, (hb.cell (p := ⟨b, off + k, none⟩) hlt).trans hc⟩
/-- Bytes in a slice. -/
def BytsAt (w : World) (a : Option Addr) (xs : List UInt8) : Prop :=
  ∀ k (h : k < xs.length), ∃ b off, a = some ⟨b, off, none⟩ ∧ b < w.heap.size ∧ w.cell? ⟨b, off + k, none⟩ = some (.int .u8 (xs[k].toNat : Int))
theorem BytsAt.below {w w' : World} {a : Option Addr} {xs : List UInt8} (h : BytsAt w a xs) (hb : Below w.heap.size w w') : BytsAt w' a xs := fun k hk =>
  let ⟨b, off, ha, hlt, hc⟩ := h k hk
  ⟨b, off, ha, Nat.lt_of_lt_of_le hlt hb.size, (hb.cell (p := ⟨b, off + k, none⟩) hlt).trans hc⟩
set_option maxRecDepth 100000 in
set_option maxHeartbeats 400000 in
theorem indexFunc_str (a : Option Addr) (xs : List ByteArray) (c : Nat) (g : FuncId) (first cap : Array Value) (p : ByteArray → Bool) (w : World) (hl : xs.length ≤ 9223372036854775807) (hx : StrsAt w a xs)
    (hg : ∀ args w, Sem.run Try.prog (callFunc g args) w = .ok (.enter g args) w) (hp : ∀ x ∈ xs, Meets Try.prog w g first cap (.string x) (p x)) :
    Calls Try.prog 94 #[.slice a xs.length c, .func (.func g) first cap] w fun e w' => e = .returned (.int .i64 (idxBy p xs 0)) ∧ Below w.heap.size w w' := by
  go_enter Try.func94, Try.ntmps94
  go_wp2
  go_loopw [5, 8] (fun _ i wr => ∃ k : Nat, k ≤ xs.length ∧ i = .int .i64 k ∧ Below w.heap.size w wr ∧ idxBy p xs 0 = idxBy p (xs.drop k) k) (fun _ i _ => xs.length - (intOf i).toNat)
  case atStart => exact ⟨0, Nat.zero_le _, rfl, Below.refl _ _, by simp⟩
  case round =>
    obtain ⟨k, hk, rfl, hb, hi⟩ := hrel
    have Hi := Lib.hid hi
    clear hi
    by_cases hlt : k < xs.length
    · obtain ⟨b, off, rfl, hbl, hc⟩ := hx k hlt
      have hm := hp xs[k] (List.getElem_mem hlt)
      have hc' : wr.cell? ⟨b, off + k, none⟩ = some (.string xs[k]) := (hb.cell (p := ⟨b, off + k, none⟩) hbl).trans hc
      clear hc
      go_wp2_with (refine (hm wr hb).mono ?_; rintro e w1 ⟨rfl, hb1⟩)
      · have h1 : p xs[k] = true := by assumption
        go_ret
        exact ⟨by rw [Hi.out, idxBy_hit p xs k hlt h1]; rfl, hb.trans (hb1.mono hb.size)⟩
      · have h1 : p xs[k] = false := by assumption
        go_roundw
        case rel => exact ⟨k + 1, by omega, by go_num, hb.trans (hb1.mono hb.size), by rw [Hi.out, idxBy_miss p xs k hlt h1]⟩
        case measure => simp [intOf]; omega
    · go_wp2
      go_ret
      exact ⟨by rw [Hi.out, idxBy_end p xs k k (by omega)]; rfl, hb⟩
set_option maxHeartbeats 400000 in
theorem containsFunc_str (a : Option Addr) (xs : List ByteArray) (c : Nat) (g : FuncId) (first cap : Array Value) (p : ByteArray → Bool) (w : World) (hl : xs.length ≤ 9223372036854775807) (hx : StrsAt w a xs)
    (hg : ∀ args w, Sem.run Try.prog (callFunc g args) w = .ok (.enter g args) w) (hp : ∀ x ∈ xs, Meets Try.prog w g first cap (.string x) (p x)) :
    Calls Try.prog 83 #[.slice a xs.length c, .func (.func g) first cap] w fun e w' => e = .returned (.bool (xs.any p)) ∧ Below w.heap.size w w' := by
  rw [← idxBy_any p xs 0]
  have hi := idxBy_le p xs 0
  go_enter Try.func83, Try.ntmps83
  go_wp2_with (go_at_call 94; refine (indexFunc_str a xs c g first cap p w hl hx hg hp).mono ?_; rintro e w1 ⟨rfl, hb1⟩; obtain ⟨hc1, hf1, hz1⟩ := bcell hb1; (try simp at hz1); (try (have hy0 : w.heap.size < w1.heap.size := by omega)); (try (have hy1 : w.heap.size + 1 < w1.heap.size := by omega)); (try (have hy2 : w.heap.size + 2 < w1.heap.size := by omega)))
  go_ret
  exact ⟨rfl, hb1⟩
set_option maxHeartbeats 400000 in
theorem allNot_str (x : ByteArray) (B : Nat) (g : FuncId) (first cap : Array Value) (q : Bool) (w : World) (hB : B < w.heap.size) (hc : w.cell? ⟨B, 0, none⟩ = some (.func (.func g) first cap))
    (hg : ∀ args w, Sem.run Try.prog (callFunc g args) w = .ok (.enter g args) w) (hm : Meets Try.prog w g first cap (.string x) q) : Meets Try.prog w 84 #[] #[.pointer (some ⟨B, 0, none⟩)] (.string x) !q := by
  intro w' hb'
  have hc' : w'.cell? ⟨B, 0, none⟩ = some (.func (.func g) first cap) := (hb'.cell (p := ⟨B, 0, none⟩) hB).trans hc
  have hBw : B < w'.heap.size := Nat.lt_of_lt_of_le hB hb'.size
  clear hc
  show Calls Try.prog 84 #[.string x, .pointer (some ⟨B, 0, none⟩)] w' _
  go_enter Try.func84, Try.ntmps84
  go_wp2_with (refine (hm _ hb').mono ?_; rintro e w1 ⟨rfl, hb1⟩)
  go_ret
  exact ⟨rfl, hb1⟩
set_option maxHeartbeats 400000 in
theorem all_str (a : Option Addr) (xs : List ByteArray) (c : Nat) (g : FuncId) (first cap : Array Value) (p : ByteArray → Bool) (w : World) (hl : xs.length ≤ 9223372036854775807) (hx : StrsAt w a xs)
    (hg : ∀ args w, Sem.run Try.prog (callFunc g args) w = .ok (.enter g args) w) (hp : ∀ x ∈ xs, Meets Try.prog w g first cap (.string x) (p x)) :
    Calls Try.prog 69 #[.slice a xs.length c, .func (.func g) first cap] w fun e w' => e = .returned (.bool (xs.all p)) ∧ Below w.heap.size w w' := by
  have e1 : xs.all p = !(xs.any fun x => !p x) := by rw [List.all_eq_not_any_not]
  rw [e1]
  have hb0 : Below w.heap.size w (w.alloc (.cells #[.func (.func g) first cap] 111)) := (Below.refl _ _).alloc (Nat.le_refl _) _
  go_enter Try.func69, Try.ntmps69
  go_wp2_with (go_at_call 83; refine (containsFunc_str a xs c 84 #[] #[.pointer (some ⟨w.heap.size, 0, none⟩)] (fun x => !p x) _ hl (hx.below hb0) (enters Try.func84 (by kernel_rfl) rfl) (fun x hxx => allNot_str x w.heap.size g first cap (p x) _ (by simp) (by rw [World.cell?_alloc_at _ _ _ _ rfl]; rfl) hg ((hp x hxx).below hb0))).mono ?_; rintro e w1 ⟨rfl, hb1⟩; obtain ⟨hc1, hf1, hz1⟩ := bcell hb1; (try simp at hz1); (try (have hy0 : w.heap.size < w1.heap.size := by omega)); (try (have hy1 : w.heap.size + 1 < w1.heap.size := by omega)); (try (have hy2 : w.heap.size + 2 < w1.heap.size := by omega)))
  go_ret
  exact ⟨by simp, hb0.trans (hb1.mono (by simp))⟩
set_option maxRecDepth 100000 in
set_option maxHeartbeats 400000 in
theorem indexFunc_byt (a : Option Addr) (xs : List UInt8) (c : Nat) (g : FuncId) (first cap : Array Value) (p : UInt8 → Bool) (w : World) (hl : xs.length ≤ 9223372036854775807) (hx : BytsAt w a xs)
    (hg : ∀ args w, Sem.run Try.prog (callFunc g args) w = .ok (.enter g args) w) (hp : ∀ x ∈ xs, Meets Try.prog w g first cap (.int .u8 (x.toNat : Int)) (p x)) :
    Calls Try.prog 96 #[.slice a xs.length c, .func (.func g) first cap] w fun e w' => e = .returned (.int .i64 (idxBy p xs 0)) ∧ Below w.heap.size w w' := by
  go_enter Try.func96, Try.ntmps96
  go_wp2
  go_loopw [5, 8] (fun _ i wr => ∃ k : Nat, k ≤ xs.length ∧ i = .int .i64 k ∧ Below w.heap.size w wr ∧ idxBy p xs 0 = idxBy p (xs.drop k) k) (fun _ i _ => xs.length - (intOf i).toNat)
  case atStart => exact ⟨0, Nat.zero_le _, rfl, Below.refl _ _, by simp⟩
  case round =>
    obtain ⟨k, hk, rfl, hb, hi⟩ := hrel
    have Hi := Lib.hid hi
    clear hi
    by_cases hlt : k < xs.length
    · obtain ⟨b, off, rfl, hbl, hc⟩ := hx k hlt
      have hm := hp xs[k] (List.getElem_mem hlt)
      have hc' : wr.cell? ⟨b, off + k, none⟩ = some (.int .u8 (xs[k].toNat : Int)) := (hb.cell (p := ⟨b, off + k, none⟩) hbl).trans hc
      clear hc
      go_wp2_with (refine (hm wr hb).mono ?_; rintro e w1 ⟨rfl, hb1⟩)
      · have h1 : p xs[k] = true := by assumption
        go_ret
        exact ⟨by rw [Hi.out, idxBy_hit p xs k hlt h1]; rfl, hb.trans (hb1.mono hb.size)⟩
      · have h1 : p xs[k] = false := by assumption
        go_roundw
        case rel => exact ⟨k + 1, by omega, by go_num, hb.trans (hb1.mono hb.size), by rw [Hi.out, idxBy_miss p xs k hlt h1]⟩
        case measure => simp [intOf]; omega
    · go_wp2
      go_ret
      exact ⟨by rw [Hi.out, idxBy_end p xs k k (by omega)]; rfl, hb⟩
set_option maxHeartbeats 400000 in
theorem containsFunc_byt (a : Option Addr) (xs : List UInt8) (c : Nat) (g : FuncId) (first cap : Array Value) (p : UInt8 → Bool) (w : World) (hl : xs.length ≤ 9223372036854775807) (hx : BytsAt w a xs)
    (hg : ∀ args w, Sem.run Try.prog (callFunc g args) w = .ok (.enter g args) w) (hp : ∀ x ∈ xs, Meets Try.prog w g first cap (.int .u8 (x.toNat : Int)) (p x)) :
    Calls Try.prog 87 #[.slice a xs.length c, .func (.func g) first cap] w fun e w' => e = .returned (.bool (xs.any p)) ∧ Below w.heap.size w w' := by
  rw [← idxBy_any p xs 0]
  have hi := idxBy_le p xs 0
  go_enter Try.func87, Try.ntmps87
  go_wp2_with (go_at_call 96; refine (indexFunc_byt a xs c g first cap p w hl hx hg hp).mono ?_; rintro e w1 ⟨rfl, hb1⟩; obtain ⟨hc1, hf1, hz1⟩ := bcell hb1; (try simp at hz1); (try (have hy0 : w.heap.size < w1.heap.size := by omega)); (try (have hy1 : w.heap.size + 1 < w1.heap.size := by omega)); (try (have hy2 : w.heap.size + 2 < w1.heap.size := by omega)))
  go_ret
  exact ⟨rfl, hb1⟩
set_option maxHeartbeats 400000 in
theorem allNot_byt (x : UInt8) (B : Nat) (g : FuncId) (first cap : Array Value) (q : Bool) (w : World) (hB : B < w.heap.size) (hc : w.cell? ⟨B, 0, none⟩ = some (.func (.func g) first cap))
    (hg : ∀ args w, Sem.run Try.prog (callFunc g args) w = .ok (.enter g args) w) (hm : Meets Try.prog w g first cap (.int .u8 (x.toNat : Int)) q) : Meets Try.prog w 88 #[] #[.pointer (some ⟨B, 0, none⟩)] (.int .u8 (x.toNat : Int)) !q := by
  intro w' hb'
  have hc' : w'.cell? ⟨B, 0, none⟩ = some (.func (.func g) first cap) := (hb'.cell (p := ⟨B, 0, none⟩) hB).trans hc
  have hBw : B < w'.heap.size := Nat.lt_of_lt_of_le hB hb'.size
  clear hc
  show Calls Try.prog 88 #[.int .u8 (x.toNat : Int), .pointer (some ⟨B, 0, none⟩)] w' _
  go_enter Try.func88, Try.ntmps88
  go_wp2_with (refine (hm _ hb').mono ?_; rintro e w1 ⟨rfl, hb1⟩)
  go_ret
  exact ⟨rfl, hb1⟩
set_option maxHeartbeats 400000 in
theorem all_byt (a : Option Addr) (xs : List UInt8) (c : Nat) (g : FuncId) (first cap : Array Value) (p : UInt8 → Bool) (w : World) (hl : xs.length ≤ 9223372036854775807) (hx : BytsAt w a xs)
    (hg : ∀ args w, Sem.run Try.prog (callFunc g args) w = .ok (.enter g args) w) (hp : ∀ x ∈ xs, Meets Try.prog w g first cap (.int .u8 (x.toNat : Int)) (p x)) :
    Calls Try.prog 74 #[.slice a xs.length c, .func (.func g) first cap] w fun e w' => e = .returned (.bool (xs.all p)) ∧ Below w.heap.size w w' := by
  have e1 : xs.all p = !(xs.any fun x => !p x) := by rw [List.all_eq_not_any_not]
  rw [e1]
  have hb0 : Below w.heap.size w (w.alloc (.cells #[.func (.func g) first cap] 116)) := (Below.refl _ _).alloc (Nat.le_refl _) _
  go_enter Try.func74, Try.ntmps74
  go_wp2_with (go_at_call 87; refine (containsFunc_byt a xs c 88 #[] #[.pointer (some ⟨w.heap.size, 0, none⟩)] (fun x => !p x) _ hl (hx.below hb0) (enters Try.func88 (by kernel_rfl) rfl) (fun x hxx => allNot_byt x w.heap.size g first cap (p x) _ (by simp) (by rw [World.cell?_alloc_at _ _ _ _ rfl]; rfl) hg ((hp x hxx).below hb0))).mono ?_; rintro e w1 ⟨rfl, hb1⟩; obtain ⟨hc1, hf1, hz1⟩ := bcell hb1; (try simp at hz1); (try (have hy0 : w.heap.size < w1.heap.size := by omega)); (try (have hy1 : w.heap.size + 1 < w1.heap.size := by omega)); (try (have hy2 : w.heap.size + 2 < w1.heap.size := by omega)))
  go_ret
  exact ⟨by simp, hb0.trans (hb1.mono (by simp))⟩
set_option maxRecDepth 100000 in
set_option maxHeartbeats 400000 in
theorem indexFunc_fint (a : Option Addr) (xs : List Int) (c : Nat) (g : FuncId) (first cap : Array Value) (p : Int → Bool) (w : World) (hl : xs.length ≤ 9223372036854775807) (hx : IntsAt w a xs)
    (hg : ∀ args w, Sem.run Try.prog (callFunc g args) w = .ok (.enter g args) w) (hp : ∀ x ∈ xs, Meets Try.prog w g first cap (.int .i64 x) (p x)) :
    Calls Try.prog 67 #[.slice a xs.length c, .func (.func g) first cap] w fun e w' => e = .returned (.int .i64 (idxBy p xs 0)) ∧ Below w.heap.size w w' := by
  go_enter Try.func67, Try.ntmps67
  go_wp2
  go_loopw [5, 8] (fun _ i wr => ∃ k : Nat, k ≤ xs.length ∧ i = .int .i64 k ∧ Below w.heap.size w wr ∧ idxBy p xs 0 = idxBy p (xs.drop k) k) (fun _ i _ => xs.length - (intOf i).toNat)
  case atStart => exact ⟨0, Nat.zero_le _, rfl, Below.refl _ _, by simp⟩
  case round =>
    obtain ⟨k, hk, rfl, hb, hi⟩ := hrel
    have Hi := Lib.hid hi
    clear hi
    by_cases hlt : k < xs.length
    · obtain ⟨b, off, rfl, hbl, hc⟩ := hx k hlt
      have hm := hp xs[k] (List.getElem_mem hlt)
      have hc' : wr.cell? ⟨b, off + k, none⟩ = some (.int .i64 (xs.getD k 0)) := (hb.cell (p := ⟨b, off + k, none⟩) hbl).trans hc
      clear hc
      go_wp2_with (refine (hm wr hb).mono ?_; rintro e w1 ⟨rfl, hb1⟩)
      · have h1 : p xs[k] = true := by assumption
        go_ret
        exact ⟨by rw [Hi.out, idxBy_hit p xs k hlt h1]; rfl, hb.trans (hb1.mono hb.size)⟩
      · have h1 : p xs[k] = false := by assumption
        go_roundw
        case rel => exact ⟨k + 1, by omega, by go_num, hb.trans (hb1.mono hb.size), by rw [Hi.out, idxBy_miss p xs k hlt h1]⟩
        case measure => simp [intOf]; omega
    · go_wp2
      go_ret
      exact ⟨by rw [Hi.out, idxBy_end p xs k k (by omega)]; rfl, hb⟩
set_option maxHeartbeats 400000 in
theorem containsFunc_fint (a : Option Addr) (xs : List Int) (c : Nat) (g : FuncId) (first cap : Array Value) (p : Int → Bool) (w : World) (hl : xs.length ≤ 9223372036854775807) (hx : IntsAt w a xs)
    (hg : ∀ args w, Sem.run Try.prog (callFunc g args) w = .ok (.enter g args) w) (hp : ∀ x ∈ xs, Meets Try.prog w g first cap (.int .i64 x) (p x)) :
    Calls Try.prog 65 #[.slice a xs.length c, .func (.func g) first cap] w fun e w' => e = .returned (.bool (xs.any p)) ∧ Below w.heap.size w w' := by
  rw [← idxBy_any p xs 0]
  have hi := idxBy_le p xs 0
  go_enter Try.func65, Try.ntmps65
  go_wp2_with (go_at_call 67; refine (indexFunc_fint a xs c g first cap p w hl hx hg hp).mono ?_; rintro e w1 ⟨rfl, hb1⟩; obtain ⟨hc1, hf1, hz1⟩ := bcell hb1; (try simp at hz1); (try (have hy0 : w.heap.size < w1.heap.size := by omega)); (try (have hy1 : w.heap.size + 1 < w1.heap.size := by omega)); (try (have hy2 : w.heap.size + 2 < w1.heap.size := by omega)))
  go_ret
  exact ⟨rfl, hb1⟩
end Go.Proofs.Ytnofcpihkglmmaa
