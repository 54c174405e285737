/- flash: CheckCode of a valid code -/
import Derived.Test.YtnofcpihkglmmaaFb
namespace Go.Proofs.Ytnofcpihkglmmaa
set_option linter.unusedVariables false
set_option linter.unusedSimpArgs false
set_option linter.unnecessarySimpa false
open Go.RowKit Go.Flow

def sameS (x y : ByteArray) : Bool := x.toList == y.toList
theorem StrsAt.take {w : World} {a : Option Addr} {xs : List ByteArray} (h : StrsAt w a xs) (k : Nat) : StrsAt w a (xs.take k) := fun j hj => by
  have hj' : j < xs.length := by rw [List.length_take] at hj; omega
  rw [show (xs.take k)[j] = xs[j] from List.getElem_take]
  exact h j hj'
set_option maxHeartbeats 400000 in
theorem contains_str (a : Option Addr) (xs : List ByteArray) (n c : Nat) (hn : xs.length = n) (x : ByteArray) (w : World) (hl : n ≤ 9223372036854775807) (hx : StrsAt w a xs) (R : Bool) (hR : Hid (xs.any (fun y => x.toList == y.toList) = R)) :
    Calls Try.prog 70 #[.slice a n c, .string x] w fun e w' => e = .returned (.bool R) ∧ w = w' := by
  subst hn
  rw [← hR.out, ← idxBy_any _ xs 0]
  have hi := idxBy_le (fun y : ByteArray => x.toList == y.toList) xs 0
  go_enter Try.func70, Try.ntmps70
  go_wp2_with (go_at_call 85; refine (index_str a xs c x _ hl hx).mono ?_; rintro e w' ⟨rfl, rfl⟩)
  go_ret
  exact ⟨rfl, rfl⟩
/-- A valid code. -/
structure CodeOk (ss : List ByteArray) : Prop where
  pos : 0 < ss.length
  le : ss.length ≤ 6
  letters : ∀ s ∈ ss, letterB [46, 45] 4 s = true
  size : ∀ s ∈ ss, 1 ≤ s.size ∧ s.size ≤ 4
  once : ∀ k (h : k < ss.length), (ss.take k).any (fun y => ss[k].toList == y.toList) = false
set_option maxRecDepth 100000 in
set_option maxHeartbeats 2000000 in
theorem checkCode_ok (a : Option Addr) (ss : List ByteArray) (c : Nat) (w : World) (hx : StrsAt w a ss) (hc : ss.length ≤ c) (ok : CodeOk ss) :
    Calls Try.prog 48 #[.agg #[.slice a ss.length c]] w fun e w' => e = .returned (.int .i64 0) ∧ Below w.heap.size w w' := by
  have hp := ok.pos
  have h6 := ok.le
  obtain ⟨b0, o0, rfl, _⟩ := hx 0 hp
  have f1 : decide ((6 : Int) < (ss.length : Int)) = false := by simp; omega
  have f2 : ((ss.length : Int) == 0) = false := by rw [beq_eq_false_iff_ne]; omega
  have C0 := Cells.new w #[.slice (some ⟨b0, o0, none⟩) ss.length c] 64
  have hall := fun W (b : Below w.heap.size w W) => all_str (some ⟨b0, o0, none⟩) ss c 68 #[.agg #[.string ⟨#[46, 45]⟩, .int .i64 4]] #[] (fun s => letterB [46, 45] 4 s) W (by omega) (hx.below b) (enters Try.func68 (by kernel_rfl) rfl) (fun s hs w1 _ => letter_any ⟨#[46, 45]⟩ 4 s w1 (by have := ok.size s hs; omega))
  rw [show ss.all (fun s => letterB [46, 45] 4 s) = true from List.all_eq_true.2 ok.letters] at hall
  have Ho := Lib.hid ok.once
  have hc0 : ¬ c = 0 := by omega
  clear ok
  go_enter Try.func48, Try.ntmps48
  go_wp2_with fail
  go_at_call 69
  refine (hall _ (by (repeat (first | exact Below.refl _ _ | refine Below.alloc ?_ (by first | omega | (simp; done) | (simp; omega)) _ | refine Below.drew ?_ | refine Below.setCell ?_ (by first | omega | (simp; done) | (simp; omega)) _ | refine Below.trans ?_ (Below.mono (by assumption) (by first | omega | (simp; done) | (simp; omega))))))).mono ?_
  rintro e w1 ⟨rfl, b1⟩
  have C1 := C0.below b1
  have q0 := C1.cell 0
  simp at q0
  have lq := C1.lt
  have t1 : Below w.heap.size w w1 := by (repeat (first | exact Below.refl _ _ | refine Below.alloc ?_ (by first | omega | (simp; done) | (simp; omega)) _ | refine Below.drew ?_ | refine Below.setCell ?_ (by first | omega | (simp; done) | (simp; omega)) _ | refine Below.trans ?_ (Below.mono (by assumption) (by first | omega | (simp; done) | (simp; omega)))))
  have hx1 := hx.below t1
  clear hall C0 C1 b1
  go_wp2
  go_loopw [4, 5, 26] (fun _ _ i X => ∃ k : Nat, k ≤ ss.length ∧ i = .int .i64 k ∧ X = w1) (fun _ _ i _ => ss.length - (intOf i).toNat)
  case atStart => exact ⟨0, Nat.zero_le _, rfl, rfl⟩
  case round =>
    obtain ⟨k, hk, rfl, rfl⟩ := hrel
    by_cases hlt : k < ss.length
    · have hkI : (k : Int) < (ss.length : Int) := by omega
      have hkI2 : (k : Int) ≤ (ss.length : Int) := by omega
      have hkc : (k : Int) ≤ (c : Int) := by omega
      obtain ⟨_, _, e, hb, hcl⟩ := hx1 k hlt
      cases e
      have HR := Lib.hid (Ho.out k hlt)
      have htk := hx1.take k
      have hct := contains_str (some ⟨b0, o0, none⟩) (ss.take k) k c (by simp; omega) ss[k] wr (by omega) htk false HR
      obtain ⟨s, hs⟩ : ∃ s, ss[k] = s := ⟨_, rfl⟩
      rw [hs] at hcl hct
      clear hs HR htk
      go_wp2_with (go_at_call 70; refine hct.mono ?_; rintro e _ ⟨rfl, rfl⟩)
      go_roundw
      case rel => exact ⟨k + 1, by omega, by go_num, by trivial⟩
      case measure => simp [intOf]; omega
    · go_wp2
      go_ret
      exact ⟨rfl, t1⟩
end Go.Proofs.Ytnofcpihkglmmaa
