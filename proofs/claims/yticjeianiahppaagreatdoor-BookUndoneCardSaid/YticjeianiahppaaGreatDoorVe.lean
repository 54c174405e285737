/- book, laws: numbers in decimal (the reference's Text), one more line -/
import Derived.Test.YticjeianiahppaaGreatDoorBS
import Derived.Test.YticjeianiahppaaGreatDoorBA
namespace Go.Proofs.YticjeianiahppaaGreatDoor
set_option linter.unusedVariables false
set_option linter.unusedSimpArgs false
set_option linter.unnecessarySimpa false
open Go.RowKit Go.Flow
/-- How far the digits are written: what is left, whether none is written yet, and what is written. -/
def TxAt (n m : Nat) (first : Bool) (out : List UInt8) : Prop :=
  (first = true ∧ m = n ∧ out = []) ∨ (first = false ∧ (if m = 0 then [] else Lib.decDigits m) ++ out = Lib.decDigits n)
theorem digits_next3 (m : Nat) : (if m / 10 = 0 then [] else Lib.decDigits (m / 10)) ++ [UInt8.ofNat (48 + m % 10)] = Lib.decDigits m := by
  conv => rhs; rw [Lib.decDigits]
  split
  · rename_i h
    rw [dif_pos (by omega), Nat.mod_eq_of_lt (by omega)]; rfl
  · rename_i h
    rw [dif_neg (by omega)]
theorem TxAt.next {n m : Nat} {first : Bool} {out : List UInt8} (h : TxAt n m first out) (hm : first = true ∨ 0 < m) : TxAt n (m / 10) false (UInt8.ofNat (48 + m % 10) :: out) := by
  refine .inr ⟨rfl, ?_⟩
  rcases h with ⟨_, rfl, rfl⟩ | ⟨hf, h⟩
  · exact digits_next3 _
  · have hm : 0 < m := by rcases hm with e | e; · rw [e] at hf; cases hf
                          · exact e
    rw [if_neg (by omega)] at h
    rw [← h, ← digits_next3 m]
    simp
theorem TxAt.done {n : Nat} {out : List UInt8} (h : TxAt n 0 false out) : out = Lib.decDigits n := by
  rcases h with ⟨h, _⟩ | ⟨_, h⟩
  · cases h
  · simpa using h
theorem digits_len3 (m : Nat) : ∀ k, m < 10 ^ k → (Lib.decDigits m).length ≤ k ∨ k = 0 := by
  intro k
  induction k generalizing m with
  | zero => intro _; exact .inr rfl
  | succ k ih =>
    intro h
    left
    rw [Lib.decDigits]
    split
    · simp
    · rename_i hm
      rw [List.length_append]
      rcases ih (m / 10) (by rw [Nat.pow_succ] at h; omega) with e | e
      · simp; omega
      · subst e; simp at h; omega
theorem itoa_nat3 (n : Nat) : Lib.itoa (n : Int) = Lib.decDigits n := by unfold Lib.itoa; rw [if_neg (by omega), Int.toNat_natCast]
theorem itoa_len3 (n : Nat) (h : n < 1000) : (Lib.itoa (n : Int)).length ≤ 3 := by
  rw [itoa_nat3]
  rcases digits_len3 n 3 (by simpa using h) with e | e
  · exact e
  · cases e
set_option maxRecDepth 100000 in
set_option maxHeartbeats 1000000 in
theorem Text_any (n : Nat) (w : World) (hn : n < 1000) :
    Calls Tryz.prog 63 #[.int .i64 n] w fun e w' => e = .returned (.string ⟨(Lib.itoa (n : Int)).toArray⟩) ∧ Below w.heap.size w w' := by
  rw [itoa_nat3]
  have hn0 : ¬ ((n : Int) < 0) := by omega
  go_enter Tryz.func63, Tryz.ntmps63
  go_wp2_with fail
  go_loopw [3, 4, 5] (fun o m f X => ∃ (k : Nat) (b : Bool) (out : List UInt8), o = .string ⟨out.toArray⟩ ∧ m = .int .i64 k ∧ f = .bool b ∧ TxAt n k b out ∧ k ≤ n ∧ Below w.heap.size w X) (fun _ m f _ => (intOf m).toNat + (match f with | .bool true => 1 | _ => 0))
  case atStart => exact ⟨n, true, [], rfl, rfl, rfl, .inl ⟨rfl, rfl, rfl⟩, Nat.le_refl _, Below.refl _ _⟩
  case round =>
    obtain ⟨k, b, out, rfl, rfl, rfl, hT, hk, bX⟩ := hrel
    have hol : out.length ≤ 3 := by
      have h3 : (Lib.decDigits n).length ≤ 3 := by rcases digits_len3 n 3 (by simpa using hn) with e | e; · exact e
                                                   · cases e
      rcases hT with ⟨_, _, rfl⟩ | ⟨_, h⟩
      · simp
      · rw [← h, List.length_append] at h3; omega
    have hom : ¬ (9223372036854775807 < 1 + out.length) := by omega
    by_cases hg : b = true ∨ 0 < k
    · have hN := hT.next hg
      obtain ⟨d, hd⟩ : ∃ d : UInt8, UInt8.ofNat (48 + k % 10) = d := ⟨_, rfl⟩
      have hdI : ((d.toNat : Nat) : Int) = 48 + (k : Int) % 10 := by rw [← hd, UInt8.toNat_ofNat']; omega
      have w1 : IntKind.i64.wrap ((k : Int) % 10) = (k : Int) % 10 := IntWalk.i64_in _ (by omega)
      have w2 : IntKind.i64.wrap ((k : Int) / 10) = (k : Int) / 10 := IntWalk.i64_in _ (by omega)
      have w3 : IntKind.i64.wrap (48 + (k : Int) % 10) = 48 + (k : Int) % 10 := IntWalk.i64_in _ (by omega)
      have w4 : IntKind.u8.wrap (48 + (k : Int) % 10) = 48 + (k : Int) % 10 := by simp [IntKind.wrap, IntKind.bits, IntKind.signed]; omega
      rw [hd] at hN
      have hcv : (convert 128 9 (.slice (some ⟨wr.heap.size, 0, none⟩) 1 1)).run Tryz.prog (wr.alloc (.cells #[.int .u8 (48 + (k : Int) % 10)] 5)) = .ok (.string ⟨#[d]⟩) (wr.alloc (.cells #[.int .u8 (48 + (k : Int) % 10)] 5)) := by
        refine run_convert_bytes_back _ 128 9 5 ⟨wr.heap.size, 0, none⟩ 1 [d] Tryz.underlying128 Tryz.underlying5 Tryz.underlying9 fun j hj => ?_
        obtain rfl : j = 0 := by simpa using hj
        rw [addr_add]
        simp [hdI]
      have bY : Below w.heap.size w (wr.alloc (.cells #[.int .u8 (48 + (k : Int) % 10)] 5)) := bX.alloc bX.size _
      have ed : (⟨#[d]⟩ : ByteArray) ++ ⟨out.toArray⟩ = ⟨(d :: out).toArray⟩ := by
        have : ∀ a b : ByteArray, a.data.toList = b.data.toList → a = b := fun a b h => by
          obtain ⟨⟨a⟩⟩ := a
          obtain ⟨⟨b⟩⟩ := b
          simp at h
          rw [h]
        apply this
        simp
      cases b
      · have hk0 : 0 < k := by rcases hg with e | e; · cases e
                               · exact e
        have hk1 : (0 : Int) < (k : Int) := by omega
        go_wp2_with fail
        go_round
        case rel => exact ⟨k / 10, false, d :: out, rfl, by simp, rfl, hN, by omega, bY⟩
        case measure => simp [intOf]; omega
      · go_wp2_with fail
        go_round
        case rel => exact ⟨k / 10, false, d :: out, rfl, by simp, rfl, hN, by omega, bY⟩
        case measure => simp [intOf]; omega
    · obtain rfl : b = false := by cases b; · rfl
                                   · exact absurd (.inl rfl) hg
      obtain rfl : k = 0 := by omega
      have e := hT.done
      subst e
      go_wp2_with fail
      go_ret
      exact ⟨rfl, bX⟩
end Go.Proofs.YticjeianiahppaaGreatDoor
