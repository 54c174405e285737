/- flash: IndexByte, Index and Contains of strings, the flashes of a letter -/
import Derived.Test.YtnofcpihkglmmaaFa
import Derived.Lib.Strings
import Derived.Lib.Slices
import Derived.Lib.SlicesS
import Derived.Lib.Bytealg
import Derived.Laws.IdiomStrings
namespace Go.Proofs.Ytnofcpihkglmmaa
set_option linter.unusedVariables false
set_option linter.unusedSimpArgs false
set_option linter.unnecessarySimpa false
open Go.RowKit Go.Flow

set_option maxHeartbeats 1000000 in
set_option maxRecDepth 100000 in
theorem liteIndexByte (s : ByteArray) (c : Int) (w : World) :
    Calls Try.prog 95 #[.string s, .int .u8 c] w fun e w' => e = .returned (.int .i64 (Lib.indexByte s.data.toList c.toNat.toUInt8)) ∧ w' = w := by
  go_enter Try.func95, Try.ntmps95
  go_wp2
  rw [run_callFunc_extern Try.func98 (by kernel_rfl) (by kernel_rfl) (by kernel_rfl) (e := Extern.BytealgIndexByte.indexByte) (by kernel_rfl), Lib.run_indexByteString]
  simp only [Result.andThen]
  rw [Oper.upon_value]
  go_wp2
  go_ret
  exact ⟨rfl, rfl⟩
theorem stringsIndexByte (s : ByteArray) (c : Int) (w : World) :
    Calls Try.prog 86 #[.string s, .int .u8 c] w fun e w' => e = .returned (.int .i64 (Lib.indexByte s.data.toList c.toNat.toUInt8)) ∧ w' = w := by
  go_enter Try.func86, Try.ntmps86
  go_wp2_with (go_at_call 95; refine (liteIndexByte _ _ _).mono ?_; rintro e w' ⟨rfl, rfl⟩)
  go_ret
  exact ⟨rfl, rfl⟩
theorem indexByte_ge : ∀ (l : List UInt8) (c : UInt8), -1 ≤ Lib.indexByte l c
  | [], _ => by simp [Lib.indexByte]
  | b :: l, c => by
    have ih := indexByte_ge l c
    rw [Lib.indexByte]
    (repeat' split) <;> simp_all <;> omega
theorem indexByte_mem : ∀ (l : List UInt8) (c : UInt8), decide (0 ≤ Lib.indexByte l c) = l.contains c
  | [], c => by simp [Lib.indexByte]
  | b :: l, c => by
    have ih := indexByte_mem l c
    have hg := indexByte_ge l c
    rw [Lib.indexByte, List.contains_cons]
    by_cases h : (b == c) = true
    · rw [if_pos h]
      have : b = c := by simpa using h
      subst this
      simp
    · rw [if_neg h]
      have hb : (c == b) = false := by
        rw [Bool.eq_false_iff]; intro e; apply h
        have : c = b := by simpa using e
        simp [this]
      rw [hb, Bool.false_or, ← ih]
      by_cases h2 : (Lib.indexByte l c == -1) = true
      · rw [if_pos h2]
        have : Lib.indexByte l c = -1 := by simpa using h2
        rw [this]
      · rw [if_neg h2]
        have : Lib.indexByte l c ≠ -1 := by simpa using h2
        rw [decide_eq_decide]
        omega
theorem f2_has_any (bs : ByteArray) (most : Int) (b : UInt8) (w : World) :
    Calls Try.prog 72 #[.agg #[.string bs, .int .i64 most], .int .u8 (b.toNat : Int)] w fun e w' => e = .returned (.bool (bs.data.toList.contains b)) ∧ Below w.heap.size w w' := by
  have e : (b.toNat : Int).toNat.toUInt8 = b := by simp
  have hm := indexByte_mem bs.data.toList b
  have hi := fun w => stringsIndexByte bs (b.toNat : Int) w
  rw [e] at hi
  obtain ⟨x, hx⟩ : ∃ x, Lib.indexByte bs.data.toList b = x := ⟨_, rfl⟩
  rw [hx] at hm
  simp only [hx] at hi
  rw [← hm]
  clear hx hm
  go_enter Try.func72, Try.ntmps72
  go_wp2_with (go_at_call 86; refine (hi _).mono ?_; rintro e w' ⟨rfl, rfl⟩)
  go_ret
  exact ⟨rfl, (Below.refl _ _).alloc (Nat.le_refl _) _⟩
theorem f2_within_any (a b c : Int) (w : World) :
    Calls Try.prog 50 #[.int .i64 a, .int .i64 b, .int .i64 c] w fun e w' => e = .returned (.bool (decide (b ≤ a) && decide (a ≤ c))) ∧ w = w' := by
  by_cases h : b ≤ a
  · have h1 : decide (b ≤ a) = true := by simpa using h
    go_enter Try.func50, Try.ntmps50
    go_wp2
    go_ret
    exact ⟨by rw [h1]; rfl, rfl⟩
  · have h1 : decide (b ≤ a) = false := by simpa using h
    go_enter Try.func50, Try.ntmps50
    go_wp2
    go_ret
    first | exact ⟨rfl, rfl⟩ | exact ⟨by rw [h1]; rfl, rfl⟩
def letterB (bs : List UInt8) (most : Int) (s : ByteArray) : Bool := (decide ((1 : Int) ≤ (s.size : Int)) && decide ((s.size : Int) ≤ most)) && s.data.toList.all fun b => bs.contains b
set_option maxRecDepth 100000 in
set_option maxHeartbeats 1000000 in
theorem letter_any (bs : ByteArray) (most : Int) (s : ByteArray) (w : World) (hs : s.size ≤ 1000000) :
    Calls Try.prog 68 #[.agg #[.string bs, .int .i64 most], .string s] w fun e w' => e = .returned (.bool (letterB bs.data.toList most s)) ∧ Below w.heap.size w w' := by
  have wt := fun w => f2_within_any (s.size : Int) 1 most w
  unfold letterB
  obtain ⟨r, hr⟩ : ∃ r, (decide ((1 : Int) ≤ (s.size : Int)) && decide ((s.size : Int) ≤ most)) = r := ⟨_, rfl⟩
  rw [hr]
  simp only [hr] at wt
  clear hr
  cases r
  · go_enter Try.func68, Try.ntmps68
    go_wp2_with (go_at_call 50; refine (wt _).mono ?_; rintro e _ ⟨rfl, rfl⟩)
    go_ret
    exact ⟨rfl, by (repeat (first | exact Below.refl _ _ | refine Below.alloc ?_ (by first | omega | (simp; done) | (simp; omega)) _ | refine Below.drew ?_ | refine Below.setCell ?_ (by first | omega | (simp; done) | (simp; omega)) _ | refine Below.trans ?_ (Below.mono (by assumption) (by first | omega | (simp; done) | (simp; omega)))))⟩
  · obtain ⟨L, hL⟩ : ∃ L, s.data.toList = L := ⟨_, rfl⟩
    have hLs : L.length = s.size := by rw [← hL]; simp
    have HL := Lib.hid hL
    rw [hL]
    have hLl : L.length ≤ 1000000 := by omega
    clear hL
    obtain ⟨q, hq⟩ : ∃ q : UInt8 → Bool, (fun b => bs.data.toList.contains b) = q := ⟨_, rfl⟩
    rw [hq]
    have hqb : ∀ b, bs.data.toList.contains b = q b := fun b => by rw [← hq]
    have Hqb := Lib.hid hqb
    clear hq hqb
    have HLs := Lib.hid hLs
    clear hLs
    go_enter Try.func68, Try.ntmps68
    have hcv := run_bytes_of_string (P := Try.prog) (w.alloc (.cells #[.string bs, .int .i64 most] 113)) 9 118 5 s Try.underlying9 Try.underlying118 Try.underlying5
    obtain ⟨W2, cc, hW2, hat, hb2, q0, q1⟩ : ∃ (W2 : World) (cc : Nat), Sem.run Try.prog (convert 9 118 (.string s)) (w.alloc (.cells #[.string bs, .int .i64 most] 113)) = .ok (.slice (some ⟨(w.alloc (.cells #[.string bs, .int .i64 most] 113)).heap.size, 0, none⟩) L.length cc) W2 ∧ BytsAt W2 (some ⟨(w.alloc (.cells #[.string bs, .int .i64 most] 113)).heap.size, 0, none⟩) L ∧ Below w.heap.size w W2 ∧ W2.cell? ⟨w.heap.size, 0, none⟩ = some (.string bs) ∧ W2.cell? ⟨w.heap.size, 1, none⟩ = some (.int .i64 most) := by
      have C0 := Cells.new w #[.string bs, .int .i64 most] 113
      obtain ⟨W1, hW1⟩ : ∃ W1, W1 = w.alloc (.cells #[.string bs, .int .i64 most] 113) := ⟨_, rfl⟩
      have b1 : Below w.heap.size w W1 := by rw [hW1]; (repeat (first | exact Below.refl _ _ | refine Below.alloc ?_ (by first | omega | (simp; done) | (simp; omega)) _ | refine Below.drew ?_ | refine Below.setCell ?_ (by first | omega | (simp; done) | (simp; omega)) _ | refine Below.trans ?_ (Below.mono (by assumption) (by first | omega | (simp; done) | (simp; omega)))))
      rw [← hW1] at hcv C0 ⊢
      have bb : Below W1.heap.size W1 (W1.drew.alloc (.cells (bytesRow s (grownCap W1 s.size 0 5)) 5 ((bytesRow s (grownCap W1 s.size 0 5)).size, (bytesRow s (grownCap W1 s.size 0 5)).size + 1))) := ((Below.refl _ _).drew).alloc (Nat.le_refl _) _
      have C1 := C0.below bb
      refine ⟨_, _, by rw [HLs.out]; exact hcv, fun k hk => ⟨W1.heap.size, 0, rfl, by simp [World.alloc], ?_⟩, b1.trans (bb.mono b1.size), C1.cell 0, C1.cell 1⟩
      have hk2 : k < s.data.size := by have h1 := HLs.out; have h2 : s.size = s.data.size := rfl; omega
      have e : L[k] = s.data[k] := by have := HL.out; subst this; simp
      rw [Nat.zero_add, cell_of_row _ W1.heap.size k _ _ _ (heap_alloc_new W1.drew _), bytesRow_at s _ k hk2, e]
    have lq := f2_cell_ltK q0
    rw [show (w.alloc (.cells #[.string bs, .int .i64 most] 113)).heap.size = w.heap.size + 1 by simp] at hat
    have hall := all_byt (some ⟨w.heap.size + 1, 0, none⟩) L cc 72 #[.agg #[.string bs, .int .i64 most]] #[] q W2 (by omega) hat (enters Try.func72 (by kernel_rfl) rfl) (fun b _ w1 _ => by have := f2_has_any bs most b w1; rw [Hqb.out] at this; exact this)
    clear hcv hat
    go_wp2_with (first | (go_at_call 50; refine (wt _).mono ?_; rintro e _ ⟨rfl, rfl⟩) | (go_at_call 74; refine hall.mono ?_; rintro e w3 ⟨rfl, b3⟩) | fail)
    go_ret
    exact ⟨rfl, hb2.trans (b3.mono hb2.size)⟩
set_option maxHeartbeats 400000 in
theorem index_str (a : Option Addr) (xs : List ByteArray) (c : Nat) (x : ByteArray) (w : World) (hl : xs.length ≤ 9223372036854775807) (hx : StrsAt w a xs) :
    Calls Try.prog 85 #[.slice a xs.length c, .string x] w fun e w' => e = .returned (.int .i64 (idxBy (fun y => x.toList == y.toList) xs 0)) ∧ w = w' := by
  go_enter Try.func85, Try.ntmps85
  go_wp2
  go_loopw [5, 8] (fun _ i wr => ∃ k : Nat, k ≤ xs.length ∧ i = .int .i64 k ∧ wr = w ∧ idxBy (fun y => x.toList == y.toList) xs 0 = idxBy (fun y => x.toList == y.toList) (xs.drop k) k) (fun _ i _ => xs.length - (intOf i).toNat)
  case atStart => exact ⟨0, Nat.zero_le _, rfl, rfl, by simp⟩
  case round =>
    obtain ⟨k, hk, rfl, rfl, hi⟩ := hrel
    have Hi := Lib.hid hi
    clear hi
    by_cases hlt : k < xs.length
    · obtain ⟨b, off, rfl, hbl, hc⟩ := hx k hlt
      have hit := idxBy_hit (fun y => x.toList == y.toList) xs k hlt
      have miss := idxBy_miss (fun y => x.toList == y.toList) xs k hlt
      have Hit := Lib.hid hit
      have Miss := Lib.hid miss
      obtain ⟨y, hy⟩ : ∃ y, xs[k] = y := ⟨_, rfl⟩
      rw [hy] at hc
      have Hy := Lib.hid hy
      clear hit miss hy
      cases hB : x.toList == y.toList
      · have HB := Lib.hid hB
        go_wp2
        go_roundw
        case rel => exact ⟨k + 1, by omega, by go_num, by trivial, by rw [Hi.out, Miss.out (by rw [Hy.out]; exact HB.out)]⟩
        case measure => simp [intOf]; omega
      · have HB := Lib.hid hB
        go_wp2
        go_ret
        exact ⟨by rw [Hi.out, Hit.out (by rw [Hy.out]; exact HB.out)]; rfl, by trivial⟩
    · go_wp2
      go_ret
      exact ⟨by rw [Hi.out, idxBy_end _ xs k k (by omega)]; rfl, by trivial⟩
end Go.Proofs.Ytnofcpihkglmmaa
