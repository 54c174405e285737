/- pay: the reference's Fault, small helpers of the laws -/
import Derived.Test.YtaphfibfjepceaaAr
namespace Go.Proofs.Ytaphfibfjepceaa
set_option linter.unusedVariables false
set_option linter.unusedSimpArgs false
set_option linter.unnecessarySimpa false
open Go.RowKit Go.Flow Go.Shelf

set_option maxHeartbeats 400000 in
theorem rin_any (a b c : Int) (w : World) :
    Calls Try.prog 21 #[.int .i64 a, .int .i64 b, .int .i64 c] w fun e w' => e = .returned (.bool (inR a b c)) ∧ w = w' := by
  by_cases h : b ≤ a
  · have h1 : decide (b ≤ a) = true := by simpa using h
    go_enter Try.func21, Try.ntmps21
    go_wp2
    go_ret
    exact ⟨by simp [inR, h1], rfl⟩
  · have h1 : decide (b ≤ a) = false := by simpa using h
    go_enter Try.func21, Try.ntmps21
    go_wp2
    go_ret
    exact ⟨by simp [inR, h1], rfl⟩
theorem rin_eq (a b c : Int) (r : Bool) (h : inR a b c = r) (w : World) :
    Calls Try.prog 21 #[.int .i64 a, .int .i64 b, .int .i64 c] w fun e w' => e = .returned (.bool r) ∧ w = w' := by
  rw [← h]; exact rin_any a b c w
def sameB (a b : List Int) : Bool := decide (a = b)
theorem sameB_len {a b : List Int} (h : ¬ a.length = b.length) : sameB a b = false := by
  unfold sameB; exact decide_eq_false (fun e => h (by rw [e]))
theorem sameB_at {a b : List Int} (k : Nat) (ha : k < a.length) (hb : k < b.length) (h : a[k] ≠ b[k]) : sameB a b = false := by
  unfold sameB; exact decide_eq_false (fun e => h (by subst e; rfl))
theorem sameB_all {a b : List Int} (hl : a.length = b.length) (h : a.take a.length = b.take a.length) : sameB a b = true := by
  unfold sameB; rw [List.take_length, hl, List.take_length] at h; exact decide_eq_true h
set_option maxHeartbeats 400000 in
theorem list_any (a : Option Addr) (l : List Int) (c : Nat) (w : World) (hl : IntsAt w a l) (ln : l.length ≤ 1000000) (hn : a = none → c = 0) :
    Calls Try.prog 35 #[.slice a l.length c] w fun e w' =>
      ∃ a c, e = .returned (.slice a l.length c) ∧ OwnL 3 1 w.heap.size w' a c l.length (l.map (Value.int .i64)) ∧ Below w.heap.size w w' := by
  go_enter Try.func35, Try.ntmps35
  go_wp2_with (at_builtin; refine wpList_app elInt rfl _ _ rfl w.heap.size none 0 0 [] rfl (OwnL.nil _ _ _ _) a l.length c (l.map (Value.int .i64)) rfl (fun h => ?c1) (by simp) (SrcAt.ints hl) (fun u hu => ?c2) ?c3 ?c4 (Nat.le_refl _) ?_)
  case c1 =>
    have hc := hn h
    subst h
    refine ⟨?_, hc⟩
    rcases Nat.eq_zero_or_pos l.length with h0 | h0
    · exact h0
    · obtain ⟨b, off, e, _⟩ := hl 0 h0
      cases e
  case c2 => obtain ⟨z, _, rfl⟩ := List.mem_map.1 hu; rfl
  case c3 => unfold maxLen; omega
  case c4 => omega
  intro a2 c2 w2 own2 hb2
  go_wp2
  go_ret
  exact ⟨a2, c2, by simp, by simpa using own2, hb2⟩

/-! ### an account -/
/-- The argument of a law: the account's cells in a box. -/
def AccV (st rate keeps : Int) (ad : Option Addr) (nd cd : Nat) : Array Value := #[.int .i64 st, .int .i64 rate, .int .i64 keeps, .slice ad nd cd]
def thinB (ds : List Dis) : Bool := decide (ds.length ≤ 9) && (ds.take 10).all fun d => decide (d.passed.length ≤ 8)
theorem thin_small {st rate keeps : Int} {ds : List Dis} (h : thinB ds = true) : AccSmall ⟨st, rate, keeps, ds⟩ := by
  simp only [thinB, Bool.and_eq_true, decide_eq_true_eq, List.all_eq_true] at h
  refine ⟨by show ds.length ≤ 1000; omega, fun d hd => ?_⟩
  have := h.2 d (by rw [List.take_of_length_le (by omega)]; exact hd)
  omega
set_option maxRecDepth 100000 in
set_option maxHeartbeats 1000000 in
theorem thin_any (st rate keeps : Int) (ds : List Dis) (ad : Option Addr) (cd : Nat) (w : World) (hd : DisAt w ad ds) (hl : ds.length ≤ 9223372036854775807) (hp : ∀ d ∈ ds, d.passed.length ≤ 9223372036854775807) :
    Calls Try.prog 7 #[.agg #[.int .i64 st, .int .i64 rate, .int .i64 keeps, .slice ad ds.length cd]] w fun e w' => e = .returned (.bool (thinB ds)) ∧ Below w.heap.size w w' := by
  have C0 := Cells.new w #[.int .i64 st, .int .i64 rate, .int .i64 keeps, .slice ad ds.length cd] 29
  obtain ⟨W0, hW0⟩ : ∃ z : World, z = w.alloc (.cells #[.int .i64 st, .int .i64 rate, .int .i64 keeps, .slice ad ds.length cd] 29) := ⟨_, rfl⟩
  have b0 : Below w.heap.size w W0 := by rw [hW0]; (repeat (first | exact Below.refl _ _ | refine Below.alloc ?_ (by first | omega | (simp; done) | (simp; omega)) _ | refine Below.drew ?_ | refine Below.setCell ?_ (by first | omega | (simp; done) | (simp; omega)) _ | refine Below.trans ?_ (Below.mono (by assumption) (by first | omega | (simp; done) | (simp; omega)))))
  rw [← hW0] at C0
  have D0 := hd.below b0
  have hT : thinB ds = (decide (ds.length ≤ 9) && (ds.take 10).all fun d => decide (d.passed.length ≤ 8)) := rfl
  obtain ⟨T, hTe⟩ : ∃ T, thinB ds = T := ⟨_, rfl⟩
  rw [hTe] at hT ⊢
  have HT := Lib.hid hT
  clear hT hTe
  have q3 := C0.cell 3
  have lq := C0.lt
  simp at q3
  go_enter Try.func7, Try.ntmps7
  go_wp2
  rw [← hW0]
  clear hW0
  go_loopw [3] (fun i wr => ∃ k : Nat, k ≤ ds.length ∧ k ≤ 10 ∧ i = .int .i64 k ∧ wr = W0 ∧ ∀ j (h : j < ds.length), j < k → ds[j].passed.length ≤ 8) (fun i _ => ds.length - (intOf i).toNat)
  case atStart => exact ⟨0, Nat.zero_le _, by omega, rfl, rfl, fun j _ h => by omega⟩
  case round =>
    obtain ⟨k, hk, hk10, rfl, rfl, hall⟩ := hrel
    have Hall := Lib.hid hall
    clear hall
    by_cases hlt : k < ds.length
    · have hltI : decide ((k : Int) < (ds.length : Int)) = true := by simp; omega
      have hkI : (k : Int) < (ds.length : Int) := by omega
      by_cases h10 : k < 10
      · have h10I : decide ((k : Int) < 10) = true := by simp; omega
        obtain ⟨bd, od, al, cl, rfl, hbd, _, _, _, d3, _⟩ := D0 k hlt
        have hpl := hp _ (List.getElem_mem hlt)
        obtain ⟨n, hn⟩ : ∃ n, ds[k].passed.length = n := ⟨_, rfl⟩
        rw [hn] at d3 hpl
        have Hn := Lib.hid hn
        clear hn
        by_cases h8 : (8 : Int) < (n : Int)
        · obtain rfl : T = false := by
            rw [HT.out, Bool.and_eq_false_iff]
            refine .inr ?_
            rw [List.all_eq_false]
            exact ⟨ds[k], List.mem_iff_getElem.2 ⟨k, by simp; omega, by simp⟩, by have := Hn.out; simp; omega⟩
          clear HT
          go_wp2
          go_ret
          exact ⟨rfl, b0⟩
        · go_wp2
          go_roundw
          case rel => exact ⟨k + 1, by omega, by omega, by go_num, by trivial, fun j h hj => by
            by_cases e : j = k
            · subst e; have := Hn.out; omega
            · exact Hall.out j h (by omega)⟩
          case measure => simp [intOf]; omega
      · have h10I : decide ((k : Int) < 10) = false := by simp; omega
        obtain rfl : T = false := by rw [HT.out]; simp; omega
        clear HT
        have h9 : decide ((ds.length : Int) ≤ 9) = false := by simp; omega
        go_wp2
        go_ret
        exact ⟨rfl, b0⟩
    · obtain rfl : k = ds.length := by omega
      have hltI : decide ((ds.length : Int) < (ds.length : Int)) = false := by simp
      have hTT : T = decide ((ds.length : Int) ≤ 9) := by
        rw [HT.out, show ((ds.take 10).all fun d => decide (d.passed.length ≤ 8)) = true by
          rw [List.all_eq_true]
          intro d hd
          obtain ⟨j, hj, rfl⟩ := List.getElem_of_mem hd
          simp only [List.length_take] at hj
          rw [List.getElem_take]
          simpa using Hall.out j (by omega) (by omega), Bool.and_true, decide_eq_decide]
        omega
      subst hTT
      clear HT
      go_wp2
      go_ret
      exact ⟨rfl, b0⟩
end Go.Proofs.Ytaphfibfjepceaa
