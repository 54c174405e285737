/- the laws' truths chosen by words: word, picked, Picked -/
import Derived.Test.YtfclemnkcpadpaaRi
import Derived.Test.YtfclemnkcpadpaaRj
namespace Go.Proofs.Ytfclemnkcpadpaa
set_option linter.unusedVariables false
set_option linter.unusedSimpArgs false
set_option linter.unnecessarySimpa false
open Go.RowKit Go.Flow

def U16At (w : World) (a : Option Addr) (xs : List Int) : Prop := ∀ k (h : k < xs.length), ∃ b off, a = some ⟨b, off, none⟩ ∧ b < w.heap.size ∧ w.cell? ⟨b, off + k, none⟩ = some (.int .u16 xs[k])
theorem U16At.below {w w' : World} {a : Option Addr} {xs : List Int} (h : U16At w a xs) (hb : Below w.heap.size w w') : U16At w' a xs := fun k hk =>
  let ⟨b, off, ha, hlt, hc⟩ := h k hk
  ⟨b, off, ha, Nat.lt_of_lt_of_le hlt hb.size, (hb.cell (p := ⟨b, off + k, none⟩) hlt).trans hc⟩
def U16s (ws : List Int) : Prop := ∀ x ∈ ws, 0 ≤ x ∧ x ≤ 65535
def wordN (ws : List Int) (k : Nat) : Nat := (ws.getD (k % ws.length) 0).toNat
theorem wordN_le {ws : List Int} (h : U16s ws) (k : Nat) : wordN ws k ≤ 65535 := by
  unfold wordN
  rcases Nat.eq_zero_or_pos ws.length with e | e
  · rw [List.length_eq_zero_iff.1 e]; simp
  · have hk : k % ws.length < ws.length := Nat.mod_lt _ e
    have := h _ (List.getElem_mem hk)
    simp [hk]; omega
set_option maxHeartbeats 1000000 in
theorem word_any (a : Option Addr) (ws : List Int) (c k : Nat) (w : World) (hw : U16At w a ws) (hu : U16s ws) (hl : ws.length ≤ 9223372036854775807) (hk : k ≤ 1000) :
    Calls Try.prog 84 #[.slice a ws.length c, .int .i64 (k : Int)] w fun e w' => e = .returned (.int .i64 (wordN ws k : Int)) ∧ w = w' := by
  rcases Nat.eq_zero_or_pos ws.length with e | e
  · have he : ((ws.length : Int) == 0) = true := by simp [e]
    have Hn : Hid (wordN ws k = 0) := Lib.hid (by unfold wordN; rw [List.length_eq_zero_iff.1 e]; rfl)
    clear e
    go_enter Try.func84, Try.ntmps84
    go_wp2
    go_ret
    exact ⟨ret_n (by rw [Hn.out]; rfl), rfl⟩
  · have he : ((ws.length : Int) == 0) = false := by rw [beq_eq_false_iff_ne]; omega
    have hne : ¬ ((ws.length : Int) = 0) := by omega
    have hkk : k % ws.length < ws.length := Nat.mod_lt _ e
    obtain ⟨j, hj⟩ : ∃ j, k % ws.length = j := ⟨_, rfl⟩
    have htm : Int.tmod (k : Int) (ws.length : Int) = (j : Int) := by rw [← hj]; rfl
    rw [hj] at hkk
    obtain ⟨b, off, rfl, hb, c0⟩ := hw j hkk
    have hx := hu _ (List.getElem_mem hkk)
    have hjI : (j : Int) < (ws.length : Int) := by omega
    have Hn : Hid ((wordN ws k : Int) = ws[j]) := Lib.hid (by unfold wordN; rw [hj, show ws.getD j 0 = ws[j] by simp [hkk]]; exact Int.toNat_of_nonneg hx.1)
    obtain ⟨x, hxe⟩ : ∃ x, ws[j] = x := ⟨_, rfl⟩
    rw [hxe] at c0 hx Hn
    have hwx : IntKind.i64.wrap x = x := IntWalk.i64_in _ (by omega)
    clear hxe hj e
    go_enter Try.func84, Try.ntmps84
    go_wp2
    go_ret
    exact ⟨ret_n Hn.out.symm, rfl⟩
def pickedF (lo hi : Int) (v : Nat) : Int := if v % 4 = 0 then lo else if v % 4 = 1 then hi else lo + ((v / 4 % (hi - lo + 1).toNat : Nat) : Int)
theorem pickedF_in {lo hi : Int} (h : lo ≤ hi) (v : Nat) : lo ≤ pickedF lo hi v ∧ pickedF lo hi v ≤ hi := by
  unfold pickedF
  split
  · omega
  · split
    · omega
    · have := Nat.mod_lt (v / 4) (show 0 < (hi - lo + 1).toNat by omega)
      omega
set_option maxHeartbeats 2000000 in
theorem picked_any (lo hi : Int) (v : Nat) (w : World) (h0 : 0 ≤ lo) (h1 : lo ≤ hi) (h2 : hi ≤ 1000) (hv : v ≤ 65535) :
    Calls Try.prog 85 #[.agg #[.int .i64 lo, .int .i64 hi], .int .i64 (v : Int)] w fun e w' => e = .returned (.int .i64 (pickedF lo hi v)) ∧ Below w.heap.size w w' := by
  obtain ⟨q, hq⟩ : ∃ q, v % 4 = q := ⟨_, rfl⟩
  have htm : Int.tmod (v : Int) 4 = (q : Int) := by rw [← hq]; rfl
  have q4 : q < 4 := by omega
  match q, q4 with
  | 0, _ =>
    have Hn : Hid (pickedF lo hi v = lo) := Lib.hid (by unfold pickedF; rw [if_pos hq])
    clear hq
    go_enter Try.func85, Try.ntmps85
    go_wp2
    go_ret
    exact ⟨ret_n Hn.out.symm, by (repeat (first | exact Below.refl _ _ | refine Below.alloc ?_ (by first | omega | (simp; done) | (simp; omega)) _ | refine Below.drew ?_ | refine Below.setCell ?_ (by first | omega | (simp; done) | (simp; omega)) _ | refine Below.trans ?_ (Below.mono (by assumption) (by first | omega | (simp; done) | (simp; omega)))))⟩
  | 1, _ =>
    have Hn : Hid (pickedF lo hi v = hi) := Lib.hid (by unfold pickedF; rw [if_neg (by omega), if_pos hq])
    clear hq
    go_enter Try.func85, Try.ntmps85
    go_wp2
    go_ret
    exact ⟨ret_n Hn.out.symm, by (repeat (first | exact Below.refl _ _ | refine Below.alloc ?_ (by first | omega | (simp; done) | (simp; omega)) _ | refine Below.drew ?_ | refine Below.setCell ?_ (by first | omega | (simp; done) | (simp; omega)) _ | refine Below.trans ?_ (Below.mono (by assumption) (by first | omega | (simp; done) | (simp; omega)))))⟩
  | q + 2, h4 =>
    have t0 : (((q + 2 : Nat) : Int) == 0) = false := by simp; omega
    have t1 : (((q + 2 : Nat) : Int) == 1) = false := by simp; omega
    obtain ⟨d, hd⟩ : ∃ d : Nat, hi - lo + 1 = (d : Int) := ⟨(hi - lo + 1).toNat, by omega⟩
    have d0 : ¬ ((d : Int) = 0) := by omega
    have d1 : 0 < d := by omega
    obtain ⟨u, hu⟩ : ∃ u, v / 4 = u := ⟨_, rfl⟩
    have htd : Int.tdiv (v : Int) 4 = (u : Int) := by rw [← hu]; rfl
    obtain ⟨x, hx⟩ : ∃ x, u % d = x := ⟨_, rfl⟩
    have htx : Int.tmod (u : Int) (d : Int) = (x : Int) := by rw [← hx]; rfl
    have hxd : x < d := by rw [← hx]; exact Nat.mod_lt _ d1
    have Hn : Hid (pickedF lo hi v = lo + (x : Int)) := Lib.hid (by unfold pickedF; rw [if_neg (by omega), if_neg (by omega), hu, show (hi - lo + 1).toNat = d by omega, hx])
    have hw1 : IntKind.i64.wrap (hi - lo) = hi - lo := IntWalk.i64_in _ (by omega)
    have hw2 : IntKind.i64.wrap (hi - lo + 1) = (d : Int) := by rw [hd]; exact IntWalk.i64_in _ (by omega)
    have hw3 : IntKind.i64.wrap (lo + (x : Int)) = lo + (x : Int) := IntWalk.i64_in _ (by omega)
    obtain ⟨m, hm⟩ : ∃ m : Int, ((q + 2 : Nat) : Int) = m := ⟨_, rfl⟩
    rw [hm] at htm t0 t1
    have hub : u ≤ 65535 := by omega
    clear hq hx hu hm
    go_enter Try.func85, Try.ntmps85
    go_wp2
    (refine wp_region_ext 12 (by kernel_rfl) (by kernel_rfl) ?_; simp only [List.take_succ_cons, List.take_zero, List.drop_succ_cons, List.drop_zero]; (repeat (go_big_quiet_step ((fail)))); refine wpQuiet_nil ?_; rintro _ ⟨ex, rfl⟩; have hex := ex.below; have hexz := ex.size; (try simp at hexz); (try (have hy0 : w.heap.size < ex.to.heap.size := by omega)); (try (have hy1 : w.heap.size + 1 < ex.to.heap.size := by omega)); (try (have hy2 : w.heap.size + 2 < ex.to.heap.size := by omega)))
    go_wp2
    go_ret
    exact ⟨ret_n Hn.out.symm, by have := ex.below; simp at this; exact ((Below.refl _ _).alloc (Nat.le_refl _) _).trans (this.mono (by simp))⟩
end Go.Proofs.Ytfclemnkcpadpaa
