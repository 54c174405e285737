/- pay: which stations get one of the pence that remain -/
import Derived.Test.YtaphfibfjepceaaAf
import Derived.RangeFuncNested
import Derived.RangeFuncBound
import Derived.RangeFuncCalls
import Derived.RangeFuncLeaves
import Derived.RangeFuncBox
import Derived.Shelf.Abstract
import Derived.Shelf.RegionOpen
import Derived.OwnWalkIn
import Derived.TacticsInMore
import Derived.LoopNIn
import Derived.LoopIn
namespace Go.Proofs.Ytaphfibfjepceaa
set_option linter.unusedVariables false
set_option linter.unusedSimpArgs false
set_option linter.unnecessarySimpa false
open Go.RowKit Go.Flow Go.Shelf

/-- All cells below n₀ but those of block bm hold what they held. -/
structure KX (n₀ bm : Nat) (W W' : World) : Prop where
  size : W.heap.size ≤ W'.heap.size
  cell : ∀ (a : Addr) (v : Value), a.block < n₀ → a.block ≠ bm → W.cell? a = some v → W'.cell? a = some v
theorem KX.refl (n₀ bm : Nat) (W : World) : KX n₀ bm W W := ⟨Nat.le_refl _, fun _ _ _ _ h => h⟩
theorem KX.trans {n₀ bm : Nat} {A B C : World} (h : KX n₀ bm A B) (k : KX n₀ bm B C) : KX n₀ bm A C := ⟨Nat.le_trans h.size k.size, fun a v hl hn hc => k.cell a v hl hn (h.cell a v hl hn hc)⟩
theorem KX.below {n₀ bm : Nat} {W W' : World} (hb : Below W.heap.size W W') : KX n₀ bm W W' := ⟨hb.size, fun _ _ _ _ h => below_cell hb h⟩
theorem KX.below' {n₀ bm : Nat} {W W' : World} (hb : Below n₀ W W') : KX n₀ bm W W' := ⟨hb.size, fun _ _ hl _ h => by rw [hb.cell hl]; exact h⟩
theorem KX.putObj {n₀ bm : Nat} (W : World) (l : Nat) (o o' : Obj) (h : W.heap[l]? = some o) (ho : o.isCells = false) : KX n₀ bm W (W.putObj l o') :=
  ⟨(grownBy_putObj' W l o').size, fun a v _ _ hc => cell_kept hc (grownBy_putObj' W l o') (fun r e => by cases e; exact ⟨o, h, ho⟩)⟩
theorem KX.setCell {n₀ bm : Nat} (W : World) (k : Nat) (v : Value) : KX n₀ bm W (W.setCell ⟨bm, k, none⟩ v) :=
  ⟨by simp, fun a u _ hn hc => by rw [World.cell?_setCell_other _ _ _ _ (fun e => hn (by rw [← e]))]; exact hc⟩


/-- The rounds of remain. -/
abbrev RV (p : Nat) := { i : Nat // i < p }
def encR (m : Nat) {p : Nat} (x : RV p) : Array Value := #[.int .i64 ((m : Int) - 1 - (x.1 : Int))]
def rvs (p : Nat) : (k : Nat) → k ≤ p → List (RV p)
  | 0, _ => []
  | k + 1, h => rvs p k (by omega) ++ [⟨k, by omega⟩]
theorem rvs_map (p : Nat) : ∀ (k : Nat) (h : k ≤ p), (rvs p k h).map (·.1) = List.range k
  | 0, _ => rfl
  | k + 1, h => by simp only [rvs, List.map_append, rvs_map p k (by omega), List.range_succ]; rfl
theorem rvs_len (p : Nat) (k : Nat) (h : k ≤ p) : (rvs p k h).length = k := by
  have := congrArg List.length (rvs_map p k h)
  simpa using this

attribute [local go_sem] Oper.semAt_some
set_option maxRecDepth 100000 in
set_option maxHeartbeats 2000000 in
theorem remain_stops (n : Nat) (hn : 2 ≤ n) (n₀ bm P0 P1 : Nat) (p m : Nat) (hp : p ≤ 1000) (hm : m ≤ 1000) (w : World) (h0 : w.cell? ⟨P0, 0, none⟩ = some (.int .i64 (p : Int))) (h1 : w.cell? ⟨P1, 0, none⟩ = some (.int .i64 (m : Int))) (p0 : P0 < n₀) (p1 : P1 < n₀) (pb0 : P0 ≠ bm) (pb1 : P1 ≠ bm) :
    SeqStopsK Fence.wide n Try.prog 70 #[.pointer (some ⟨P0, 0, none⟩), .pointer (some ⟨P1, 0, none⟩)] (encR m (p := p)) (KX n₀ bm) (fun xs => xs = rvs p p (Nat.le_refl _)) (fun _ => True) p w := fun l J Jx W hW hJ hJx hY hs0 => by
  have h0' := below_cell hW h0
  have h1' := below_cell hW h1
  clear hW h0 h1
  have h1n : 1 ≤ n := by omega
  refine callsIn_of_wp Try.func70 rfl trivial ?_ rfl
  simp only [Try.ntmps70, List.size_toArray, List.length_cons, List.length_nil, Nat.reduceAdd, Nat.reduceSub, Array.replicate_succ, Array.replicate_zero, List.push_toArray, List.append_toArray, List.nil_append, List.cons_append]
  gi_wp2
  gi_loopw [4, 6] (fun _ i wr => ∃ (k : Nat) (hk : k ≤ p), i = .int .i64 k ∧ J (rvs p k hk) wr ∧ KX n₀ bm W wr) (fun _ i _ => p - (intOf i).toNat)
  case atStart => exact ⟨0, by omega, rfl, hs0, KX.refl _ _ _⟩
  case round =>
    obtain ⟨k, hk, rfl, hJ1, hck⟩ := hrel
    have q1 := hck.cell _ _ p1 pb1 h1'
    have l1 := cell_ltK q1
    by_cases hlt : k < p
    · have hkI : (k : Int) < (p : Int) := by omega
      have w1 : IntKind.i64.wrap ((m : Int) - 1) = (m : Int) - 1 := IntWalk.i64_in _ (by omega)
      have w2 : IntKind.i64.wrap ((m : Int) - 1 - (k : Int)) = (m : Int) - 1 - (k : Int) := IntWalk.i64_in _ (by omega)
      have Hs : Hid (rvs p (k + 1) (by omega) = rvs p k hk ++ [⟨k, by omega⟩]) := Lib.hid rfl
      obtain ⟨x, hx⟩ : ∃ x : RV p, x = ⟨k, by omega⟩ := ⟨_, rfl⟩
      have hxk : x.1 = k := by rw [hx]
      rw [← hx] at Hs
      clear hx
      have hlen := rvs_len p k hk
      obtain ⟨fn, tmps, assign, body, hy, hR⟩ := hY (rvs p k hk) x wr hJ1 (by omega)
      dsimp only [encR] at hy
      rw [hxk] at hy
      gi_wp2
      refine hR.mono ?_
      rintro e w7 (⟨rfl, hJ7, hk7⟩ | ⟨rfl, hJx7⟩)
      · gi_wp2
        go_roundw
        case rel => exact ⟨k + 1, by omega, by go_num, by rw [Hs.out]; exact hJ7, hck.trans hk7⟩
        case measure => simp [intOf]; omega
      · gi_wp2
        refine bodyPost_ret (results_none rfl _ _ _) rfl ?_
        exact ⟨⟨_, rfl⟩, .inr ⟨_, trivial, hJx7⟩⟩
    · obtain rfl : k = p := by omega
      gi_wp2
      go_end0
      exact ⟨⟨_, rfl⟩, .inl ⟨_, rfl, hJ1⟩⟩
theorem remain_any (p m : Int) (w : World) :
    Calls Try.prog 55 #[.int .i64 p, .int .i64 m] w fun e w' => e = .returned (.func (.func 70) #[] #[.pointer (some ⟨w.heap.size, 0, none⟩), .pointer (some ⟨w.heap.size + 1, 0, none⟩)]) ∧ (w.alloc (.cells #[.int .i64 p] 3)).alloc (.cells #[.int .i64 m] 3) = w' := by
  go_enter Try.func55, Try.ntmps55
  go_wp2
  go_ret
  exact ⟨rfl, rfl⟩
end Go.Proofs.Ytaphfibfjepceaa
