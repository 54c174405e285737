/- copies: a set yields its hours -/
import Derived.Test.YtfclemnkcpadpaaKg
import Derived.RangeFuncNested
import Derived.RangeFuncBound
import Derived.RangeFuncCalls
import Derived.RangeFuncLeaves
import Derived.Shelf.Abstract
import Derived.Shelf.RegionOpen
import Derived.OwnWalkIn
import Derived.TacticsInMore
import Derived.LoopNIn
import Derived.LoopIn
namespace Go.Proofs.Ytfclemnkcpadpaa
set_option linter.unusedVariables false
set_option linter.unusedSimpArgs false
set_option linter.unnecessarySimpa false
open Go.RowKit Go.Flow Go.Shelf

/-- All cells below n₀ but those of block bm hold what they held. -/
structure KX (n₀ bm : Nat) (W W' : World) : Prop where
  size : W.heap.size ≤ W'.heap.size
  cell : ∀ (a : Addr) (v : Value), a.block < n₀ → a.block ≠ bm → W.cell? a = some v → W'.cell? a = some v
theorem KX.refl (n₀ bm : Nat) (W : World) : KX n₀ bm W W := ⟨Nat.le_refl _, fun _ _ _ _ h => h⟩
theorem KX.trans {n₀ bm : Nat} {A B C : World} (h : KX n₀ bm A B) (k : KX n₀ bm B C) : KX n₀ bm A C := ⟨Nat.le_trans h.size k.size, fun a v hl hn hc => k.cell a v hl hn (h.cell a v hl hn hc)⟩
theorem KX.below {n₀ bm : Nat} {W W' : World} (hb : Below W.heap.size W W') : KX n₀ bm W W' := ⟨hb.size, fun _ _ _ _ h => below_cell hb h⟩
theorem KX.below' {n₀ bm : Nat} {W W' : World} (hb : Below n₀ W W') : KX n₀ bm W W' := ⟨hb.size, fun _ _ hl _ h => by rw [hb.cell hl]; exact h⟩
theorem KX.putObj {n₀ bm : Nat} (W : World) (l : Nat) (o o' : Obj) (h : W.heap[l]? = some o) (ho : o.isCells = false) : KX n₀ bm W (W.putObj l o') :=
  ⟨(grownBy_putObj' W l o').size, fun a v _ _ hc => cell_kept hc (grownBy_putObj' W l o') (fun r e => by cases e; exact ⟨o, h, ho⟩)⟩
theorem KX.setCell {n₀ bm : Nat} (W : World) (k : Nat) (v : Value) : KX n₀ bm W (W.setCell ⟨bm, k, none⟩ v) :=
  ⟨by simp, fun a u _ hn hc => by rw [World.cell?_setCell_other _ _ _ _ (fun e => hn (by rw [← e]))]; exact hc⟩

/-- An hour of a set. -/
abbrev HV (f : Hrs) := { n : Nat // n < 101 ∧ f n = true }
def encH {f : Hrs} (x : HV f) : Array Value := #[.int .i64 x.1]
def hvs (f : Hrs) : (k : Nat) → k ≤ 101 → List (HV f)
  | 0, _ => []
  | k + 1, h => hvs f k (by omega) ++ (if hf : f k = true then [⟨k, by omega, hf⟩] else [])
theorem hvs_map (f : Hrs) : ∀ (k : Nat) (h : k ≤ 101), (hvs f k h).map (·.1) = (List.range k).filter f
  | 0, _ => rfl
  | k + 1, h => by
    simp only [hvs, List.map_append, hvs_map f k (by omega), List.range_succ, List.filter_append]
    congr 1
    by_cases hf : f k = true
    · simp [hf]
    · simp [hf]
theorem hvs_len (f : Hrs) : ∀ (k : Nat) (h : k ≤ 101), (hvs f k h).length ≤ k
  | 0, _ => Nat.le_refl _
  | k + 1, h => by
    simp only [hvs, List.length_append]
    have := hvs_len f k (by omega)
    split <;> simp <;> omega
def SetC (w : World) (B : Nat) (f : Hrs) : Prop := ∀ n, n < 101 → w.cell? ⟨B, n, none⟩ = some (.bool (f n))
theorem SetC.below {w w' : World} {B : Nat} {f : Hrs} (h : SetC w B f) (hb : Below w.heap.size w w') : SetC w' B f := fun n hn => below_cell hb (h n hn)
theorem SetC.lt {w : World} {B : Nat} {f : Hrs} (h : SetC w B f) : B < w.heap.size := cell_ltK (h 0 (by omega))

attribute [local go_sem] Oper.semAt_some
set_option maxRecDepth 100000 in
set_option maxHeartbeats 2000000 in
theorem each_stops (n : Nat) (hn : 2 ≤ n) (n₀ bm Pb Sb : Nat) (f : Hrs) (w : World) (hP : w.cell? ⟨Pb, 0, none⟩ = some (.pointer (some ⟨Sb, 0, none⟩))) (hS : SetC w Sb f) (pn : Pb < n₀) (sn : Sb < n₀) (pb : Pb ≠ bm) (sb : Sb ≠ bm) :
    SeqStopsK Fence.wide n Try.prog 119 #[.pointer (some ⟨Pb, 0, none⟩)] (encH (f := f)) (KX n₀ bm) (fun xs => xs = hvs f 101 (Nat.le_refl _)) (fun _ => True) 101 w := fun l J Jx W hW hJ hJx hY h0 => by
  have hP' := below_cell hW hP
  have hS' := hS.below hW
  clear hW hP hS
  have h1n : 1 ≤ n := by omega
  refine callsIn_of_wp Try.func119 rfl trivial ?_ rfl
  simp only [Try.ntmps119, List.size_toArray, List.length_cons, List.length_nil, Nat.reduceAdd, Nat.reduceSub, Array.replicate_succ, Array.replicate_zero, List.push_toArray, List.append_toArray, List.nil_append, List.cons_append]
  gi_wp2
  gi_loopw [4] (fun i wr => ∃ (k : Nat) (hk : k ≤ 101), i = .int .i64 k ∧ J (hvs f k hk) wr ∧ KX n₀ bm W wr) (fun i _ => 101 - (intOf i).toNat)
  case atStart => exact ⟨0, by omega, rfl, h0, KX.refl _ _ _⟩
  case round =>
    obtain ⟨k, hk, rfl, hJ1, hck⟩ := hrel
    have q0 := hck.cell _ _ pn pb hP'
    have lP := cell_ltK q0
    by_cases hlt : k < 101
    · have q1 := hck.cell _ _ sn sb (hS' k hlt)
      have lS := cell_ltK q1
      cases hf : f k
      · rw [hf] at q1
        have Hs : Hid (hvs f (k + 1) (by omega) = hvs f k hk) := Lib.hid (by simp only [hvs]; rw [dif_neg (by simp [hf])]; simp)
        clear hf
        gi_wp2
        refine ⟨fun _ h => (by cases h), ?_⟩
        gi_wp2
        go_roundw
        case rel => exact ⟨k + 1, by omega, by go_num, by rw [Hs.out]; exact hJ1, hck⟩
        case measure => simp [intOf]; omega
      · rw [hf] at q1
        have Hs : Hid (hvs f (k + 1) (by omega) = hvs f k hk ++ [⟨k, by omega, hf⟩]) := Lib.hid (by simp only [hvs]; rw [dif_pos hf])
        obtain ⟨x, hx⟩ : ∃ x : HV f, x = ⟨k, by omega, hf⟩ := ⟨_, rfl⟩
        have hxk : x.1 = k := by rw [hx]
        rw [← hx] at Hs
        clear hx hf
        have hlen := hvs_len f k hk
        obtain ⟨fn, tmps, assign, body, hy, hR⟩ := hY (hvs f k hk) x wr hJ1 (by omega)
        dsimp only [encH] at hy
        rw [hxk] at hy
        gi_wp2
        refine hR.mono ?_
        rintro e w7 (⟨rfl, hJ7, hk7⟩ | ⟨rfl, hJx7⟩)
        · gi_wp2
          go_roundw
          case rel => exact ⟨k + 1, by omega, by go_num, by rw [Hs.out]; exact hJ7, hck.trans hk7⟩
          case measure => simp [intOf]; omega
        · gi_wp2
          refine bodyPost_ret (results_none rfl _ _ _) rfl ?_
          exact ⟨⟨_, rfl⟩, .inr ⟨_, trivial, hJx7⟩⟩
    · obtain rfl : k = 101 := by omega
      gi_wp2
      go_end0
      exact ⟨⟨_, rfl⟩, .inl ⟨_, rfl, hJ1⟩⟩
end Go.Proofs.Ytfclemnkcpadpaa
