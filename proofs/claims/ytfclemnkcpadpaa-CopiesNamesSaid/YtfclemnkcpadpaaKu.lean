/- copies: Clone; the test of search; plain search -/
import Derived.Test.YtfclemnkcpadpaaKt
import Derived.Deep.RegionHeld3
import Derived.Deep.AppendLies
namespace Go.Proofs.Ytfclemnkcpadpaa
set_option linter.unusedVariables false
set_option linter.unusedSimpArgs false
set_option linter.unnecessarySimpa false
open Go.RowKit Go.Flow Go.Shelf

theorem srcNone {a : Option Addr} {xs : List Int} {c : Nat} (hn : a = none → xs = [] ∧ c = 0) : a = none → xs.length = 0 ∧ c = 0 := fun h => ⟨by rw [(hn h).1]; rfl, (hn h).2⟩
set_option maxRecDepth 100000 in
set_option maxHeartbeats 400000 in
theorem clone_any (a : Option Addr) (xs : List Int) (c : Nat) (w : World) (hx : IntsAt w a xs) (hn : a = none → xs = [] ∧ c = 0) (hl : xs.length ≤ 10000000000000) :
    Calls Try.prog 81 #[.slice a xs.length c] w fun e w' => ∃ a' c', e = .returned (.slice a' xs.length c') ∧ OwnL 3 1 w.heap.size w' a' c' xs.length (xs.map (Value.int .i64)) ∧ Below w.heap.size w w' := by
  have hnil : ∀ w, (binOp .eql 22 (.slice a xs.length c) (.slice none 0 0)).run Try.prog w = .ok (.bool a.isNone) w := fun w => Lib.run_eql_slice_nil w _ _ _ _ _ _ _ Try.underlying22
  cases a with
  | none =>
    obtain ⟨rfl, rfl⟩ := hn rfl
    have hnil : ∀ w, (binOp .eql 22 (.slice none 0 0) (.slice none 0 0)).run Try.prog w = .ok (.bool true) w := fun w => Lib.run_eql_slice_nil w _ _ _ _ _ _ _ Try.underlying22
    show Calls Try.prog 81 #[.slice none 0 0] w _
    go_enter Try.func81, Try.ntmps81
    go_wp2
    go_ret
    exact ⟨none, 0, rfl, OwnL.nil _ _ _ _, Below.refl _ _⟩
  | some ad =>
    simp only [Option.isNone_some] at hnil
    go_enter Try.func81, Try.ntmps81
    go_wp2_with (at_builtin; refine wpList_app elInt rfl _ _ rfl w.heap.size _ _ _ _ rfl (OwnL.lit #[] (Nat.le_refl _) (by decide) rfl) (some ad) xs.length c _ rfl (srcNone hn) (by simp) (SrcAt.ints (hx.below (by (repeat (first | exact Below.refl _ _ | refine Below.alloc ?_ (by first | omega | (simp; done) | (simp; omega)) _ | refine Below.drew ?_ | refine Below.setCell ?_ (by first | omega | (simp; done) | (simp; omega)) _ | refine Below.trans ?_ (Below.mono (by assumption) (by first | omega | (simp; done) | (simp; omega)))))))) (fun u hu => ?c3) (by unfold maxLen; omega) (by omega) (by simp) ?_)
    case c3 => obtain ⟨z, _, rfl⟩ := List.mem_map.1 hu; rfl
    intro a' c' w' h1 h2
    go_wp2
    go_ret
    exact ⟨a', c', by simp, by simpa using h1, ((Below.refl _ _).alloc (Nat.le_refl _) _).trans h2⟩

theorem SrcAt.ents {w : World} {a : Option Addr} {xs : List Ent} (h : EntsAt w a xs) : SrcAt w a (flatE xs) := fun j u hu => by
  have hj : j < xs.length * 3 := by rw [← flatE_len]; exact (List.getElem?_eq_some_iff.1 hu).1
  obtain ⟨b, off, ha, _, h0, h1, h2⟩ := h (j / 3) (by omega)
  obtain ⟨e0, e1, e2⟩ := flatE_get xs (j / 3) (by omega)
  refine ⟨b, off, ha, ?_⟩
  rcases (show j = j / 3 * 3 ∨ j = j / 3 * 3 + 1 ∨ j = j / 3 * 3 + 2 by omega) with e | e | e
  · rw [e] at hu ⊢; rw [e0] at hu; rw [← hu]; exact h0
  · rw [e] at hu ⊢; rw [e1] at hu; rw [← hu]; rw [← Nat.add_assoc]; exact h1
  · rw [e] at hu ⊢; rw [e2] at hu; rw [← hu]; rw [← Nat.add_assoc]; exact h2
theorem flatE_one (xs : List Ent) : ∀ u ∈ flatE xs, u.oneCell' = true := fun u hu => by
  unfold flatE at hu
  obtain ⟨x, _, hx⟩ := List.mem_flatMap.1 hu
  simp at hx
  rcases hx with rfl | rfl | rfl <;> rfl
set_option maxRecDepth 100000 in
set_option maxHeartbeats 400000 in
theorem cloneE_any (a : Option Addr) (xs : List Ent) (c : Nat) (w : World) (hx : EntsAt w a xs) (hn : a = none → xs.length = 0 ∧ c = 0) (hl : xs.length ≤ 1000000) :
    Calls Try.prog 82 #[.slice a xs.length c] w fun e w' => ∃ a' c', e = .returned (.slice a' xs.length c') ∧ OwnL 82 3 w.heap.size w' a' c' xs.length (flatE xs) ∧ Below w.heap.size w w' := by
  have hnil : ∀ w, (binOp .eql 36 (.slice a xs.length c) (.slice none 0 0)).run Try.prog w = .ok (.bool a.isNone) w := fun w => Lib.run_eql_slice_nil w _ _ _ _ _ _ _ Try.underlying36
  cases a with
  | none =>
    obtain ⟨hx0, rfl⟩ := hn rfl
    obtain rfl := List.eq_nil_of_length_eq_zero hx0
    have hnil : ∀ w, (binOp .eql 36 (.slice none 0 0) (.slice none 0 0)).run Try.prog w = .ok (.bool true) w := fun w => Lib.run_eql_slice_nil w _ _ _ _ _ _ _ Try.underlying36
    show Calls Try.prog 82 #[.slice none 0 0] w _
    go_enter Try.func82, Try.ntmps82
    go_wp2
    go_ret
    exact ⟨none, 0, rfl, OwnL.nil _ _ _ _, Below.refl _ _⟩
  | some ad =>
    simp only [Option.isNone_some] at hnil
    go_enter Try.func82, Try.ntmps82
    go_wp2_with (at_builtin; refine wpList_app el_centries rfl _ _ rfl w.heap.size _ _ _ _ rfl (OwnL.lit #[] (Nat.le_refl _) (by decide) rfl) (some ad) xs.length c _ rfl hn (flatE_len xs) (SrcAt.ents (hx.below (by (repeat (first | exact Below.refl _ _ | refine Below.alloc ?_ (by first | omega | (simp; done) | (simp; omega)) _ | refine Below.drew ?_ | refine Below.setCell ?_ (by first | omega | (simp; done) | (simp; omega)) _ | refine Below.trans ?_ (Below.mono (by assumption) (by first | omega | (simp; done) | (simp; omega)))))))) (flatE_one xs) (by unfold maxLen; omega) (by omega) (by simp) ?_)
    intro a' c' w' h1 h2
    go_wp2
    go_ret
    exact ⟨a', c', by simp, by simpa using h1, ((Below.refl _ _).alloc (Nat.le_refl _) _).trans h2⟩

def entNe (x e : Ent) : Bool := !(decide (x.num = e.num) && decide (x.at_ = e.at_) && decide (x.skip = e.skip))
def wrongB (i : Nat) (e x : Ent) : Bool := decide (x.num = (i : Int)) && entNe x e
def fitsB (l : List Ent) (e : Ent) (i : Nat) : Bool := !(l.any (wrongB i e))
def nextR (p : Post) (l : List Ent) : Nat → Nat → Int → Option (List Int)
  | 0, _, _ => some []
  | r + 1, i, f => (List.range 102).findSome? fun h => if canB p i h && fitsB l (recvF p i f h) i then (nextR p l r (i + 1) (recvF p i f h).at_).map ((h : Int) :: ·) else none
def nextG (p : Post) (l : List Ent) (r i : Nat) (f : Int) (h : Nat) : Option (List Int) := if canB p i h && fitsB l (recvF p i f h) i then (nextR p l r (i + 1) (recvF p i f h).at_).map ((h : Int) :: ·) else none
theorem nextR_none {p : Post} {l : List Ent} {r i : Nat} {f : Int} (h : ∀ k, k < 102 → nextG p l r i f k = none) : nextR p l (r + 1) i f = none := by
  unfold nextR
  rw [List.findSome?_eq_none_iff]
  intro x hx
  exact h x (by simpa using hx)
theorem nextR_some {p : Post} {l : List Ent} {r i k : Nat} {f : Int} {z : List Int} (hk : k < 102) (h : ∀ j, j < k → nextG p l r i f j = none) (h2 : nextG p l r i f k = some z) : nextR p l (r + 1) i f = some z := by
  unfold nextR
  show (List.range 102).findSome? (nextG p l r i f) = some z
  rw [show 102 = k + (1 + (101 - k)) by omega, List.range_add, List.findSome?_append, show (List.range k).findSome? (nextG p l r i f) = none by rw [List.findSome?_eq_none_iff]; intro x hx; exact h x (by simpa using hx)]
  rw [Nat.add_comm 1, List.range_succ_eq_map]
  simp [h2]
theorem recv_at {p : Post} {i : Nat} {f : Int} {h : Nat} (hf : 0 ≤ f ∧ f ≤ 101) (hh : h ≤ 101) : 0 ≤ (recvF p i f h).at_ ∧ (recvF p i f h).at_ ≤ 101 := by
  simp only [recvF]; omega
def costS : Nat → Nat
  | 0 => 0
  | r + 1 => 102 * costS r + 1
theorem costS_le {r : Nat} (h : r ≤ 4) : costS r ≤ 200000000 := by
  match r, h with
  | 0, _ | 1, _ | 2, _ | 3, _ | 4, _ => decide

set_option maxHeartbeats 400000 in
theorem wrong_meets (i : Nat) (e : Ent) (Bn Be : Nat) (w : World) (hn : w.cell? ⟨Bn, 0, none⟩ = some (.int .i64 (i : Int))) (he : Cells w Be #[.int .i64 e.num, .int .i64 e.at_, .bool e.skip] 82) (x : Ent) : Meets Try.prog w 106 #[] #[.pointer (some ⟨Bn, 0, none⟩), .pointer (some ⟨Be, 0, none⟩)] (.agg #[.int .i64 x.num, .int .i64 x.at_, .bool x.skip]) (wrongB i e x) := by
  intro w' hb'
  have hn' := below_cell hb' hn
  have he' := he.below hb'
  have e0 := he'.cell 0
  have e1 := he'.cell 1
  have e2 := he'.cell 2
  have lE := he'.lt
  have lN := cell_ltK hn'
  simp at e0 e1 e2
  clear hn he
  show Calls Try.prog 106 #[.agg #[.int .i64 x.num, .int .i64 x.at_, .bool x.skip], .pointer (some ⟨Bn, 0, none⟩), .pointer (some ⟨Be, 0, none⟩)] w' _
  have wb : ∀ o, Below w'.heap.size w' (w'.alloc o) := fun o => (Below.refl _ _).alloc (Nat.le_refl _) _
  by_cases hx : x.num = (i : Int)
  · have hq : (x.num == (i : Int)) = true := by simpa using hx
    go_enter Try.func106, Try.ntmps106
    go_wp2
    all_goals
      go_ret
      exact ⟨ret_b (by unfold wrongB entNe; simp_all), wb _⟩
  · have hq : (x.num == (i : Int)) = false := by simpa using hx
    go_enter Try.func106, Try.ntmps106
    go_wp2
    go_ret
    exact ⟨ret_b (by unfold wrongB; simp [hx]), wb _⟩
end Go.Proofs.Ytfclemnkcpadpaa
