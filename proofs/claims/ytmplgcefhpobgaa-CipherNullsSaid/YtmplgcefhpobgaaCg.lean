/- slices.Clone, slices.DeleteFunc at ints; the law's own copy -/
import Derived.Test.YtmplgcefhpobgaaCf
namespace Go.Proofs.Ytmplgcefhpobgaa
set_option linter.unusedVariables false
set_option linter.unusedSimpArgs false
set_option linter.unnecessarySimpa false
open Go.RowKit Go.Flow

theorem srcNone {a : Option Addr} {xs : List Int} {c : Nat} (hn : a = none → xs = [] ∧ c = 0) : a = none → xs.length = 0 ∧ c = 0 := fun h => ⟨by rw [(hn h).1]; rfl, (hn h).2⟩

set_option maxRecDepth 100000 in
set_option maxHeartbeats 400000 in
theorem copy_body (f : FuncId) (a : Option Addr) (xs : List Int) (c : Nat) (w : World) (hx : IntsAt w a xs) (hn : a = none → xs = [] ∧ c = 0) (hl : xs.length ≤ 10000000000000) :
    Calls Try.prog 21 #[.slice a xs.length c] w fun e w' => ∃ a' c', e = .returned (.slice a' xs.length c') ∧ OwnL 3 1 w.heap.size w' a' c' xs.length (xs.map (Value.int .i64)) ∧ Below w.heap.size w w' := by
  go_enter Try.func21, Try.ntmps21
  go_wp2_with (at_builtin; refine wpList_app elInt rfl _ _ rfl w.heap.size _ _ _ _ rfl (OwnL.lit #[] (Nat.le_refl _) (by decide) rfl) a xs.length c _ rfl (srcNone hn) (by simp) (SrcAt.ints (hx.below (by (repeat (first | exact Below.refl _ _ | refine Below.alloc ?_ (by first | omega | (simp; done) | (simp; omega)) _ | refine Below.drew ?_ | refine Below.setCell ?_ (by first | omega | (simp; done) | (simp; omega)) _ | refine Below.trans ?_ (Below.mono (by assumption) (by first | omega | (simp; done) | (simp; omega)))))))) (fun u hu => ?c3) (by unfold maxLen; omega) (by omega) (by simp) ?_)
  case c3 => obtain ⟨z, _, rfl⟩ := List.mem_map.1 hu; rfl
  intro a' c' w' h1 h2
  go_wp2
  go_ret
  exact ⟨a', c', by simp, by simpa using h1, ((Below.refl _ _).alloc (Nat.le_refl _) _).trans h2⟩

set_option maxRecDepth 100000 in
set_option maxHeartbeats 400000 in
theorem clone_any (a : Option Addr) (xs : List Int) (c : Nat) (w : World) (hx : IntsAt w a xs) (hn : a = none → xs = [] ∧ c = 0) (hl : xs.length ≤ 10000000000000) :
    Calls Try.prog 68 #[.slice a xs.length c] w fun e w' => ∃ a' c', e = .returned (.slice a' xs.length c') ∧ OwnL 3 1 w.heap.size w' a' c' xs.length (xs.map (Value.int .i64)) ∧ Below w.heap.size w w' := by
  have hnil : ∀ w, (binOp .eql 23 (.slice a xs.length c) (.slice none 0 0)).run Try.prog w = .ok (.bool a.isNone) w := fun w => Lib.run_eql_slice_nil w _ _ _ _ _ _ _ Try.underlying23
  cases a with
  | none =>
    obtain ⟨rfl, rfl⟩ := hn rfl
    have hnil : ∀ w, (binOp .eql 23 (.slice none 0 0) (.slice none 0 0)).run Try.prog w = .ok (.bool true) w := fun w => Lib.run_eql_slice_nil w _ _ _ _ _ _ _ Try.underlying23
    show Calls Try.prog 68 #[.slice none 0 0] w _
    go_enter Try.func68, Try.ntmps68
    go_wp2
    go_ret
    exact ⟨none, 0, rfl, OwnL.nil _ _ _ _, Below.refl _ _⟩
  | some ad =>
    simp only [Option.isNone_some] at hnil
    go_enter Try.func68, Try.ntmps68
    go_wp2_with (at_builtin; refine wpList_app elInt rfl _ _ rfl w.heap.size _ _ _ _ rfl (OwnL.lit #[] (Nat.le_refl _) (by decide) rfl) (some ad) xs.length c _ rfl (srcNone hn) (by simp) (SrcAt.ints (hx.below (by (repeat (first | exact Below.refl _ _ | refine Below.alloc ?_ (by first | omega | (simp; done) | (simp; omega)) _ | refine Below.drew ?_ | refine Below.setCell ?_ (by first | omega | (simp; done) | (simp; omega)) _ | refine Below.trans ?_ (Below.mono (by assumption) (by first | omega | (simp; done) | (simp; omega)))))))) (fun u hu => ?c3) (by unfold maxLen; omega) (by omega) (by simp) ?_)
    case c3 => obtain ⟨z, _, rfl⟩ := List.mem_map.1 hu; rfl
    intro a' c' w' h1 h2
    go_wp2
    go_ret
    exact ⟨a', c', by simp, by simpa using h1, ((Below.refl _ _).alloc (Nat.le_refl _) _).trans h2⟩


/-- Decode's test for a null: at a captured book's box. -/
theorem null_any (B : Nat) (x wo : Int) (w : World) (hc : w.cell? ⟨B, 1, none⟩ = some (.int .i64 wo)) :
    Calls Try.prog 69 #[.int .i64 x, .pointer (some ⟨B, 0, none⟩)] w fun e w' => e = .returned (.bool (decide (wo ≤ x))) ∧ Below w.heap.size w w' := by
  go_enter Try.func69, Try.ntmps69
  go_wp2
  go_ret
  exact ⟨rfl, Below.refl _ _⟩

def kept (p : Int → Bool) (l : List Int) : List Int := l.filter fun x => !p x
theorem kept_snoc (p : Int → Bool) (l : List Int) (x : Int) : kept p (l ++ [x]) = kept p l ++ if p x then [] else [x] := by
  unfold kept
  rw [List.filter_append]
  cases h : p x <;> simp [h]
theorem kept_le (p : Int → Bool) (l : List Int) : (kept p l).length ≤ l.length := List.length_filter_le _ _
theorem kept_none (p : Int → Bool) (l : List Int) (h : ∀ x ∈ l, p x = false) : kept p l = l := by
  unfold kept; rw [List.filter_eq_self]; intro x hx; simp [h x hx]
theorem idxBy_spec {α : Type} (p : α → Bool) : ∀ (xs : List α) (k : Nat), (idxBy p xs k = -1 ∧ ∀ x ∈ xs, p x = false) ∨ ∃ j, ∃ h : j < xs.length, idxBy p xs k = (k + j : Nat) ∧ p xs[j] = true ∧ ∀ i, (hi : i < j) → p (xs[i]'(by omega)) = false
  | [], _ => .inl ⟨rfl, fun _ h => by simp at h⟩
  | x :: l, k => by
    by_cases hx : p x = true
    · exact .inr ⟨0, by simp, by simp [idxBy, hx], by simpa using hx, fun i hi => by omega⟩
    · have hx' : p x = false := by simpa using hx
      rcases idxBy_spec p l (k + 1) with ⟨h1, h2⟩ | ⟨j, hj, h1, h2, h3⟩
      · refine .inl ⟨by simp [idxBy, hx', h1], fun y hy => ?_⟩
        rcases List.mem_cons.1 hy with rfl | hy
        · exact hx'
        · exact h2 y hy
      · refine .inr ⟨j + 1, by simpa using hj, by simp only [idxBy, hx', h1]; simp; omega, by simpa using h2, fun i hi => ?_⟩
        cases i with
        | zero => simpa using hx'
        | succ i => simpa using h3 i (by omega)

/-- Cells behind the first m do not matter to them. -/
theorem own_setCell {E : TypeId} {base : Nat} {w : World} {g c n : Nat} {xs : List Value} (h : OwnL E 1 base w (some ⟨g, 0, none⟩) c n xs) (j : Nat) (u : Value) :
    OwnL E 1 base (w.setCell ⟨g, j, none⟩ u) (some ⟨g, 0, none⟩) c n (xs.set j u) := (World.ownsRow.stored h j u).1
theorem own_setCells {E : TypeId} {base : Nat} {g c n : Nat} : ∀ (vs : List Value) (w : World) (j : Nat) (xs : List Value), OwnL E 1 base w (some ⟨g, 0, none⟩) c n xs → n ≤ j → OwnL E 1 base (w.setCells g j vs) (some ⟨g, 0, none⟩) c n xs
  | [], _, _, _, h, _ => h
  | v :: vs, w, j, xs, h, hj => by
    have h1 := own_setCell h j v
    rw [List.set_eq_of_length_le (by have := h.len; omega)] at h1
    exact own_setCells vs _ (j + 1) xs h1 (by omega)
theorem own_first {E : TypeId} {base : Nat} {w : World} {a : Option Addr} {c n m : Nat} {xs : List Value} (h : OwnL E 1 base w a c n xs) (hm : m ≤ n) : OwnL E 1 base w a c m (xs.take m) := by
  have hl := h.len
  refine ⟨by simp; omega, ?_⟩
  rcases h.2 with ⟨h1, h2⟩ | ⟨g, cap, cur, hv, hbg, hg, hnc, hcm, hcs, htake⟩
  · simp only [Value.slice.injEq] at h1
    obtain ⟨rfl, rfl, rfl⟩ := h1
    exact .inl ⟨by rw [Nat.le_zero.1 hm], by omega⟩
  · simp only [Value.slice.injEq, true_and] at hv
    obtain ⟨rfl, rfl⟩ := hv
    refine .inr ⟨g, c, cur, rfl, hbg, hg, by omega, hcm, hcs, ?_⟩
    rw [← htake, List.take_take]
    congr 1
    omega
theorem below_setCells {B g : Nat} : ∀ (vs : List Value) (w0 w : World) (j : Nat), Below B w0 w → B ≤ g → Below B w0 (w.setCells g j vs)
  | [], _, _, _, h, _ => h
  | v :: vs, w0, w, j, h, hg => below_setCells vs w0 _ (j + 1) (h.setCell (p := ⟨g, j, none⟩) hg v) hg

end Go.Proofs.Ytmplgcefhpobgaa
