/- Words and small laws for the walks: what a slice reads as, what grows. -/
import Derived.Test.YtnofcpihkglmmaaRows
import Derived.Test.YtnofcpihkglmmaaFlow
import Derived.BigQuiet
import Derived.WalkSpells
import Derived.WalkLawsBesides
import Derived.Lib.Hide
import Derived.Deep.LoopGhost
import Derived.Deep.DeepFit
namespace Go.Proofs.Ytnofcpihkglmmaa
set_option linter.unusedVariables false
set_option linter.unusedSimpArgs false
set_option linter.unnecessarySimpa false
open Go.RowKit Go.Flow Go.Proofs

theorem bcell {W w1 : World} (hb : Below W.heap.size W w1) : (∀ b o, b < W.heap.size → w1.cell? ⟨b, o, none⟩ = W.cell? ⟨b, o, none⟩) ∧ (∀ b o, b < W.heap.size → w1.frozen? ⟨b, o, none⟩ = W.frozen? ⟨b, o, none⟩) ∧ W.heap.size ≤ w1.heap.size :=
  ⟨fun b o h => hb.cell (p := ⟨b, o, none⟩) h, fun b o h => hb.frozen (p := ⟨b, o, none⟩) h, hb.size⟩

/-- A slice of ints: whatever element there is lies in an old block. -/
def IntsAt (w : World) (a : Option Addr) (xs : List Int) : Prop :=
  ∀ k, k < xs.length → ∃ b off, a = some ⟨b, off, none⟩ ∧ b < w.heap.size ∧ w.cell? ⟨b, off + k, none⟩ = some (.int .i64 (xs.getD k 0))

theorem IntsAt.below {w w' : World} {a : Option Addr} {xs : List Int} (h : IntsAt w a xs) (hb : Below w.heap.size w w') : IntsAt w' a xs := fun k hk =>
  let ⟨b, off, ha, hlt, hc⟩ := h k hk
  ⟨b, off, ha, Nat.lt_of_lt_of_le hlt hb.size, (hb.cell (p := ⟨b, off + k, none⟩) hlt).trans hc⟩
theorem IntsAt.nil (w : World) (a : Option Addr) : IntsAt w a [] := fun k hk => by simp at hk

/-- The function value (g, first, cap) answers b at x, in whatever world has grown out of w, and only makes new memory. -/
def Meets (P : Program) (w : World) (g : FuncId) (first cap : Array Value) (x : Value) (b : Bool) : Prop :=
  ∀ w1 : World, Below w.heap.size w w1 → Calls P g (first.push x ++ cap) w1 fun r w' => r = .returned (.bool b) ∧ Below w1.heap.size w1 w'
theorem Meets.below {P : Program} {w w' : World} {g : FuncId} {first cap : Array Value} {x : Value} {b : Bool} (h : Meets P w g first cap x b) (hb : Below w.heap.size w w') : Meets P w' g first cap x b :=
  fun w1 h1 => h w1 (hb.trans (h1.mono hb.size))

/-- Records of two ints, of three ints, in a slice. -/
def Recs2At (w : World) (a : Option Addr) (xs : List (Int × Int)) : Prop :=
  ∀ k (h : k < xs.length), ∃ b off, a = some ⟨b, off, none⟩ ∧ b < w.heap.size ∧ w.cell? ⟨b, off + k * 2, none⟩ = some (.int .i64 xs[k].1) ∧ w.cell? ⟨b, off + k * 2 + 1, none⟩ = some (.int .i64 xs[k].2)
def Recs3At (w : World) (a : Option Addr) (xs : List (Int × Int × Int)) : Prop :=
  ∀ k (h : k < xs.length), ∃ b off, a = some ⟨b, off, none⟩ ∧ b < w.heap.size ∧ w.cell? ⟨b, off + k * 3, none⟩ = some (.int .i64 xs[k].1) ∧ w.cell? ⟨b, off + k * 3 + 1, none⟩ = some (.int .i64 xs[k].2.1) ∧ w.cell? ⟨b, off + k * 3 + 2, none⟩ = some (.int .i64 xs[k].2.2)
theorem Recs2At.below {w w' : World} {a : Option Addr} {xs : List (Int × Int)} (h : Recs2At w a xs) (hb : Below w.heap.size w w') : Recs2At w' a xs := fun k hk =>
  let ⟨b, off, ha, hlt, h0, h1⟩ := h k hk
  ⟨b, off, ha, Nat.lt_of_lt_of_le hlt hb.size, (hb.cell (p := ⟨b, _, none⟩) hlt).trans h0, (hb.cell (p := ⟨b, _, none⟩) hlt).trans h1⟩
theorem Recs3At.below {w w' : World} {a : Option Addr} {xs : List (Int × Int × Int)} (h : Recs3At w a xs) (hb : Below w.heap.size w w') : Recs3At w' a xs := fun k hk =>
  let ⟨b, off, ha, hlt, h0, h1, h2⟩ := h k hk
  ⟨b, off, ha, Nat.lt_of_lt_of_le hlt hb.size, (hb.cell (p := ⟨b, _, none⟩) hlt).trans h0, (hb.cell (p := ⟨b, _, none⟩) hlt).trans h1, (hb.cell (p := ⟨b, _, none⟩) hlt).trans h2⟩
theorem Recs2At.nil (w : World) (a : Option Addr) : Recs2At w a [] := fun k hk => absurd hk (Nat.not_lt_zero k)
theorem Recs3At.nil (w : World) (a : Option Addr) : Recs3At w a [] := fun k hk => absurd hk (Nat.not_lt_zero k)

theorem enters {P : Program} {f : FuncId} {fn : Func} (hf : P.funcs[f]? = some fn) (hn : (fn.name == "runtime.NumGoroutine") = false) (hb : fn.body.isNone = false) (args : Array Value) (w : World) :
    Sem.run P (callFunc f args) w = .ok (.enter f args) w := by
  have h1 : ¬ fn.name = "runtime.NumGoroutine" := by simpa using hn
  have h2 : ¬ fn.body = none := by intro h; simp [h] at hb
  simp [callFunc, hf, h1, h2]

/-- The first place at which p holds; -1 without one. -/
def idxBy {α : Type} (p : α → Bool) : List α → Nat → Int
  | [], _ => -1
  | x :: l, k => if p x then k else idxBy p l (k + 1)
theorem idxBy_hit {α : Type} (p : α → Bool) (xs : List α) (k : Nat) (hk : k < xs.length) (h : p xs[k] = true) : idxBy p (xs.drop k) k = k := by
  rw [List.drop_eq_getElem_cons hk]; simp [idxBy, h]
theorem idxBy_miss {α : Type} (p : α → Bool) (xs : List α) (k : Nat) (hk : k < xs.length) (h : p xs[k] = false) : idxBy p (xs.drop k) k = idxBy p (xs.drop (k + 1)) (k + 1) := by
  rw [List.drop_eq_getElem_cons hk]; simp [idxBy, h]
theorem idxBy_end {α : Type} (p : α → Bool) (xs : List α) (n k : Nat) (hk : xs.length ≤ n) : idxBy p (xs.drop n) k = -1 := by
  rw [List.drop_eq_nil_of_le hk]; rfl
theorem idxBy_any {α : Type} (p : α → Bool) : ∀ (xs : List α) (k : Nat), decide (0 ≤ idxBy p xs k) = xs.any p
  | [], _ => by simp [idxBy]
  | x :: l, k => by
    simp only [idxBy, List.any_cons]
    by_cases hp : p x = true
    · simp [hp]
    · simp [hp, idxBy_any p l (k + 1)]
theorem idxBy_le {α : Type} (p : α → Bool) : ∀ (xs : List α) (k : Nat), -1 ≤ idxBy p xs k ∧ idxBy p xs k ≤ k + xs.length
  | [], k => by simp only [idxBy, List.length_nil]; omega
  | x :: l, k => by
    simp only [idxBy, List.length_cons]
    have := idxBy_le p l (k + 1)
    split <;> omega

end Go.Proofs.Ytnofcpihkglmmaa
