/- pay: own lists that a law makes and changes -/
import Derived.Test.YtomjlmhnjgohdaaBv
import Derived.Deep.Cut
namespace Go.Proofs.Ytomjlmhnjgohdaa
set_option linter.unusedVariables false
set_option linter.unusedSimpArgs false
set_option linter.unnecessarySimpa false
open Go.RowKit Go.Flow Go.Shelf

theorem list_own (a : Option Addr) (l : List Int) (c : Nat) (w : World) (hx : IntsAt w a l) (hl : l.length ≤ 1000) (nx : a = none → c = 0) :
    Calls Try.prog 22 #[.slice a l.length c] w fun e w' => (∃ a c, e = .returned (.slice a l.length c) ∧ OwnL 3 1 w.heap.size w' a c l.length (l.map (Value.int .i64))) ∧ Below w.heap.size w w' :=
  (list_any a l c w hx (by omega) nx).mono fun e w' ⟨a, c, h1, h2, h3⟩ => ⟨⟨a, c, h1, h2⟩, h3⟩
theorem own_setCell {E : TypeId} {base : Nat} {w : World} {g c n : Nat} {xs : List Value} (h : OwnL E 1 base w (some ⟨g, 0, none⟩) c n xs) (j : Nat) (u : Value) :
    OwnL E 1 base (w.setCell ⟨g, j, none⟩ u) (some ⟨g, 0, none⟩) c n (xs.set j u) := (World.ownsRow.stored h j u).1
theorem own_cell {base : Nat} {w : World} {g c n : Nat} {ys : List Int} (h : OwnL 3 1 base w (some ⟨g, 0, none⟩) c n (ys.map (Value.int .i64))) (i : Nat) (hi : i < ys.length) :
    w.frozen? ⟨g, i, none⟩ = false ∧ w.cell? ⟨g, i, none⟩ = some (.int .i64 (ys.getD i 0)) := by
  rcases h.form with ⟨h1, _⟩ | ⟨g', h1, _, _, _, _, hf, hc⟩
  · cases h1
  · simp only [Option.some.injEq, Addr.mk.injEq, and_true] at h1
    subst h1
    exact ⟨hf i, hc i _ (by simp [hi])⟩
theorem own_some {E : TypeId} {size base : Nat} {w : World} {a : Option Addr} {c n : Nat} {xs : List Value} (h : OwnL E size base w a c n xs) (hn : 0 < n) : ∃ g, a = some ⟨g, 0, none⟩ ∧ base ≤ g ∧ g < w.heap.size := by
  rcases h.form with ⟨_, _, h0, _⟩ | ⟨g, h1, h2, h3, _⟩
  · omega
  · exact ⟨g, h1, h2, h3⟩
end Go.Proofs.Ytomjlmhnjgohdaa
