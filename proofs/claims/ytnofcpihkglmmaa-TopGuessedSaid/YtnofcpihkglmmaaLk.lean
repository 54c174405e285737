/- CipherKnown: the walk -/
import Derived.Test.YtnofcpihkglmmaaMh
import Derived.Test.YtnofcpihkglmmaaLa
import Derived.Test.YtnofcpihkglmmaaDi
namespace Go.Proofs.Ytnofcpihkglmmaa
set_option linter.unusedVariables false
set_option linter.unusedSimpArgs false
set_option linter.unnecessarySimpa false
open Go.RowKit Go.Flow

def TupG (C plain : List Int) (v : Value) (w : World) : Prop := ∃ a1 c1 a2 c2 gl, v = .tuple #[.slice a1 plain.length c1, .slice a2 (gl : List (Int × Int)).length c2] ∧ IntsAt w a1 C ∧ (a1 = none → c1 = 0) ∧ Recs2At w a2 gl ∧ TrueG plain plain.length gl
theorem TupG.kept {C plain : List Int} {v : Value} {w w' : World} (h : TupG C plain v w) (hb : Below w.heap.size w w') : TupG C plain v w' := let ⟨a1, c1, a2, c2, gl, h1, h2, h3, h4, h5⟩ := h; ⟨a1, c1, a2, c2, gl, h1, h2.below hb, h3, h4.below hb, h5⟩
def SlC (C plain : List Int) (v : Value) (w : World) : Prop := ∃ a c, v = .slice a plain.length c ∧ IntsAt w a C ∧ (a = none → c = 0)
theorem SlC.kept {C plain : List Int} {v : Value} {w w' : World} (h : SlC C plain v w) (hb : Below w.heap.size w w') : SlC C plain v w' := let ⟨a, c, h1, h2, h3⟩ := h; ⟨a, c, h1, h2.below hb, h3⟩
def SlG (plain : List Int) (v : Value) (w : World) : Prop := ∃ a c gl, v = .slice a (gl : List (Int × Int)).length c ∧ Recs2At w a gl ∧ TrueG plain plain.length gl
theorem SlG.kept {plain : List Int} {v : Value} {w w' : World} (h : SlG plain v w) (hb : Below w.heap.size w w') : SlG plain v w' := let ⟨a, c, gl, h1, h2, h3⟩ := h; ⟨a, c, gl, h1, h2.below hb, h3⟩
theorem IntsAt.lit1 (w : World) (p : Int) (T : TypeId) : IntsAt (w.alloc (.cells #[.int .i64 p] T)) (some ⟨w.heap.size, 0, none⟩) [p] := fun k hk => by
  have hk0 : k = 0 := by simp at hk; exact hk
  subst hk0
  exact ⟨w.heap.size, 0, rfl, by simp, by rw [World.cell?_alloc_at _ _ _ _ rfl]; rfl⟩
theorem same_one (a : Option Addr) (L : List Int) (c : Nat) (b : Option Addr) (p : Int) (w : World) (hL : Hid (L = [p])) (hx : IntsAt w a L) (hy : IntsAt w b [p]) :
    Calls Try.prog 22 #[.slice a L.length c, .slice b 1 1] w fun e w' => e = .returned (.bool true) ∧ Below w.heap.size w w' := by
  have h := hL.out
  subst h
  exact same_eq a [p] c b 1 w hx hy (by simp)
theorem u16_b {a : Int} (h : (Lit.int .u16 a).wf = true) : 0 ≤ a ∧ a ≤ 65535 := by
  simp [Lit.wf, IntKind.min, IntKind.max, IntKind.bits, IntKind.signed] at h; omega
end Go.Proofs.Ytnofcpihkglmmaa
