/- the walls of %seqr (out of XCel) -/
import Derived.Test.YtnofcpihkglmmaaCep
namespace Go.Proofs.Ytnofcpihkglmmaa
set_option linter.unusedVariables false
set_option linter.unusedSimpArgs false
set_option linter.unnecessarySimpa false
open Go.RowKit Go.Flow
section
variable {P : Program} {ops : Array Oper} {w : World} {m : List Bool} {o : Oper} {l : List Oper} {R : Value → World → Prop} {Rs : List (Value → World → Prop)} {acc : List (Option Tmp × (Value → World → Prop))} {a : Act} {d : Option Tmp} {K : Act → World → Prop} {Q : Act → Prop}
theorem relObl2_t : relObl2 P ops w (true :: m) (o :: l) Rs acc a ↔ relObl2 P ops w m l Rs acc a := ⟨fun h => h, fun h => h⟩
/-- 'gives' behind a wall: nothing looks through it. -/
structure Gv (P : Program) (o : Oper) (a : Act) (w : World) (S : Value → World → Prop) : Prop where
  out : o.gives P a w S
theorem under_mono {K K' : Act → World → Prop} (hk : ∀ a w, K a w → K' a w) : ∀ (acc : List (Option Tmp × (Value → World → Prop))) (a : Act), under ops o acc K a w → under ops o acc K' a w
  | [], a, h => hk a w h
  | (_, _) :: acc, _, h => fun v hv => under_mono hk acc _ (h v hv)
theorem relObl2_f : relObl2 P ops w (false :: m) (o :: l) (R :: Rs) acc a ↔ (∀ e : Ext w, under ops o acc (fun a' w' => Gv P o a' w' fun v w'' => Below w'.heap.size w' w'' ∧ R v w'') a e.to) ∧ relObl2 P ops w m l Rs (acc ++ [(o.dst, R)]) a :=
  ⟨fun h => ⟨fun e => under_mono (fun _ _ h => ⟨h⟩) acc a (h.1 e), h.2⟩, fun h => ⟨fun e => under_mono (fun _ _ h => h.out) acc a (h.1 e), h.2⟩⟩
theorem relObl2_n : relObl2 P ops w [] l Rs acc a ↔ True := ⟨fun _ => trivial, fun _ => by unfold relObl2; trivial⟩
theorem under_c : under ops o ((d, R) :: acc) K a w ↔ ∀ v, (looksB ops o d = true → R v w) → under ops o acc K (a.put d v) w := ⟨fun h => h, fun h => h⟩
theorem under_n : under ops o [] K a w ↔ K a w := ⟨fun h => h, fun h => h⟩
theorem relEnd_t : relEnd Q w (true :: m) (o :: l) Rs a ↔ relEnd Q w m l Rs a := ⟨fun h => h, fun h => h⟩
theorem relEnd_f : relEnd Q w (false :: m) (o :: l) (R :: Rs) a ↔ ∀ v, R v w → relEnd Q w m l Rs (a.put o.dst v) := ⟨fun h => h, fun h => h⟩
structure Wl (p : Prop) : Prop where
  out : p
theorem relEnd_n : relEnd Q w [] l Rs a ↔ Wl (Q a) := ⟨fun h => ⟨by unfold relEnd at h; exact h⟩, fun h => by unfold relEnd; exact h.out⟩
end
end Go.Proofs.Ytnofcpihkglmmaa
