/- cipher: the reference's Decode · cipher: the reference's Decode (continued) · Decoding of a dispatch; errors in it. -/
import Derived.Test.YtnofcpihkglmmaaCep
import Derived.Test.YtnofcpihkglmmaaLa
import Derived.Test.YtnofcpihkglmmaaMa
import Derived.Maps.AppendAt
namespace Go.Proofs.Ytnofcpihkglmmaa
set_option linter.unusedVariables false
set_option linter.unusedSimpArgs false
set_option linter.unnecessarySimpa false
open Go.RowKit Go.Flow

section
variable {P : Program} {t E : TypeId} {z : Value} {size bytes : Nat} {ops : Array Oper} {rest : List Oper} {o : Oper} {a : Act} {Q : Exit → Act → World → Prop}
end
end Go.Proofs.Ytnofcpihkglmmaa

namespace Go.Proofs.Ytnofcpihkglmmaa
set_option linter.unusedVariables false
set_option linter.unusedSimpArgs false
set_option linter.unnecessarySimpa false
open Go.RowKit Go.Flow

theorem plainRef_at (s wo : Int) (ks ds : Value) (a : Option Addr) (l : List Int) (n c : Nat) (hn : l.length = n) (r : Bool) (h : Hid (l.all (plainOk s) = r)) (w : World) (h0 : 0 ≤ s) (h1 : s ≤ 1000) (hl : IntsAt w a l) (ll : n ≤ 1000) :
    Calls Try.prog 8 #[.agg #[.int .i64 s, .int .i64 wo, ks, ds], .slice a n c] w fun e w' => e = .returned (.bool r) ∧ Below w.heap.size w w' := by
  subst hn; exact plainRef_eq s wo ks ds a l c r h w h0 h1 hl ll

end Go.Proofs.Ytnofcpihkglmmaa

namespace Go.Proofs.Ytnofcpihkglmmaa
set_option linter.unusedVariables false
set_option linter.unusedSimpArgs false
set_option linter.unnecessarySimpa false
open Go.RowKit Go.Flow

theorem upTo_getD (F : Nat → Int) (n k : Nat) (h : k < n) : (upTo F n)[k]? = some (F k) := by
  unfold upTo; rw [List.getElem?_map, List.getElem?_range h]; rfl

end Go.Proofs.Ytnofcpihkglmmaa
