/- book, laws: BookUndone -/
import Derived.Test.YticjeianiahppaaGreatDoorVu
import Derived.Test.YticjeianiahppaaGreatDoorVv
namespace Go.Proofs.YticjeianiahppaaGreatDoor
set_option linter.unusedVariables false
set_option linter.unusedSimpArgs false
set_option linter.unnecessarySimpa false
open Go.RowKit Go.Flow
theorem bookUndone_walk (a : Option Addr) (l : List ByteArray) (c : Nat) (first second : Int) (skipped : Bool) (w : World) (hl : StrsAt w a l) (hn : a = none → c = 0) (hm : l.length ≤ 9223372036854775807) (hc : l.length ≤ c) (hfirst : 0 ≤ first ∧ first ≤ 255) (hsecond : 0 ≤ second ∧ second ≤ 255) (hv : Vars w) :
    Calls Tryz.prog 12 #[.slice a l.length c, .int .u8 first, .int .u8 second, .bool skipped] w fun e w' => e = .returned (.bool true) ∧ Below w.heap.size w w' := by
  cases skipped
  · exact bookUndone_no a l c first second w hl hn hm hc hfirst hsecond hv
  · exact bookUndone_yes a l c first second w hl hn hm hc hfirst hsecond hv
end Go.Proofs.YticjeianiahppaaGreatDoor
