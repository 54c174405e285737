/- cipher: the reference's Fits -/
import Derived.Test.YtnofcpihkglmmaaCel
import Derived.Test.YtnofcpihkglmmaaDq
import Derived.Test.YtnofcpihkglmmaaLa
import Derived.Test.YtnofcpihkglmmaaDi
namespace Go.Proofs.Ytnofcpihkglmmaa
set_option linter.unusedVariables false
set_option linter.unusedSimpArgs false
set_option linter.unnecessarySimpa false
open Go.RowKit Go.Flow

def inn3 (s m a : Int) (codes : List Int) (gs : List (Int × Int)) (n : Nat) : List K3 := ((List.range n).filter fun (st : Nat) => gs.all (agreeOk s m a st codes)).map fun (st : Nat) => (m, a, (st : Int))
def mid3 (s m : Int) (codes : List Int) (gs : List (Int × Int)) (n : Nat) : List K3 := (List.range n).flatMap fun (a : Nat) => inn3 s m a codes gs s.toNat
def out3 (s : Int) (codes : List Int) (gs : List (Int × Int)) (n : Nat) : List K3 := (List.range n).flatMap fun (i : Nat) => mid3 s ((i : Int) + 1) codes gs s.toNat
def refKeys (s : Int) (codes : List Int) (gs : List (Int × Int)) : List K3 := out3 s codes gs (s - 1).toNat
end Go.Proofs.Ytnofcpihkglmmaa
