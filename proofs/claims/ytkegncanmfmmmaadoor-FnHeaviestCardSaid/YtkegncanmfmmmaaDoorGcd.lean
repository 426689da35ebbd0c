/- The greatest common divisor: l14Gcd of the reference, reduced of the program. -/
import Derived.Test.YtkegncanmfmmmaaDoorRFraction
import Derived.Test.YtkegncanmfmmmaaDoorLow
import Derived.Lib.QuietBelow
import Derived.BigQuiet
namespace Go.Proofs.YtkegncanmfmmmaaDoor
open Go.RowKit Go.Sort
set_option linter.unusedVariables false

theorem tmod_nat (x y : Nat) : Int.tmod (x : Int) (y : Int) = ((x % y : Nat) : Int) := rfl
end Go.Proofs.YtkegncanmfmmmaaDoor
