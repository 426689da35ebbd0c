/- l08Copy and AddLift of the reference once more: rows may be nil. -/
import Derived.Test.YtnidnmbicnhflaaDoorSpecAddLift
namespace Go.Proofs.YtnidnmbicnhflaaDoor
open Go.RowKit
set_option linter.unusedVariables false

/-- a row has a head, or it is nil -/
def Headed (r : Row Int) : Prop := (∃ a, r.a = some a) ∨ (r.a = none ∧ r.n = 0 ∧ r.cap = 0)
end Go.Proofs.YtnidnmbicnhflaaDoor
