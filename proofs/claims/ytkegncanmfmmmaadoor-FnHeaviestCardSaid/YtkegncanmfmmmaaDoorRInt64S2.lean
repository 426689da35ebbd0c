/- []int64: the contracts of the laws' own functions over it: size, copy, equality. -/
import Derived.Test.YtkegncanmfmmmaaDoorProg
import Derived.Test.YtkegncanmfmmmaaDoorNest
import Derived.Test.YtkegncanmfmmmaaDoorQuiet
import Derived.Test.YtkegncanmfmmmaaDoorRInt64
import Derived.Deep.RegionHeld3
import Derived.KernelRfl
namespace Go.Proofs.YtkegncanmfmmmaaDoor
open Go.RowKit
set_option linter.unusedVariables false

/-- a call that hands back a copy -/
def ToInt64S (w : World) (n : Nat) (ps : List Int) (e : Ending) (w' : World) : Prop :=
  ∃ g, e = .returned (.slice (some ⟨g, 0, none⟩) n n) ∧ Own ic 1 w' w.heap.size w'.heap.size 2 (some ⟨g, 0, none⟩) n ps ∧ Below w.heap.size w w'
end Go.Proofs.YtkegncanmfmmmaaDoor
