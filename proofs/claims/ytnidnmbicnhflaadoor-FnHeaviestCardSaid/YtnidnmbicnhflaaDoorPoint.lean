/- Points by value: the laws' own copy and equality. -/
import Derived.Test.YtnidnmbicnhflaaDoorProg
import Derived.Test.YtnidnmbicnhflaaDoorWords2
namespace Go.Proofs.YtnidnmbicnhflaaDoor
open Go.RowKit
set_option linter.unusedVariables false

end Go.Proofs.YtnidnmbicnhflaaDoor
