/- Points by value: the laws' own copy and equality. -/
import Derived.Test.YtnidnmbicnhflaaProg
import Derived.Test.YtnidnmbicnhflaaWords2
namespace Go.Proofs.Ytnidnmbicnhflaa
open Go.RowKit
set_option linter.unusedVariables false

end Go.Proofs.Ytnidnmbicnhflaa
