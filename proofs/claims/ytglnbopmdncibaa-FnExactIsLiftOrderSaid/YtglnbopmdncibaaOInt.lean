/- An argument of type []int64 opened: in OPoint. -/
import Derived.Test.YtglnbopmdncibaaOPoint
namespace Go.Proofs.Ytglnbopmdncibaa
theorem open_Int_there : True := trivial
end Go.Proofs.Ytglnbopmdncibaa
