/- Charts: loadAt of the program, l03Load of the reference: both tell ldI. -/
import Derived.Test.YtencnldflnbdiaaCharts2
import Derived.Test.YtencnldflnbdiaaNest2
import Derived.RegionTactic
namespace Go.Proofs.Ytencnldflnbdiaa
open Go.RowKit
set_option linter.unusedVariables false

/-- what loadAt hands back for a load, -1 for none -/
def ldRet (v : Int) : Value := .tuple #[.int .i64 (if v < 0 then 0 else v), .bool (decide (0 ≤ v))]
theorem ldRet_no {v : Int} (h : v < 0) : ldRet v = .tuple #[.int .i64 0, .bool false] := by unfold ldRet; rw [if_pos h, decide_eq_false (by omega)]
theorem ldRet_yes {v : Int} (h : 0 ≤ v) : ldRet v = .tuple #[.int .i64 v, .bool true] := by unfold ldRet; rw [if_neg (by omega), decide_eq_true h]
end Go.Proofs.Ytencnldflnbdiaa
