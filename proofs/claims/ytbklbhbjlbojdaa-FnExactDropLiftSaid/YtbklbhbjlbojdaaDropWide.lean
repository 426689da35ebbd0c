/- How many cells the lifts have that DropLift hands back. -/
import Derived.Test.YtbklbhbjlbojdaaWideV
import Derived.Test.YtbklbhbjlbojdaaDropLaw
namespace Go.Proofs.Ytbklbhbjlbojdaa
open Go.RowKit
set_option linter.unusedVariables false
theorem wideV_sh (vs : List LV) (k : Int) : wideV (vs.map (shV k)) = wideV vs := by
  unfold wideV
  rw [List.map_map]
  congr 1
  apply List.map_congr_left
  intro v _
  simp [shV]
theorem wideV_dl (vs : List LV) (k : Int) : wideV (dlXs vs k) ≤ wideV vs := by
  unfold dlXs
  split
  · rw [← wideV_sh vs k]; exact wideV_erase _ _
  · simp [wideV]
end Go.Proofs.Ytbklbhbjlbojdaa
