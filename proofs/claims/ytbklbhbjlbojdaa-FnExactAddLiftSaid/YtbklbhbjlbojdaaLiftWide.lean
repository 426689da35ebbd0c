/- How many cells lifts have, over their values: for the laws that hand lifts back. -/
import Derived.Test.YtbklbhbjlbojdaaWideV
import Derived.Test.YtbklbhbjlbojdaaAddLift
namespace Go.Proofs.Ytbklbhbjlbojdaa
open Go.RowKit
set_option linter.unusedVariables false
theorem wideV_al (vs : List LV) (v : LV) : wideV (alXs vs v) ≤ wideV vs + (8 + v.2.length) := by
  unfold alXs
  split
  · unfold wideV; rw [List.map_append, List.sum_append]; simp
  · unfold wideV; simp
theorem alXs_len (vs : List LV) (v : LV) : (alXs vs v).length ≤ 10 := by
  unfold alXs
  by_cases h : alCode vs v = 0
  · rw [if_pos h]
    cases h5 : liftsOk (vs ++ [v])
    · exfalso
      revert h
      unfold alCode
      rw [h5]
      repeat' split
      all_goals (intro h; first | omega | contradiction | simp_all)
    · exact liftsOk_len h5
  · rw [if_neg h]; simp
end Go.Proofs.Ytbklbhbjlbojdaa
