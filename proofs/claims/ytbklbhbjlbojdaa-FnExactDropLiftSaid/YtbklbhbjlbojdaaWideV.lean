/- How many cells lifts have, over their values: for the laws that hand lifts back. -/
import Derived.Test.YtbklbhbjlbojdaaLiftRows
import Derived.Test.YtbklbhbjlbojdaaLiftLaw
namespace Go.Proofs.Ytbklbhbjlbojdaa
open Go.RowKit
set_option linter.unusedVariables false
def wideV (vs : List LV) : Nat := (vs.map fun v => 8 + v.2.length).sum
theorem tot_wideV {ps : List Lift} {vs : List LV} (h : ps.map Lift.val = vs) : tot Lift.wide ps = wideV vs := by
  subst h
  unfold tot wideV
  rw [List.map_map]; rfl
theorem wideV_erase : ∀ (vs : List LV) (i : Nat), wideV (vs.eraseIdx i) ≤ wideV vs
  | [], i => by simp
  | v :: vs, 0 => by simp only [List.eraseIdx_cons_zero, wideV, List.map_cons, List.sum_cons]; omega
  | v :: vs, i + 1 => by
    have := wideV_erase vs i
    simp only [List.eraseIdx_cons_succ, wideV, List.map_cons, List.sum_cons] at this ⊢; omega
end Go.Proofs.Ytbklbhbjlbojdaa
