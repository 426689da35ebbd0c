/- markLift: the marks that the laws set in a lift by value. -/
import Derived.Test.YtbklbhbjlbojdaaRLift
namespace Go.Proofs.Ytbklbhbjlbojdaa
open Go.RowKit
set_option linter.unusedVariables false
set_option maxHeartbeats 800000 in
theorem markLift_any (v : LiftV) (A : Option Addr) (n c : Nat) (xs : List Int) (q : Int) (w : World) (lo hi : Nat) (h : Own ic 1 w lo hi 2 A n xs) (hhi : hi ≤ w.heap.size) (hn : n ≤ 4194304) (hq : 0 ≤ q) (hq2 : q ≤ 1073741824) :
    Calls Try.prog 23 #[.agg #[.string v.name, .int .i64 v.weight, .int .i64 v.fx, .int .i64 v.fy, .int .i64 v.tx, .int .i64 v.ty, .int .i64 v.height, .int .i64 v.deadline, .slice A n c], .int .i64 q] w fun e w' => e = .returned (.int .i64 (q + (n : Nat))) ∧ Within lo hi w w' ∧ Own ic 1 w' lo hi 2 A n (marksInt q n) := by
  have hb := (Below.refl w.heap.size w).alloc (Nat.le_refl _) (.cells #[.string v.name, .int .i64 v.weight, .int .i64 v.fx, .int .i64 v.fy, .int .i64 v.tx, .int .i64 v.ty, .int .i64 v.height, .int .i64 v.deadline, .slice A n c] 36)
  go_enter Try.func23, Try.ntmps23
  go_wp2_with fail
  refine (markInt64S_any _ _ _ xs q _ lo hi (h.bel hb) hn hq hq2).mono ?_
  rintro e w1 ⟨rfl, hw1, ho⟩
  go_wp2
  go_ret
  exact ⟨rfl, (Within.of_below _ _ hb).trans hw1, ho⟩
end Go.Proofs.Ytbklbhbjlbojdaa
