/- markCrane: the marks that the laws set in a crane by value. -/
import Derived.Test.YtdhobglhjdgboaaDoorRCrane
import Derived.Test.YtdhobglhjdgboaaDoorMChartStep
namespace Go.Proofs.YtdhobglhjdgboaaDoor
open Go.RowKit
set_option linter.unusedVariables false
set_option maxHeartbeats 800000 in
theorem markCrane_any (v : CraneV) (A : Option Addr) (n c : Nat) (xs : List ChartStep) (q : Int) (w : World) (lo hi : Nat) (h : Own ChartStep.cs 2 w lo hi 220 A n xs) (hhi : hi ≤ w.heap.size) (hn : n ≤ 4194304) (hq : 0 ≤ q) (hq2 : q ≤ 1073741824) :
    Calls Tryd.prog 24 #[.agg #[.string v.name, .int .i64 v.ax, .int .i64 v.ay, .int .i64 v.height, .int .i64 v.jib, .int .i64 v.back, .slice A n c], .int .i64 q] w fun e w' => e = .returned (.int .i64 (q + 2 * (n : Nat))) ∧ Within lo hi w w' ∧ Own ChartStep.cs 2 w' lo hi 220 A n (marksChartStep q n) := by
  have hb := (Below.refl w.heap.size w).alloc (Nat.le_refl _) (.cells #[.string v.name, .int .i64 v.ax, .int .i64 v.ay, .int .i64 v.height, .int .i64 v.jib, .int .i64 v.back, .slice A n c] 44)
  go_enter Tryd.func24, Tryd.ntmps24
  go_wp2_with fail
  refine (markChartStepS_any _ _ _ xs q _ lo hi (h.bel hb) hn hq hq2).mono ?_
  rintro e w1 ⟨rfl, hw1, ho⟩
  go_wp2
  go_ret
  exact ⟨rfl, (Within.of_below _ _ hb).trans hw1, ho⟩
end Go.Proofs.YtdhobglhjdgboaaDoor
