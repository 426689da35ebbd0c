/- markSite: the marks that the laws set in a site; facts about the rows of cranes. -/
import Derived.Test.YtencnldflnbdiaaCRows
import Derived.Test.YtencnldflnbdiaaMCrane
namespace Go.Proofs.Ytencnldflnbdiaa
open Go.RowKit
set_option linter.unusedVariables false
def MarkSite (w : World) (lo hi : Nat) (s : Row Crane) (q : Int) (e : Ending) (w' : World) : Prop :=
  e = .returned (.int .i64 (q + (tot Crane.wide s.xs : Nat))) ∧ Within lo hi w w' ∧ CranesOwn w' lo hi s.a s.n (upTo (markCranes q s.xs) s.xs s.n)
set_option maxHeartbeats 800000 in
theorem markSite_any (s : Row Crane) (q : Int) (w : World) (lo hi : Nat) (h : CranesOwn w lo hi s.a s.n s.xs) (hhi : hi ≤ w.heap.size) (hn : s.n ≤ 1048576) (hrn : ∀ p ∈ s.xs, p.r.n ≤ 1048576) (hq : 0 ≤ q) (hq2 : q + (tot Crane.wide s.xs : Nat) ≤ 1073741824) :
    Calls Try.prog 13 #[.agg #[.slice s.a s.n s.cap], .int .i64 q] w (MarkSite w lo hi s q) := by
  have hb := (Below.refl w.heap.size w).alloc (Nat.le_refl _) (.cells #[.slice s.a s.n s.cap] 31)
  go_enter Try.func13, Try.ntmps13
  go_wp2_with fail
  refine (markCraneS_any _ _ _ s.xs q _ lo hi (h.bel hb) hn hrn hq hq2).mono ?_
  rintro e w1 ⟨rfl, hw1, ho⟩
  go_wp2
  go_ret
  exact ⟨rfl, (Within.of_below _ _ hb).trans hw1, ho⟩
end Go.Proofs.Ytencnldflnbdiaa
