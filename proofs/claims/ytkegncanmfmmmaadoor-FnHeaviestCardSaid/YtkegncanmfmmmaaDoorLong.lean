/- a2Long: an argument that is too long. -/
import Derived.Test.YtkegncanmfmmmaaDoorSrc2
namespace Go.Proofs.YtkegncanmfmmmaaDoor
open Go.RowKit
set_option linter.unusedVariables false

set_option maxRecDepth 100000 in
set_option maxHeartbeats 1600000 in
theorem a2Long_any (A B : Option Addr) (n c m d : Nat) (hn : n ≤ 9223372036854775807) (hm : m ≤ 9223372036854775807) (w : World) :
    Calls Tryd.prog 7 #[.slice A n c, .slice B m d] w fun e w' => e = .returned (.bool (decide (3000 < n) || decide (3000 < m))) ∧ w = w' := by
  by_cases h1 : 3000 < n
  · have g1 : (3000 : Int) < (n : Int) := by omega
    have H : Hid ((decide (3000 < n) || decide (3000 < m)) = true) := by show _ = _; rw [decide_eq_true h1]; rfl
    go_enter Tryd.func7, Tryd.ntmps7
    go_wp2
    go_ret
    exact ⟨by first | (rw [H.out]; rfl) | rfl, rfl⟩
  · have g1 : ¬ (3000 : Int) < (n : Int) := by omega
    by_cases h2 : 3000 < m
    · have g2 : (3000 : Int) < (m : Int) := by omega
      have H : Hid ((decide (3000 < n) || decide (3000 < m)) = true) := by show _ = _; rw [decide_eq_true h2]; simp
      go_enter Tryd.func7, Tryd.ntmps7
      go_wp2
      go_ret
      exact ⟨by first | (rw [H.out]; rfl) | rfl, rfl⟩
    · have g2 : ¬ (3000 : Int) < (m : Int) := by omega
      have H : Hid ((decide (3000 < n) || decide (3000 < m)) = false) := by show _ = _; rw [decide_eq_false h1, decide_eq_false h2]; rfl
      go_enter Tryd.func7, Tryd.ntmps7
      go_wp2
      go_ret
      exact ⟨by first | (rw [H.out]; rfl) | rfl, rfl⟩
end Go.Proofs.YtkegncanmfmmmaaDoor
