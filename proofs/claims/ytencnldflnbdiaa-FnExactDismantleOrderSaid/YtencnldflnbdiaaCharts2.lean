/- Charts: stepFor, loadAt, ceil of the program; l03Find, l03Load, l03Up, l03Last of the reference. -/
import Derived.Test.YtencnldflnbdiaaCharts
import Derived.Deep.RegionHeld3
namespace Go.Proofs.Ytencnldflnbdiaa
open Go.RowKit
set_option linter.unusedVariables false

theorem l03Last_any (A : Option Addr) (n c : Nat) (xs : List ChartStep) (w : World) (lo hi : Nat) (h : Arr ChartStep.cs 2 w lo hi A n xs) (hn0 : 0 < n) (hn : n ≤ 9223372036854775807) :
    Calls Try.prog 105 #[.slice A n c] w fun e w' => e = .returned (.int .i64 (lastR xs)) ∧ w = w' := by
  obtain ⟨m, rfl⟩ : ∃ m, n = m + 1 := ⟨n - 1, by omega⟩
  obtain ⟨b, off, s, rfl, hx, _, hbl, c0, c1⟩ := ChartStep.at h (show m < m + 1 by omega)
  have H : Hid (lastR xs = s.radius) := by show _ = _; unfold lastR; rw [h.1, Nat.add_sub_cancel, hx]
  have hm0 : (0 : Int) ≤ (m : Int) := by omega
  have hm1 : (m : Int) < ((m + 1 : Nat) : Int) := by omega
  clear hx h
  go_enter Try.func105, Try.ntmps105
  go_wp2
  go_ret
  exact ⟨by rw [H.out]; rfl, rfl⟩
end Go.Proofs.Ytencnldflnbdiaa
