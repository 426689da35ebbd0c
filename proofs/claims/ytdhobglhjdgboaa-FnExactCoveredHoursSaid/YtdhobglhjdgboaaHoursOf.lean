/- HoursOf, of the program and of the reference: both hand back hoursRes. -/
import Derived.Test.YtdhobglhjdgboaaShifts
namespace Go.Proofs.Ytdhobglhjdgboaa
open Go.RowKit
set_option linter.unusedVariables false

def hoursTo (xs : List Shift) (p : Int) : Nat → Int
  | 0 => 0
  | k + 1 => hoursTo xs p k + (match xs[k]? with | some x => if x.person = p then x.stop - x.start else 0 | none => 0)
theorem hoursTo_yes {xs : List Shift} {p : Int} {k : Nat} {x : Shift} (h : xs[k]? = some x) (hp : x.person = p) : hoursTo xs p (k + 1) = hoursTo xs p k + (x.stop - x.start) := by simp [hoursTo, h, hp]
theorem hoursTo_no {xs : List Shift} {p : Int} {k : Nat} {x : Shift} (h : xs[k]? = some x) (hp : x.person ≠ p) : hoursTo xs p (k + 1) = hoursTo xs p k := by simp [hoursTo, h, hp]
def hoursSum (xs : List Shift) (p : Int) : Int := if shCode xs p 29 = 0 then hoursTo xs p xs.length else 0

theorem shCode_zero {xs : List Shift} {p most : Int} (h : shCode xs p most = 0) : xs.any badShift = false ∧ (xs.length : Int) ≤ 60 ∧ inB p 0 most = true := by
  unfold shCode at h
  split at h
  · omega
  · rename_i h1
    split at h
    · omega
    · rename_i h2
      split at h
      · rename_i h3
        exact ⟨by simpa using h1, by omega, h3⟩
      · omega
theorem shCode_one (xs : List Shift) (p most : Int) : shCode xs p most = if shCode1 xs = 0 then (if inB p 0 most then 0 else 2) else shCode1 xs := by
  unfold shCode shCode1
  by_cases h1 : xs.any badShift = true
  · simp [h1]
  · by_cases h2 : 60 < (xs.length : Int)
    · simp [h1, h2]
    · simp [h1, h2]
theorem fOk_all {xs : List Shift} (h : xs.any badShift = false) {k : Nat} {x : Shift} (hx : xs[k]? = some x) : fOk x = true := by
  rw [List.any_eq_false] at h
  have := h x (List.mem_of_getElem? hx)
  simpa [badShift] using this

end Go.Proofs.Ytdhobglhjdgboaa
