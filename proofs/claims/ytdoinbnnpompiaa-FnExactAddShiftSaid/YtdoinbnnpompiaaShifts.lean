/- shiftsCode and l24Shifts: the code for a list of shifts. -/
import Derived.Test.YtdoinbnnpompiaaShiftForm
namespace Go.Proofs.Ytdoinbnnpompiaa
open Go.RowKit
set_option linter.unusedVariables false

theorem any_bad (xs : List Shift) : xs.any badShift = !allTo (fun i => match xs[i]? with | some x => fOk x | none => true) xs.length := by
  rw [Bool.eq_iff_iff, Bool.not_eq_true', List.any_eq_true]
  constructor
  · rintro ⟨x, hx, hb⟩
    obtain ⟨j, hj, rfl⟩ := List.getElem_of_mem hx
    refine allTo_bad hj ?_
    rw [List.getElem?_eq_getElem hj]
    simpa [badShift] using hb
  · intro h
    have : ¬ (∀ i, i < xs.length → (match xs[i]? with | some x => fOk x | none => true) = true) := by
      intro h2; rw [allTo_iff.2 h2] at h; cases h
    apply Classical.byContradiction
    intro hno
    apply this
    intro i hi
    rw [List.getElem?_eq_getElem hi]
    cases hq : fOk xs[i] with
    | true => exact hq
    | false => exact absurd ⟨xs[i], List.getElem_mem hi, by simp [badShift, hq]⟩ hno
/-- the code for a list of shifts and a number that is at most a limit -/
def shCode (xs : List Shift) (n most : Int) : Int := if xs.any badShift then 1 else if 60 < (xs.length : Int) then 5 else if inB n 0 most then 0 else 2

def shCode1 (xs : List Shift) : Int := if xs.any badShift then 1 else if 60 < (xs.length : Int) then 5 else 0
end Go.Proofs.Ytdoinbnnpompiaa
