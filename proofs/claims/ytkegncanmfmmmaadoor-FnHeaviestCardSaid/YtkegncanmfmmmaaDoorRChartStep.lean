/- ChartStep: the record, and the contracts of the laws' own functions over it: size, copy, equality, marks. The copies are of lists of at most 1048576. -/
import Derived.Test.YtkegncanmfmmmaaDoorProg
import Derived.Test.YtkegncanmfmmmaaDoorWords2
import Derived.Deep.RegionHeld3
import Derived.Deep.QuietTactic
import Derived.BigQuiet
import Derived.KernelRfl
namespace Go.Proofs.YtkegncanmfmmmaaDoor
open Go.RowKit
set_option linter.unusedVariables false

structure ChartStep where
  radius : Int
  load : Int

def ChartStep.cs (p : ChartStep) : List Value := [.int .i64 p.radius, .int .i64 p.load]
theorem ChartStep.cs_len (p : ChartStep) : p.cs.length = 2 := rfl
theorem ChartStep.cs_one (p : ChartStep) : ∀ u ∈ p.cs, u.oneCell' = true := by intro u hu; simp [ChartStep.cs] at hu; rcases hu with rfl | rfl <;> rfl
structure ChartStep.wf (p : ChartStep) : Prop where
  radius : -9223372036854775808 ≤ p.radius ∧ p.radius ≤ 9223372036854775807
  load : -9223372036854775808 ≤ p.load ∧ p.load ≤ 9223372036854775807

theorem ChartStep.at {w : World} {lo hi : Nat} {A : Option Addr} {n : Nat} {xs : List ChartStep} (h : Arr ChartStep.cs 2 w lo hi A n xs) {i : Nat} (hi' : i < n) :
    ∃ b off p, A = some ⟨b, off, none⟩ ∧ xs[i]? = some p ∧ lo ≤ b ∧ b < hi ∧ w.cell? ⟨b, off + i * 2, none⟩ = some (.int .i64 p.radius) ∧ w.cell? ⟨b, off + i * 2 + 1, none⟩ = some (.int .i64 p.load) := by
  obtain ⟨b, off, p, h1, h2, h3, h4, hc⟩ := h.cells hi'
  exact ⟨b, off, p, h1, h2, h3, h4, hc 0 _ rfl, hc 1 _ rfl⟩

def szChartStepS (n : Nat) (_ps : List ChartStep) : Int := n
theorem ChartStepInfo : (Tryd.prog.info? 162).map (fun i => (i.zero, i.size, i.bytes)) = some (some (.agg #[.int .i64 0, .int .i64 0]), 2, 16) := by kernel_rfl
def ToChartStepS (w : World) (n : Nat) (ps : List ChartStep) (e : Ending) (w' : World) : Prop :=
  ∃ g, e = .returned (.slice (some ⟨g, 0, none⟩) n n) ∧ Own ChartStep.cs 2 w' w.heap.size w'.heap.size 162 (some ⟨g, 0, none⟩) n ps ∧ Below w.heap.size w w'
end Go.Proofs.YtkegncanmfmmmaaDoor
