/- ChartStep: arguments of that type opened. -/
import Derived.Test.YtdhobglhjdgboaaDoorOpen
import Derived.Test.YtdhobglhjdgboaaDoorRChartStep
namespace Go.Proofs.YtdhobglhjdgboaaDoor
open Go.RowKit Go.ChangeShapes Go.WideShapes Go.Deep
set_option linter.unusedVariables false
section
variable {H : Type} {enc : TypeId × Value → H} {w : World} {base : Nat} {spare : Nat → Bool} {held : Bool}
theorem rec_ChartStep {n : Nat} {cs : List Value} {x : DataW H × List MemPlace} (h : DataW.trod enc Tryd.prog w base spare held n 222 cs = some x) : ∃ p : ChartStep, cs = p.cs ∧ p.wf := by
  obtain ⟨hl, m, hf⟩ := trod_fields Tryd.underlying222 (by kernel_rfl) (by kernel_rfl) h
  obtain ⟨v0, y0, g0, t0⟩ := hf 0 _ rfl
  obtain ⟨x0, e0, _, w0⟩ := DataW.trod_int Tryd.underlying2 t0
  simp only [List.cons.injEq, and_true] at e0; subst e0
  obtain ⟨v1, y1, g1, t1⟩ := hf 1 _ rfl
  obtain ⟨x1, e1, _, w1⟩ := DataW.trod_int Tryd.underlying2 t1
  simp only [List.cons.injEq, and_true] at e1; subst e1
  refine ⟨⟨x0, x1⟩, ?_, ?_⟩
  · match cs, (show cs.length = 2 from hl), g0, g1 with
    | [c0, c1], _, q0, q1 => simp at q0 q1; subst q0 q1; rfl
  · refine ⟨by have := wf_bounds w0; omega, by have := wf_bounds w1; omega⟩
theorem cells_ChartStep : Tryd.prog.cellsOf 222 = 2 := by kernel_rfl
theorem open_ChartStep {a : Option Addr} {n cp : Nat} {d : DataW H} {pl : List MemPlace} (h : DataW.Trod enc Tryd.prog w 0 spare held 32 (.slice a n cp) d pl) :
    ∃ xs : List ChartStep, n ≤ 9223372036854775807 ∧ Arr ChartStep.cs 2 w 0 w.heap.size a n xs ∧ ∀ p ∈ xs, p.wf :=
  open_recs (P := Tryd.prog) (E := 222) ChartStep.cs 2 ChartStep.wf (by omega) Tryd.underlying32 cells_ChartStep (fun _ _ _ h => rec_ChartStep h) h
set_option maxRecDepth 100000 in
theorem openv_ChartStep {r : Reach} {b0 : Nat} {v : Value} {d : DataW H} {pl : List MemPlace} (hv : Value.okWide Tryd.prog w r b0 222 v) (h : DataW.Trod enc Tryd.prog w base spare held 222 v d pl) :
    ∃ a : ChartStep, v = .agg #[.int .i64 a.radius, .int .i64 a.load] ∧ a.wf := by
  obtain ⟨cs, rfl, hsz⟩ := okWide_struct Tryd.underlying222 hv
  obtain ⟨fuel, hf⟩ := h
  obtain ⟨a, ha, hw⟩ := rec_ChartStep hf
  refine ⟨a, ?_, hw⟩
  obtain ⟨l⟩ := cs
  have : l = a.cs := by simpa [Value.cells] using ha
  rw [this]; rfl
end
end Go.Proofs.YtdhobglhjdgboaaDoor
