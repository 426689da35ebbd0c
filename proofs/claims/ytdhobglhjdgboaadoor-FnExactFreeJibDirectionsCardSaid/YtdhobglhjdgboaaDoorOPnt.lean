/- Pnt: arguments of that type opened. -/
import Derived.Test.YtdhobglhjdgboaaDoorOpen
import Derived.Test.YtdhobglhjdgboaaDoorRPnt
namespace Go.Proofs.YtdhobglhjdgboaaDoor
open Go.RowKit Go.ChangeShapes Go.WideShapes Go.Deep
set_option linter.unusedVariables false
section
variable {H : Type} {enc : TypeId × Value → H} {w : World} {base : Nat} {spare : Nat → Bool} {held : Bool}
theorem rec_Pnt {n : Nat} {cs : List Value} {x : DataW H × List MemPlace} (h : DataW.trod enc Tryd.prog w base spare held n 31 cs = some x) : ∃ p : Pnt, cs = p.cs ∧ p.wf := by
  obtain ⟨hl, m, hf⟩ := trod_fields Tryd.underlying31 (by kernel_rfl) (by kernel_rfl) h
  obtain ⟨v0, y0, g0, t0⟩ := hf 0 _ rfl
  obtain ⟨x0, e0, _, w0⟩ := DataW.trod_int Tryd.underlying2 t0
  simp only [List.cons.injEq, and_true] at e0; subst e0
  obtain ⟨v1, y1, g1, t1⟩ := hf 1 _ rfl
  obtain ⟨x1, e1, _, w1⟩ := DataW.trod_int Tryd.underlying2 t1
  simp only [List.cons.injEq, and_true] at e1; subst e1
  refine ⟨⟨x0, x1⟩, ?_, ?_⟩
  · match cs, (show cs.length = 2 from hl), g0, g1 with
    | [c0, c1], _, q0, q1 => simp at q0 q1; subst q0 q1; rfl
  · refine ⟨by have := wf_bounds w0; omega, by have := wf_bounds w1; omega⟩
theorem cells_Pnt : Tryd.prog.cellsOf 31 = 2 := by kernel_rfl
set_option maxRecDepth 100000 in
theorem openv_Pnt {r : Reach} {b0 : Nat} {v : Value} {d : DataW H} {pl : List MemPlace} (hv : Value.okWide Tryd.prog w r b0 31 v) (h : DataW.Trod enc Tryd.prog w base spare held 31 v d pl) :
    ∃ a : Pnt, v = .agg #[.int .i64 a.x, .int .i64 a.y] ∧ a.wf := by
  obtain ⟨cs, rfl, hsz⟩ := okWide_struct Tryd.underlying31 hv
  obtain ⟨fuel, hf⟩ := h
  obtain ⟨a, ha, hw⟩ := rec_Pnt hf
  refine ⟨a, ?_, hw⟩
  obtain ⟨l⟩ := cs
  have : l = a.cs := by simpa [Value.cells] using ha
  rw [this]; rfl
end
end Go.Proofs.YtdhobglhjdgboaaDoor
