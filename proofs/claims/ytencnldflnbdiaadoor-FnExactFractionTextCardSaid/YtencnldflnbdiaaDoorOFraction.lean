/- Fraction: arguments of that type opened. -/
import Derived.Test.YtencnldflnbdiaaDoorOpen
import Derived.Test.YtencnldflnbdiaaDoorRFraction
namespace Go.Proofs.YtencnldflnbdiaaDoor
open Go.RowKit Go.ChangeShapes Go.WideShapes Go.Deep
set_option linter.unusedVariables false
section
variable {H : Type} {enc : TypeId × Value → H} {w : World} {base : Nat} {spare : Nat → Bool} {held : Bool}
theorem rec_Fraction {n : Nat} {cs : List Value} {x : DataW H × List MemPlace} (h : DataW.trod enc Tryd.prog w base spare held n 68 cs = some x) : ∃ p : Fraction, cs = p.cs ∧ p.wf := by
  obtain ⟨hl, m, hf⟩ := trod_fields Tryd.underlying68 (by kernel_rfl) (by kernel_rfl) h
  obtain ⟨v0, y0, g0, t0⟩ := hf 0 _ rfl
  obtain ⟨x0, e0, _, w0⟩ := DataW.trod_int Tryd.underlying2 t0
  simp only [List.cons.injEq, and_true] at e0; subst e0
  obtain ⟨v1, y1, g1, t1⟩ := hf 1 _ rfl
  obtain ⟨x1, e1, _, w1⟩ := DataW.trod_int Tryd.underlying2 t1
  simp only [List.cons.injEq, and_true] at e1; subst e1
  refine ⟨⟨x0, x1⟩, ?_, ?_⟩
  · match cs, (show cs.length = 2 from hl), g0, g1 with
    | [c0, c1], _, q0, q1 => simp at q0 q1; subst q0 q1; rfl
  · refine ⟨by have := wf_bounds w0; omega, by have := wf_bounds w1; omega⟩
theorem cells_Fraction : Tryd.prog.cellsOf 68 = 2 := by kernel_rfl
set_option maxRecDepth 100000 in
theorem openv_Fraction {r : Reach} {b0 : Nat} {v : Value} {d : DataW H} {pl : List MemPlace} (hv : Value.okWide Tryd.prog w r b0 68 v) (h : DataW.Trod enc Tryd.prog w base spare held 68 v d pl) :
    ∃ a : Fraction, v = .agg #[.int .i64 a.num, .int .i64 a.den] ∧ a.wf := by
  obtain ⟨cs, rfl, hsz⟩ := okWide_struct Tryd.underlying68 hv
  obtain ⟨fuel, hf⟩ := h
  obtain ⟨a, ha, hw⟩ := rec_Fraction hf
  refine ⟨a, ?_, hw⟩
  obtain ⟨l⟩ := cs
  have : l = a.cs := by simpa [Value.cells] using ha
  rw [this]; rfl
end
end Go.Proofs.YtencnldflnbdiaaDoor
