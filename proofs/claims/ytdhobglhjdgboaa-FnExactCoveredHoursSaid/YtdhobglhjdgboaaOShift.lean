/- Shift: arguments of that type opened. -/
import Derived.Test.YtdhobglhjdgboaaOpen
import Derived.Test.YtdhobglhjdgboaaRShift
namespace Go.Proofs.Ytdhobglhjdgboaa
open Go.RowKit Go.ChangeShapes Go.WideShapes Go.Deep
set_option linter.unusedVariables false
section
variable {H : Type} {enc : TypeId × Value → H} {w : World} {base : Nat} {spare : Nat → Bool} {held : Bool}
theorem rec_Shift {n : Nat} {cs : List Value} {x : DataW H × List MemPlace} (h : DataW.trod enc Try.prog w base spare held n 78 cs = some x) : ∃ p : Shift, cs = p.cs ∧ p.wf := by
  obtain ⟨hl, m, hf⟩ := trod_fields Try.underlying78 (by kernel_rfl) (by kernel_rfl) h
  obtain ⟨v0, y0, g0, t0⟩ := hf 0 _ rfl
  obtain ⟨x0, e0, _, w0⟩ := DataW.trod_int Try.underlying2 t0
  simp only [List.cons.injEq, and_true] at e0; subst e0
  obtain ⟨v1, y1, g1, t1⟩ := hf 1 _ rfl
  obtain ⟨x1, e1, _, w1⟩ := DataW.trod_int Try.underlying2 t1
  simp only [List.cons.injEq, and_true] at e1; subst e1
  obtain ⟨v2, y2, g2, t2⟩ := hf 2 _ rfl
  obtain ⟨x2, e2, _, w2⟩ := DataW.trod_int Try.underlying2 t2
  simp only [List.cons.injEq, and_true] at e2; subst e2
  obtain ⟨v3, y3, g3, t3⟩ := hf 3 _ rfl
  obtain ⟨x3, e3, _, w3⟩ := DataW.trod_int Try.underlying2 t3
  simp only [List.cons.injEq, and_true] at e3; subst e3
  obtain ⟨v4, y4, g4, t4⟩ := hf 4 _ rfl
  obtain ⟨x4, e4, _, w4⟩ := DataW.trod_int Try.underlying2 t4
  simp only [List.cons.injEq, and_true] at e4; subst e4
  refine ⟨⟨x0, x1, x2, x3, x4⟩, ?_, ?_⟩
  · match cs, (show cs.length = 5 from hl), g0, g1, g2, g3, g4 with
    | [c0, c1, c2, c3, c4], _, q0, q1, q2, q3, q4 => simp at q0 q1 q2 q3 q4; subst q0 q1 q2 q3 q4; rfl
  · refine ⟨by have := wf_bounds w0; omega, by have := wf_bounds w1; omega, by have := wf_bounds w2; omega, by have := wf_bounds w3; omega, by have := wf_bounds w4; omega⟩
theorem cells_Shift : Try.prog.cellsOf 78 = 5 := by kernel_rfl
theorem open_Shift {a : Option Addr} {n cp : Nat} {d : DataW H} {pl : List MemPlace} (h : DataW.Trod enc Try.prog w 0 spare held 22 (.slice a n cp) d pl) :
    ∃ xs : List Shift, n ≤ 9223372036854775807 ∧ Arr Shift.cs 5 w 0 w.heap.size a n xs ∧ ∀ p ∈ xs, p.wf :=
  open_recs (P := Try.prog) (E := 78) Shift.cs 5 Shift.wf (by omega) Try.underlying22 cells_Shift (fun _ _ _ h => rec_Shift h) h
set_option maxRecDepth 100000 in
theorem openv_Shift {r : Reach} {b0 : Nat} {v : Value} {d : DataW H} {pl : List MemPlace} (hv : Value.okWide Try.prog w r b0 78 v) (h : DataW.Trod enc Try.prog w base spare held 78 v d pl) :
    ∃ a : Shift, v = .agg #[.int .i64 a.person, .int .i64 a.crane, .int .i64 a.role, .int .i64 a.start, .int .i64 a.stop] ∧ a.wf := by
  obtain ⟨cs, rfl, hsz⟩ := okWide_struct Try.underlying78 hv
  obtain ⟨fuel, hf⟩ := h
  obtain ⟨a, ha, hw⟩ := rec_Shift hf
  refine ⟨a, ?_, hw⟩
  obtain ⟨l⟩ := cs
  have : l = a.cs := by simpa [Value.cells] using ha
  rw [this]; rfl
end
end Go.Proofs.Ytdhobglhjdgboaa
