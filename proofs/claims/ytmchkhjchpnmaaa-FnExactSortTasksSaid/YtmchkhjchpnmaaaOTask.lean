/- Task: arguments of that type opened. -/
import Derived.Test.YtmchkhjchpnmaaaOpen
import Derived.Test.YtmchkhjchpnmaaaRTask
namespace Go.Proofs.Ytmchkhjchpnmaaa
open Go.RowKit Go.ChangeShapes Go.WideShapes Go.Deep
set_option linter.unusedVariables false
section
variable {H : Type} {enc : TypeId × Value → H} {w : World} {base : Nat} {spare : Nat → Bool} {held : Bool}
theorem rec_Task {n : Nat} {cs : List Value} {x : DataW H × List MemPlace} (h : DataW.trod enc Try.prog w base spare held n 38 cs = some x) : ∃ p : Task, cs = p.cs ∧ p.wf := by
  obtain ⟨hl, m, hf⟩ := trod_fields Try.underlying38 (by kernel_rfl) (by kernel_rfl) h
  obtain ⟨v0, y0, g0, t0⟩ := hf 0 _ rfl
  obtain ⟨x0, e0, _, w0⟩ := DataW.trod_int Try.underlying2 t0
  simp only [List.cons.injEq, and_true] at e0; subst e0
  obtain ⟨v1, y1, g1, t1⟩ := hf 1 _ rfl
  obtain ⟨x1, e1, _, w1⟩ := DataW.trod_int Try.underlying2 t1
  simp only [List.cons.injEq, and_true] at e1; subst e1
  obtain ⟨v2, y2, g2, t2⟩ := hf 2 _ rfl
  obtain ⟨x2, e2, _, w2⟩ := DataW.trod_int Try.underlying2 t2
  simp only [List.cons.injEq, and_true] at e2; subst e2
  obtain ⟨v3, y3, g3, t3⟩ := hf 3 _ rfl
  obtain ⟨x3, e3, _, w3⟩ := DataW.trod_int Try.underlying2 t3
  simp only [List.cons.injEq, and_true] at e3; subst e3
  refine ⟨⟨x0, x1, x2, x3⟩, ?_, ?_⟩
  · match cs, (show cs.length = 4 from hl), g0, g1, g2, g3 with
    | [c0, c1, c2, c3], _, q0, q1, q2, q3 => simp at q0 q1 q2 q3; subst q0 q1 q2 q3; rfl
  · refine ⟨by have := wf_bounds w0; omega, by have := wf_bounds w1; omega, by have := wf_bounds w2; omega, by have := wf_bounds w3; omega⟩
theorem cells_Task : Try.prog.cellsOf 38 = 4 := by kernel_rfl
theorem open_Task {a : Option Addr} {n cp : Nat} {d : DataW H} {pl : List MemPlace} (h : DataW.Trod enc Try.prog w 0 spare held 22 (.slice a n cp) d pl) :
    ∃ xs : List Task, n ≤ 9223372036854775807 ∧ Arr Task.cs 4 w 0 w.heap.size a n xs ∧ ∀ p ∈ xs, p.wf :=
  open_recs (P := Try.prog) (E := 38) Task.cs 4 Task.wf (by omega) Try.underlying22 cells_Task (fun _ _ _ h => rec_Task h) h
set_option maxRecDepth 100000 in
theorem openv_Task {r : Reach} {b0 : Nat} {v : Value} {d : DataW H} {pl : List MemPlace} (hv : Value.okWide Try.prog w r b0 38 v) (h : DataW.Trod enc Try.prog w base spare held 38 v d pl) :
    ∃ a : Task, v = .agg #[.int .i64 a.lift, .int .i64 a.crane, .int .i64 a.start, .int .i64 a.stop] ∧ a.wf := by
  obtain ⟨cs, rfl, hsz⟩ := okWide_struct Try.underlying38 hv
  obtain ⟨fuel, hf⟩ := h
  obtain ⟨a, ha, hw⟩ := rec_Task hf
  refine ⟨a, ?_, hw⟩
  obtain ⟨l⟩ := cs
  have : l = a.cs := by simpa [Value.cells] using ha
  rw [this]; rfl
end
end Go.Proofs.Ytmchkhjchpnmaaa
