/- World: arguments of that type opened. -/
import Derived.Test.YtomifedaiabapaaOpen
import Derived.Test.YtomifedaiabapaaRWld
namespace Go.Proofs.Ytomifedaiabapaa
open Go.RowKit Go.ChangeShapes Go.WideShapes Go.Deep
set_option linter.unusedVariables false
section
variable {H : Type} {enc : TypeId × Value → H} {w : World} {base : Nat} {spare : Nat → Bool} {held : Bool}
theorem rec_World {n : Nat} {cs : List Value} {x : DataW H × List MemPlace} (h : DataW.trod enc Try.prog w base spare held n 26 cs = some x) : ∃ p : Wld, cs = p.cs ∧ p.wf := by
  obtain ⟨hl, m, hf⟩ := trod_fields Try.underlying26 (by kernel_rfl) (by kernel_rfl) h
  obtain ⟨v0, y0, g0, t0⟩ := hf 0 _ rfl
  obtain ⟨x0, e0, _, w0⟩ := DataW.trod_int Try.underlying2 t0
  simp only [List.cons.injEq, and_true] at e0; subst e0
  obtain ⟨v1, y1, g1, t1⟩ := hf 1 _ rfl
  obtain ⟨x1, e1, _, w1⟩ := DataW.trod_int Try.underlying2 t1
  simp only [List.cons.injEq, and_true] at e1; subst e1
  obtain ⟨v2, y2, g2, t2⟩ := hf 2 _ rfl
  obtain ⟨x2, e2, _, w2⟩ := DataW.trod_int Try.underlying2 t2
  simp only [List.cons.injEq, and_true] at e2; subst e2
  obtain ⟨v3, y3, g3, t3⟩ := hf 3 _ rfl
  obtain ⟨x3, e3, _, w3⟩ := DataW.trod_int Try.underlying2 t3
  simp only [List.cons.injEq, and_true] at e3; subst e3
  obtain ⟨v4, y4, g4, t4⟩ := hf 4 _ rfl
  obtain ⟨x4, e4, _, w4⟩ := DataW.trod_int Try.underlying2 t4
  simp only [List.cons.injEq, and_true] at e4; subst e4
  obtain ⟨v5, y5, g5, t5⟩ := hf 5 _ rfl
  obtain ⟨x5, e5, _, w5⟩ := DataW.trod_int Try.underlying2 t5
  simp only [List.cons.injEq, and_true] at e5; subst e5
  refine ⟨⟨x0, x1, x2, x3, x4, x5⟩, ?_, ?_⟩
  · match cs, (show cs.length = 6 from hl), g0, g1, g2, g3, g4, g5 with
    | [c0, c1, c2, c3, c4, c5], _, q0, q1, q2, q3, q4, q5 => simp at q0 q1 q2 q3 q4 q5; subst q0 q1 q2 q3 q4 q5; rfl
  · refine ⟨by have := wf_bounds w0; omega, by have := wf_bounds w1; omega, by have := wf_bounds w2; omega, by have := wf_bounds w3; omega, by have := wf_bounds w4; omega, by have := wf_bounds w5; omega⟩
theorem cells_World : Try.prog.cellsOf 26 = 6 := by kernel_rfl
set_option maxRecDepth 100000 in
theorem openv_Wld {r : Reach} {b0 : Nat} {v : Value} {d : DataW H} {pl : List MemPlace} (hv : Value.okWide Try.prog w r b0 26 v) (h : DataW.Trod enc Try.prog w base spare held 26 v d pl) :
    ∃ a : Wld, v = .agg #[.int .i64 a.a, .int .i64 a.b, .int .i64 a.sa, .int .i64 a.sb, .int .i64 a.ga, .int .i64 a.gb] ∧ a.wf := by
  obtain ⟨cs, rfl, hsz⟩ := okWide_struct Try.underlying26 hv
  obtain ⟨fuel, hf⟩ := h
  obtain ⟨a, ha, hw⟩ := rec_World hf
  refine ⟨a, ?_, hw⟩
  obtain ⟨l⟩ := cs
  have : l = a.cs := by simpa [Value.cells] using ha
  rw [this]; rfl
end
end Go.Proofs.Ytomifedaiabapaa
