/- Person: arguments of that type opened. -/
import Derived.Test.YtencnldflnbdiaaDoorOpen
import Derived.Test.YtencnldflnbdiaaDoorRPerson
namespace Go.Proofs.YtencnldflnbdiaaDoor
open Go.RowKit Go.ChangeShapes Go.WideShapes Go.Deep
set_option linter.unusedVariables false
section
variable {H : Type} {enc : TypeId × Value → H} {w : World} {base : Nat} {spare : Nat → Bool} {held : Bool}
theorem rec_Person {n : Nat} {cs : List Value} {x : DataW H × List MemPlace} (h : DataW.trod enc Tryd.prog w base spare held n 147 cs = some x) : ∃ p : Person, cs = p.cs ∧ p.wf := by
  obtain ⟨hl, m, hf⟩ := trod_fields Tryd.underlying147 (by kernel_rfl) (by kernel_rfl) h
  obtain ⟨v0, y0, g0, t0⟩ := hf 0 _ rfl
  obtain ⟨x0, e0, _, w0⟩ := DataW.trod_string Tryd.underlying9 t0
  simp only [List.cons.injEq, and_true] at e0; subst e0
  obtain ⟨v1, y1, g1, t1⟩ := hf 1 _ rfl
  obtain ⟨x1, e1, _, w1⟩ := DataW.trod_int Tryd.underlying2 t1
  simp only [List.cons.injEq, and_true] at e1; subst e1
  obtain ⟨v2, y2, g2, t2⟩ := hf 2 _ rfl
  obtain ⟨x2, e2, _, w2⟩ := DataW.trod_int Tryd.underlying2 t2
  simp only [List.cons.injEq, and_true] at e2; subst e2
  refine ⟨⟨x0, x1, x2⟩, ?_, ?_⟩
  · match cs, (show cs.length = 3 from hl), g0, g1, g2 with
    | [c0, c1, c2], _, q0, q1, q2 => simp at q0 q1 q2; subst q0 q1 q2; rfl
  · refine ⟨by unfold maxLen at w0; omega, by have := wf_bounds w1; omega, by have := wf_bounds w2; omega⟩
theorem cells_Person : Tryd.prog.cellsOf 147 = 3 := by kernel_rfl
theorem open_Person {a : Option Addr} {n cp : Nat} {d : DataW H} {pl : List MemPlace} (h : DataW.Trod enc Tryd.prog w 0 spare held 84 (.slice a n cp) d pl) :
    ∃ xs : List Person, n ≤ 9223372036854775807 ∧ Arr Person.cs 3 w 0 w.heap.size a n xs ∧ ∀ p ∈ xs, p.wf :=
  open_recs (P := Tryd.prog) (E := 147) Person.cs 3 Person.wf (by omega) Tryd.underlying84 cells_Person (fun _ _ _ h => rec_Person h) h
set_option maxRecDepth 100000 in
theorem openv_Person {r : Reach} {b0 : Nat} {v : Value} {d : DataW H} {pl : List MemPlace} (hv : Value.okWide Tryd.prog w r b0 147 v) (h : DataW.Trod enc Tryd.prog w base spare held 147 v d pl) :
    ∃ a : Person, v = .agg #[.string a.name, .int .i64 a.roles, .int .i64 a.till] ∧ a.wf := by
  obtain ⟨cs, rfl, hsz⟩ := okWide_struct Tryd.underlying147 hv
  obtain ⟨fuel, hf⟩ := h
  obtain ⟨a, ha, hw⟩ := rec_Person hf
  refine ⟨a, ?_, hw⟩
  obtain ⟨l⟩ := cs
  have : l = a.cs := by simpa [Value.cells] using ha
  rw [this]; rfl
end
end Go.Proofs.YtencnldflnbdiaaDoor
