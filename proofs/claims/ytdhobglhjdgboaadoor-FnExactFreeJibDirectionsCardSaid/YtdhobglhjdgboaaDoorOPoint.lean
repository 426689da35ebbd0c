/- Parts of an argument opened: fields of whatever width; a point; int64. -/
import Derived.Test.YtdhobglhjdgboaaDoorOpen
import Derived.Test.YtdhobglhjdgboaaDoorRInt64
namespace Go.Proofs.YtdhobglhjdgboaaDoor
open Go.RowKit Go.ChangeShapes Go.WideShapes Go.Deep
set_option linter.unusedVariables false
section
variable {H : Type} {enc : TypeId × Value → H} {P : Program} {w : World} {base : Nat} {spare : Nat → Bool} {held : Bool}
theorem trod_parts {t : TypeId} {fs : Array Field} {n : Nat} {cs : List Value} {x : DataW H × List MemPlace} (hs : P.underlying t = some (.struct fs)) (h : DataW.trod enc P w base spare held n t cs = some x) :
    cs.length = P.cellsOf t ∧ ∃ m, ∀ (j : Nat) (f : Field), fs[j]? = some f → ∃ y, DataW.trod enc P w base spare held m f.type ((cs.drop f.offset).take (P.cellsOf f.type)) = some y := by
  obtain ⟨ys, m, _, hy, hlen, hyl, hf⟩ := DataW.trod_struct hs h
  refine ⟨hlen, m, fun j f hj => ?_⟩
  have hjl : j < fs.size := (Array.getElem?_eq_some_iff.1 hj).1
  have h1 := hf j f hj
  have hys : ys[j]? = some (ys[j]'(by omega)) := List.getElem?_eq_getElem (by omega)
  exact ⟨_, h1.trans hys⟩
end
theorem one_int : Tryd.prog.cellsOf 2 = 1 := by kernel_rfl
theorem one_string : Tryd.prog.cellsOf 9 = 1 := by kernel_rfl
theorem one_Int64S : Tryd.prog.cellsOf 38 = 1 := by kernel_rfl
theorem one_ChartStepS : Tryd.prog.cellsOf 32 = 1 := by kernel_rfl
theorem cells_Point : Tryd.prog.cellsOf 31 = 2 := by kernel_rfl
section
variable {H : Type} {enc : TypeId × Value → H} {w : World} {base : Nat} {spare : Nat → Bool} {held : Bool}
theorem rec_Point {n : Nat} {cs : List Value} {x : DataW H × List MemPlace} (h : DataW.trod enc Tryd.prog w base spare held n 31 cs = some x) :
    ∃ x y : Int, cs = [.int .i64 x, .int .i64 y] ∧ (-9223372036854775808 ≤ x ∧ x ≤ 9223372036854775807) ∧ (-9223372036854775808 ≤ y ∧ y ≤ 9223372036854775807) := by
  obtain ⟨hl, m, hf⟩ := trod_fields Tryd.underlying31 (by kernel_rfl) (by kernel_rfl) h
  obtain ⟨v0, y0, g0, t0⟩ := hf 0 _ rfl
  obtain ⟨x0, e0, _, w0⟩ := DataW.trod_int Tryd.underlying2 t0
  simp only [List.cons.injEq, and_true] at e0; subst e0
  obtain ⟨v1, y1, g1, t1⟩ := hf 1 _ rfl
  obtain ⟨x1, e1, _, w1⟩ := DataW.trod_int Tryd.underlying2 t1
  simp only [List.cons.injEq, and_true] at e1; subst e1
  refine ⟨x0, x1, ?_, wf_bounds w0, wf_bounds w1⟩
  match cs, (show cs.length = 2 from hl), g0, g1 with
  | [c0, c1], _, q0, q1 => simp at q0 q1; subst q0 q1; rfl
theorem rec_Int64 {n : Nat} {cs : List Value} {x : DataW H × List MemPlace} (h : DataW.trod enc Tryd.prog w base spare held n 2 cs = some x) : ∃ p : Int, cs = ic p ∧ True := by
  obtain ⟨b, e, _⟩ := DataW.trod_int Tryd.underlying2 h
  exact ⟨b, e, trivial⟩
end
section
variable {H : Type} {enc : TypeId × Value → H} {w : World} {spare : Nat → Bool} {held : Bool}
theorem open_Int {a : Option Addr} {n cp : Nat} {d : DataW H} {pl : List MemPlace} (h : DataW.Trod enc Tryd.prog w 0 spare held 38 (.slice a n cp) d pl) :
    ∃ xs : List Int, n ≤ 9223372036854775807 ∧ Arr ic 1 w 0 w.heap.size a n xs ∧ ∀ p ∈ xs, True :=
  open_recs (P := Tryd.prog) (E := 2) ic 1 (fun _ => True) (by omega) Tryd.underlying38 one_int (fun _ _ _ h => rec_Int64 h) h
end
end Go.Proofs.YtdhobglhjdgboaaDoor
