/- Crane: arguments of that type opened. -/
import Derived.Test.YtdhobglhjdgboaaDoorOpen2
import Derived.Test.YtdhobglhjdgboaaDoorRCrane
import Derived.Test.YtdhobglhjdgboaaDoorOPoint
import Derived.Test.YtdhobglhjdgboaaDoorOChartStep
namespace Go.Proofs.YtdhobglhjdgboaaDoor
open Go.RowKit Go.ChangeShapes Go.WideShapes Go.Deep
set_option linter.unusedVariables false
section
variable {H : Type} {enc : TypeId × Value → H} {w : World} {spare : Nat → Bool} {held : Bool}
theorem cells_Crane : Tryd.prog.cellsOf 34 = 7 := by kernel_rfl
set_option maxRecDepth 100000 in
theorem rec_Crane {n : Nat} {cs : List Value} {x : DataW H × List MemPlace} (h : DataW.trod enc Tryd.prog w 0 spare held n 34 cs = some x) : ∃ p : Crane, cs = p.cs ∧ p.wf ∧ Arr ChartStep.cs 2 w 0 w.heap.size p.r.a p.r.n p.r.xs := by
  obtain ⟨hl, m, hf⟩ := trod_parts Tryd.underlying34 h
  rw [cells_Crane] at hl
  match cs, hl with
  | [c0, c1, c2, c3, c4, c5, c6], _ =>
    obtain ⟨y0, t0⟩ := hf 0 _ rfl
    replace t0 : DataW.trod enc Tryd.prog w 0 spare held m 9 (List.take (Tryd.prog.cellsOf 9) (List.drop 0 [c0, c1, c2, c3, c4, c5, c6])) = some y0 := t0
    obtain ⟨y1, t1⟩ := hf 1 _ rfl
    replace t1 : DataW.trod enc Tryd.prog w 0 spare held m 31 (List.take (Tryd.prog.cellsOf 31) (List.drop 1 [c0, c1, c2, c3, c4, c5, c6])) = some y1 := t1
    obtain ⟨y2, t2⟩ := hf 2 _ rfl
    replace t2 : DataW.trod enc Tryd.prog w 0 spare held m 2 (List.take (Tryd.prog.cellsOf 2) (List.drop 3 [c0, c1, c2, c3, c4, c5, c6])) = some y2 := t2
    obtain ⟨y3, t3⟩ := hf 3 _ rfl
    replace t3 : DataW.trod enc Tryd.prog w 0 spare held m 2 (List.take (Tryd.prog.cellsOf 2) (List.drop 4 [c0, c1, c2, c3, c4, c5, c6])) = some y3 := t3
    obtain ⟨y4, t4⟩ := hf 4 _ rfl
    replace t4 : DataW.trod enc Tryd.prog w 0 spare held m 2 (List.take (Tryd.prog.cellsOf 2) (List.drop 5 [c0, c1, c2, c3, c4, c5, c6])) = some y4 := t4
    obtain ⟨y5, t5⟩ := hf 5 _ rfl
    replace t5 : DataW.trod enc Tryd.prog w 0 spare held m 32 (List.take (Tryd.prog.cellsOf 32) (List.drop 6 [c0, c1, c2, c3, c4, c5, c6])) = some y5 := t5
    rw [one_string] at t0
    obtain ⟨x0, e0, _, w0⟩ := DataW.trod_string Tryd.underlying9 t0
    obtain rfl : c0 = _ := by simpa using e0
    rw [cells_Point] at t1
    obtain ⟨xa1, xb1, e1, wa1, wb1⟩ := rec_Point t1
    obtain ⟨rfl, rfl⟩ : c1 = .int .i64 xa1 ∧ c2 = .int .i64 xb1 := by simpa using e1
    rw [one_int] at t2
    obtain ⟨x2, e2, _, w2⟩ := DataW.trod_int Tryd.underlying2 t2
    obtain rfl : c3 = _ := by simpa using e2
    rw [one_int] at t3
    obtain ⟨x3, e3, _, w3⟩ := DataW.trod_int Tryd.underlying2 t3
    obtain rfl : c4 = _ := by simpa using e3
    rw [one_int] at t4
    obtain ⟨x4, e4, _, w4⟩ := DataW.trod_int Tryd.underlying2 t4
    obtain rfl : c5 = _ := by simpa using e4
    rw [one_ChartStepS] at t5
    obtain ⟨r, e5, wn, ha, wx⟩ := rec_row ChartStep.cs 2 (ChartStep.wf) (by omega) Tryd.underlying32 (by kernel_rfl) (fun _ _ _ h => rec_ChartStep h) t5
    obtain rfl : c6 = .slice r.a r.n r.cap := by simpa [Row.cs] using e5
    exact ⟨⟨⟨x0, xa1, xb1, x2, x3, x4⟩, r⟩, rfl, ⟨⟨by unfold maxLen at w0; omega, wa1, wb1, by have := wf_bounds w2; omega, by have := wf_bounds w3; omega, by have := wf_bounds w4; omega⟩, wn, wx⟩, ha⟩
set_option maxRecDepth 100000 in
theorem openv_Crane {r : Reach} {b0 : Nat} {v : Value} {d : DataW H} {pl : List MemPlace} (hv : Value.okWide Tryd.prog w r b0 34 v) (h : DataW.Trod enc Tryd.prog w 0 spare held 34 v d pl) :
    ∃ a : Crane, v = .agg #[.string a.v.name, .int .i64 a.v.ax, .int .i64 a.v.ay, .int .i64 a.v.height, .int .i64 a.v.jib, .int .i64 a.v.back, .slice a.r.a a.r.n a.r.cap] ∧ a.wf ∧ Arr ChartStep.cs 2 w 0 w.heap.size a.r.a a.r.n a.r.xs := by
  obtain ⟨cs, rfl, hsz⟩ := okWide_struct Tryd.underlying34 hv
  obtain ⟨fuel, hf⟩ := h
  obtain ⟨a, ha, hw⟩ := rec_Crane hf
  refine ⟨a, ?_, hw⟩
  obtain ⟨l⟩ := cs
  have : l = a.cs := by simpa [Value.cells] using ha
  rw [this]; rfl
end
end Go.Proofs.YtdhobglhjdgboaaDoor
