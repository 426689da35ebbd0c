/- Lift: arguments of that type opened. -/
import Derived.Test.YtdhobglhjdgboaaDoorOpen2
import Derived.Test.YtdhobglhjdgboaaDoorRLift
import Derived.Test.YtdhobglhjdgboaaDoorOPoint
namespace Go.Proofs.YtdhobglhjdgboaaDoor
open Go.RowKit Go.ChangeShapes Go.WideShapes Go.Deep
set_option linter.unusedVariables false
section
variable {H : Type} {enc : TypeId × Value → H} {w : World} {spare : Nat → Bool} {held : Bool}
theorem cells_Lift : Tryd.prog.cellsOf 106 = 9 := by kernel_rfl
set_option maxRecDepth 100000 in
theorem rec_Lift {n : Nat} {cs : List Value} {x : DataW H × List MemPlace} (h : DataW.trod enc Tryd.prog w 0 spare held n 106 cs = some x) : ∃ p : Lift, cs = p.cs ∧ p.wf ∧ Arr ic 1 w 0 w.heap.size p.r.a p.r.n p.r.xs := by
  obtain ⟨hl, m, hf⟩ := trod_parts Tryd.underlying106 h
  rw [cells_Lift] at hl
  match cs, hl with
  | [c0, c1, c2, c3, c4, c5, c6, c7, c8], _ =>
    obtain ⟨y0, t0⟩ := hf 0 _ rfl
    replace t0 : DataW.trod enc Tryd.prog w 0 spare held m 9 (List.take (Tryd.prog.cellsOf 9) (List.drop 0 [c0, c1, c2, c3, c4, c5, c6, c7, c8])) = some y0 := t0
    obtain ⟨y1, t1⟩ := hf 1 _ rfl
    replace t1 : DataW.trod enc Tryd.prog w 0 spare held m 2 (List.take (Tryd.prog.cellsOf 2) (List.drop 1 [c0, c1, c2, c3, c4, c5, c6, c7, c8])) = some y1 := t1
    obtain ⟨y2, t2⟩ := hf 2 _ rfl
    replace t2 : DataW.trod enc Tryd.prog w 0 spare held m 31 (List.take (Tryd.prog.cellsOf 31) (List.drop 2 [c0, c1, c2, c3, c4, c5, c6, c7, c8])) = some y2 := t2
    obtain ⟨y3, t3⟩ := hf 3 _ rfl
    replace t3 : DataW.trod enc Tryd.prog w 0 spare held m 31 (List.take (Tryd.prog.cellsOf 31) (List.drop 4 [c0, c1, c2, c3, c4, c5, c6, c7, c8])) = some y3 := t3
    obtain ⟨y4, t4⟩ := hf 4 _ rfl
    replace t4 : DataW.trod enc Tryd.prog w 0 spare held m 2 (List.take (Tryd.prog.cellsOf 2) (List.drop 6 [c0, c1, c2, c3, c4, c5, c6, c7, c8])) = some y4 := t4
    obtain ⟨y5, t5⟩ := hf 5 _ rfl
    replace t5 : DataW.trod enc Tryd.prog w 0 spare held m 2 (List.take (Tryd.prog.cellsOf 2) (List.drop 7 [c0, c1, c2, c3, c4, c5, c6, c7, c8])) = some y5 := t5
    obtain ⟨y6, t6⟩ := hf 6 _ rfl
    replace t6 : DataW.trod enc Tryd.prog w 0 spare held m 38 (List.take (Tryd.prog.cellsOf 38) (List.drop 8 [c0, c1, c2, c3, c4, c5, c6, c7, c8])) = some y6 := t6
    rw [one_string] at t0
    obtain ⟨x0, e0, _, w0⟩ := DataW.trod_string Tryd.underlying9 t0
    obtain rfl : c0 = _ := by simpa using e0
    rw [one_int] at t1
    obtain ⟨x1, e1, _, w1⟩ := DataW.trod_int Tryd.underlying2 t1
    obtain rfl : c1 = _ := by simpa using e1
    rw [cells_Point] at t2
    obtain ⟨xa2, xb2, e2, wa2, wb2⟩ := rec_Point t2
    obtain ⟨rfl, rfl⟩ : c2 = .int .i64 xa2 ∧ c3 = .int .i64 xb2 := by simpa using e2
    rw [cells_Point] at t3
    obtain ⟨xa3, xb3, e3, wa3, wb3⟩ := rec_Point t3
    obtain ⟨rfl, rfl⟩ : c4 = .int .i64 xa3 ∧ c5 = .int .i64 xb3 := by simpa using e3
    rw [one_int] at t4
    obtain ⟨x4, e4, _, w4⟩ := DataW.trod_int Tryd.underlying2 t4
    obtain rfl : c6 = _ := by simpa using e4
    rw [one_int] at t5
    obtain ⟨x5, e5, _, w5⟩ := DataW.trod_int Tryd.underlying2 t5
    obtain rfl : c7 = _ := by simpa using e5
    rw [one_Int64S] at t6
    obtain ⟨r, e6, wn, ha, wx⟩ := rec_row ic 1 (fun _ : Int => True) (by omega) Tryd.underlying38 (by kernel_rfl) (fun _ _ _ h => rec_Int64 h) t6
    obtain rfl : c8 = .slice r.a r.n r.cap := by simpa [Row.cs] using e6
    exact ⟨⟨⟨x0, x1, xa2, xb2, xa3, xb3, x4, x5⟩, r⟩, rfl, ⟨⟨by unfold maxLen at w0; omega, by have := wf_bounds w1; omega, wa2, wb2, wa3, wb3, by have := wf_bounds w4; omega, by have := wf_bounds w5; omega⟩, wn, trivial⟩, ha⟩
theorem open_Lift {a : Option Addr} {n cp : Nat} {d : DataW H} {pl : List MemPlace} (h : DataW.Trod enc Tryd.prog w 0 spare held 22 (.slice a n cp) d pl) :
    ∃ xs : List Lift, n ≤ 9223372036854775807 ∧ Lifts w 0 w.heap.size a n xs ∧ ∀ p ∈ xs, p.wf := by
  obtain ⟨xs, h1, h2, h3⟩ := open_recs (P := Tryd.prog) (E := 106) Lift.cs 9 (fun p : Lift => p.wf ∧ Arr ic 1 w 0 w.heap.size p.r.a p.r.n p.r.xs) (by omega) Tryd.underlying22 cells_Lift (fun _ _ _ h => rec_Lift h) h
  exact ⟨xs, h1, ⟨h2, fun p hp => (h3 p hp).2⟩, fun p hp => (h3 p hp).1⟩
set_option maxRecDepth 100000 in
theorem openv_Lift {r : Reach} {b0 : Nat} {v : Value} {d : DataW H} {pl : List MemPlace} (hv : Value.okWide Tryd.prog w r b0 106 v) (h : DataW.Trod enc Tryd.prog w 0 spare held 106 v d pl) :
    ∃ a : Lift, v = .agg #[.string a.v.name, .int .i64 a.v.weight, .int .i64 a.v.fx, .int .i64 a.v.fy, .int .i64 a.v.tx, .int .i64 a.v.ty, .int .i64 a.v.height, .int .i64 a.v.deadline, .slice a.r.a a.r.n a.r.cap] ∧ a.wf ∧ Arr ic 1 w 0 w.heap.size a.r.a a.r.n a.r.xs := by
  obtain ⟨cs, rfl, hsz⟩ := okWide_struct Tryd.underlying106 hv
  obtain ⟨fuel, hf⟩ := h
  obtain ⟨a, ha, hw⟩ := rec_Lift hf
  refine ⟨a, ?_, hw⟩
  obtain ⟨l⟩ := cs
  have : l = a.cs := by simpa [Value.cells] using ha
  rw [this]; rfl
end
end Go.Proofs.YtdhobglhjdgboaaDoor
