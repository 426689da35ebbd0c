/- Zone: arguments of that type opened. -/
import Derived.Test.YtdhobglhjdgboaaDoorOpen2
import Derived.Test.YtdhobglhjdgboaaDoorRZone
import Derived.Test.YtdhobglhjdgboaaDoorOPnt
namespace Go.Proofs.YtdhobglhjdgboaaDoor
open Go.RowKit Go.ChangeShapes Go.WideShapes Go.Deep
set_option linter.unusedVariables false
section
variable {H : Type} {enc : TypeId × Value → H} {P : Program} {w : World} {base : Nat} {spare : Nat → Bool} {held : Bool}
theorem trod_partsZ {t : TypeId} {fs : Array Field} {n : Nat} {cs : List Value} {x : DataW H × List MemPlace} (hs : P.underlying t = some (.struct fs)) (h : DataW.trod enc P w base spare held n t cs = some x) :
    cs.length = P.cellsOf t ∧ ∃ m, ∀ (j : Nat) (f : Field), fs[j]? = some f → ∃ y, DataW.trod enc P w base spare held m f.type ((cs.drop f.offset).take (P.cellsOf f.type)) = some y := by
  obtain ⟨ys, m, _, hy, hlen, hyl, hf⟩ := DataW.trod_struct hs h
  refine ⟨hlen, m, fun j f hj => ?_⟩
  have hjl : j < fs.size := (Array.getElem?_eq_some_iff.1 hj).1
  have h1 := hf j f hj
  have hys : ys[j]? = some (ys[j]'(by omega)) := List.getElem?_eq_getElem (by omega)
  exact ⟨_, h1.trans hys⟩
end
theorem one_intZ : Tryd.prog.cellsOf 2 = 1 := by kernel_rfl
theorem one_PntS : Tryd.prog.cellsOf 117 = 1 := by kernel_rfl
section
variable {H : Type} {enc : TypeId × Value → H} {w : World} {spare : Nat → Bool} {held : Bool}
theorem cells_Zone : Tryd.prog.cellsOf 119 = 4 := by kernel_rfl
set_option maxRecDepth 100000 in
theorem rec_Zone {n : Nat} {cs : List Value} {x : DataW H × List MemPlace} (h : DataW.trod enc Tryd.prog w 0 spare held n 119 cs = some x) : ∃ p : Zone, cs = p.cs ∧ p.wf ∧ Arr Pnt.cs 2 w 0 w.heap.size p.r.a p.r.n p.r.xs := by
  obtain ⟨hl, m, hf⟩ := trod_partsZ Tryd.underlying119 h
  rw [cells_Zone] at hl
  match cs, hl with
  | [c0, c1, c2, c3], _ =>
    obtain ⟨y0, t0⟩ := hf 0 _ rfl
    replace t0 : DataW.trod enc Tryd.prog w 0 spare held m 2 (List.take (Tryd.prog.cellsOf 2) (List.drop 0 [c0, c1, c2, c3])) = some y0 := t0
    obtain ⟨y1, t1⟩ := hf 1 _ rfl
    replace t1 : DataW.trod enc Tryd.prog w 0 spare held m 2 (List.take (Tryd.prog.cellsOf 2) (List.drop 1 [c0, c1, c2, c3])) = some y1 := t1
    obtain ⟨y2, t2⟩ := hf 2 _ rfl
    replace t2 : DataW.trod enc Tryd.prog w 0 spare held m 2 (List.take (Tryd.prog.cellsOf 2) (List.drop 2 [c0, c1, c2, c3])) = some y2 := t2
    obtain ⟨y3, t3⟩ := hf 3 _ rfl
    replace t3 : DataW.trod enc Tryd.prog w 0 spare held m 117 (List.take (Tryd.prog.cellsOf 117) (List.drop 3 [c0, c1, c2, c3])) = some y3 := t3
    rw [one_intZ] at t0
    obtain ⟨x0, e0, _, w0⟩ := DataW.trod_int Tryd.underlying2 t0
    obtain rfl : c0 = _ := by simpa using e0
    rw [one_intZ] at t1
    obtain ⟨x1, e1, _, w1⟩ := DataW.trod_int Tryd.underlying2 t1
    obtain rfl : c1 = _ := by simpa using e1
    rw [one_intZ] at t2
    obtain ⟨x2, e2, _, w2⟩ := DataW.trod_int Tryd.underlying2 t2
    obtain rfl : c2 = _ := by simpa using e2
    rw [one_PntS] at t3
    obtain ⟨r, e3, wn, ha, wx⟩ := rec_row Pnt.cs 2 (Pnt.wf) (by omega) Tryd.underlying117 (by kernel_rfl) (fun _ _ _ h => rec_Pnt h) t3
    obtain rfl : c3 = .slice r.a r.n r.cap := by simpa [Row.cs] using e3
    exact ⟨⟨⟨x0, x1, x2⟩, r⟩, rfl, ⟨⟨by have := wf_bounds w0; omega, by have := wf_bounds w1; omega, by have := wf_bounds w2; omega⟩, wn, wx⟩, ha⟩
theorem open_Zone {a : Option Addr} {n cp : Nat} {d : DataW H} {pl : List MemPlace} (h : DataW.Trod enc Tryd.prog w 0 spare held 35 (.slice a n cp) d pl) :
    ∃ xs : List Zone, n ≤ 9223372036854775807 ∧ Zones w 0 w.heap.size a n xs ∧ ∀ p ∈ xs, p.wf := by
  obtain ⟨xs, h1, h2, h3⟩ := open_recs (P := Tryd.prog) (E := 119) Zone.cs 4 (fun p : Zone => p.wf ∧ Arr Pnt.cs 2 w 0 w.heap.size p.r.a p.r.n p.r.xs) (by omega) Tryd.underlying35 cells_Zone (fun _ _ _ h => rec_Zone h) h
  exact ⟨xs, h1, ⟨h2, fun p hp => (h3 p hp).2⟩, fun p hp => (h3 p hp).1⟩
set_option maxRecDepth 100000 in
theorem openv_Zone {r : Reach} {b0 : Nat} {v : Value} {d : DataW H} {pl : List MemPlace} (hv : Value.okWide Tryd.prog w r b0 119 v) (h : DataW.Trod enc Tryd.prog w 0 spare held 119 v d pl) :
    ∃ a : Zone, v = .agg #[.int .i64 a.v.kind, .int .i64 a.v.storeys, .int .i64 a.v.each, .slice a.r.a a.r.n a.r.cap] ∧ a.wf ∧ Arr Pnt.cs 2 w 0 w.heap.size a.r.a a.r.n a.r.xs := by
  obtain ⟨cs, rfl, hsz⟩ := okWide_struct Tryd.underlying119 hv
  obtain ⟨fuel, hf⟩ := h
  obtain ⟨a, ha, hw⟩ := rec_Zone hf
  refine ⟨a, ?_, hw⟩
  obtain ⟨l⟩ := cs
  have : l = a.cs := by simpa [Value.cells] using ha
  rw [this]; rfl
end
end Go.Proofs.YtdhobglhjdgboaaDoor
