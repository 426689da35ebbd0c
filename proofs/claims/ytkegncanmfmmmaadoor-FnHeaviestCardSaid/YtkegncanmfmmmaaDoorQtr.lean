/- The package's table of six points: from the row's condition to the walk's fact, and back. -/
import Derived.Test.YtkegncanmfmmmaaDoorRows
import Derived.Test.YtkegncanmfmmmaaDoorVec
import Derived.ChangeSame
import Derived.ChangeVars
import Derived.Lib.LaidTab
import Derived.LaidMore
import Derived.KernelRfl
namespace Go.Proofs.YtkegncanmfmmmaaDoor
open Go.ChangeShapes Go.WideShapes Go.ChangeAt Go.RowKit
set_option linter.unusedVariables false

def cellsQ : Array Value := #[.int .i64 1000, .int .i64 0, .int .i64 966, .int .i64 259, .int .i64 866, .int .i64 500, .int .i64 707, .int .i64 707, .int .i64 500, .int .i64 866, .int .i64 259, .int .i64 966]
section
variable {H : Type} {enc : TypeId × Value → H} {w : World} {base : Nat} {sp : Nat → Bool} {held : Bool}
theorem cells_pt : Tryd.prog.cellsOf 29 = 2 := by kernel_rfl
theorem cells_i64 : Tryd.prog.cellsOf 2 = 1 := by kernel_rfl
theorem cells_q : Tryd.prog.cellsOf 181 = 12 := by kernel_rfl
theorem pt_of_trod {fuel : Nat} {c0 c1 : Value} {y : DataW H × List MemPlace} (h : DataW.trod enc Tryd.prog w base sp held fuel 29 [c0, c1] = some y) :
    ∃ a b, c0 = .int .i64 a ∧ c1 = .int .i64 b ∧ y = (.agg [.lit (.int .i64 a), .lit (.int .i64 b)], []) := by
  obtain ⟨y0, y1, n, rfl, _, h0, h1⟩ := trod_struct2 Tryd.underlying29 h
  obtain ⟨a, e0, rfl, _⟩ := DataW.trod_int Tryd.underlying2 h0
  obtain ⟨b, e1, rfl, _⟩ := DataW.trod_int Tryd.underlying2 h1
  rw [cells_i64] at e0 e1
  simp at e0 e1
  exact ⟨a, b, e0, e1, rfl⟩
theorem qtr_cells {fuel : Nat} {l : List Value} {p : List MemPlace} (hd : DataW.trod enc Tryd.prog w base sp held fuel 181 l = some (Rows.laid_loop_example_g00932_impl_quarter, p)) : l = cellsQ.toList := by
  cases fuel with
  | zero => simp [DataW.trod] at hd
  | succ fuel =>
    simp only [DataW.trod, Tryd.underlying181, cells_q, cells_pt] at hd
    split at hd
    · rename_i hl
      obtain ⟨c0, c1, c2, c3, c4, c5, c6, c7, c8, c9, c10, c11, rfl⟩ : ∃ c0 c1 c2 c3 c4 c5 c6 c7 c8 c9 c10 c11, l = [c0, c1, c2, c3, c4, c5, c6, c7, c8, c9, c10, c11] := by
        match l, hl with
        | [c0, c1, c2, c3, c4, c5, c6, c7, c8, c9, c10, c11], _ => exact ⟨c0, c1, c2, c3, c4, c5, c6, c7, c8, c9, c10, c11, rfl⟩
      have e : List.range 6 = [0, 1, 2, 3, 4, 5] := rfl
      rw [e] at hd
      simp only [Option.map_eq_some_iff, List.mapM_cons, List.mapM_nil, Option.bind_eq_bind, Option.bind_eq_some_iff, Option.pure_def, Option.some.injEq] at hd
      obtain ⟨xs, ⟨y0, h0, _, ⟨y1, h1, _, ⟨y2, h2, _, ⟨y3, h3, _, ⟨y4, h4, _, ⟨y5, h5, _, rfl, rfl⟩, rfl⟩, rfl⟩, rfl⟩, rfl⟩, rfl⟩, hx⟩ := hd
      obtain ⟨a0, b0, rfl, rfl, rfl⟩ := pt_of_trod h0
      obtain ⟨a1, b1, rfl, rfl, rfl⟩ := pt_of_trod h1
      obtain ⟨a2, b2, rfl, rfl, rfl⟩ := pt_of_trod h2
      obtain ⟨a3, b3, rfl, rfl, rfl⟩ := pt_of_trod h3
      obtain ⟨a4, b4, rfl, rfl, rfl⟩ := pt_of_trod h4
      obtain ⟨a5, b5, rfl, rfl, rfl⟩ := pt_of_trod h5
      simp [Rows.laid_loop_example_g00932_impl_quarter] at hx
      obtain ⟨⟨⟨rfl, rfl⟩, ⟨rfl, rfl⟩, ⟨rfl, rfl⟩, ⟨rfl, rfl⟩, ⟨rfl, rfl⟩, ⟨rfl, rfl⟩⟩, _⟩ := hx
      rfl
    · cases hd
end
theorem qtr_name : Tryd.prog.globalNamed "loop.example/g00932/impl.quarter" = some 0 := by kernel_rfl
theorem qtr_type : (Tryd.prog.globals[0]?).map (·.type) = some 181 := by kernel_rfl
theorem qtr_var {W : World} (h : laidMet Tryd.prog [("loop.example/g00932/impl.quarter", Rows.laid_loop_example_g00932_impl_quarter)] W) : W.var? Tryd.prog "loop.example/g00932/impl.quarter" = some cellsQ := by
  obtain ⟨ps, ⟨g, t, cs, fuel, p, q, hg, ht, hvar, hd, _, _⟩, _⟩ := h
  obtain rfl := Option.some.inj (qtr_name.symm.trans hg)
  obtain rfl := Option.some.inj (qtr_type.symm.trans ht)
  rw [hvar]
  congr 1
  obtain ⟨l⟩ := cs
  have := qtr_cells hd
  simp only at this
  rw [this]
theorem qtr_walk {W : World} (hvar : W.var? Tryd.prog "loop.example/g00932/impl.quarter" = some cellsQ) : QtrW W := by
  have hc : ∀ i, W.cell? ⟨0, i, none⟩ = cellsQ[i]? := fun i => World.var?_cell qtr_name hvar i
  refine ⟨?_, fun j hj => ?_⟩
  · have h0 : W.cell? ⟨0, 0, none⟩ = some (.int .i64 1000) := hc 0
    exact World.block_lt_of_cell? W _ h0
  · rw [hc]
    rcases (by omega : j = 0 ∨ j = 1 ∨ j = 2 ∨ j = 3 ∨ j = 4 ∨ j = 5 ∨ j = 6 ∨ j = 7 ∨ j = 8 ∨ j = 9 ∨ j = 10 ∨ j = 11) with rfl | rfl | rfl | rfl | rfl | rfl | rfl | rfl | rfl | rfl | rfl | rfl <;> rfl
theorem qtr_reads {H : Type} (enc : TypeId × Value → H) (W : World) (sp : Nat → Bool) : DataW.trod enc Tryd.prog W 0 sp true 3 181 cellsQ.toList = some (Rows.laid_loop_example_g00932_impl_quarter, []) := by kernel_rfl
theorem qtr_keeps {W W' : World} (hvar : W.var? Tryd.prog "loop.example/g00932/impl.quarter" = some cellsQ) (hq : QtrW W) (hb : Below W.heap.size W W') : W'.var? Tryd.prog "loop.example/g00932/impl.quarter" = some cellsQ := by
  have h := hb.block 0 hq.1
  simp only [World.var?, qtr_name, Option.bind_some] at hvar ⊢
  rw [h]; exact hvar
end Go.Proofs.YtkegncanmfmmmaaDoor
