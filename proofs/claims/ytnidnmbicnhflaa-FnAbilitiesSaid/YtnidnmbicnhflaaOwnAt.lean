/- A fresh row of numbers: a cell of it read, and turned; zeros. No program in sight. -/
import Derived.Test.YtnidnmbicnhflaaGrow2
import Derived.Test.YtnidnmbicnhflaaRInt64
import Derived.Laws.OwnMore
namespace Go.Proofs.Ytnidnmbicnhflaa
open Go.RowKit
set_option linter.unusedVariables false

theorem made_at {M i : Nat} (hi : i < M) : (madeCells #[.int .i64 0] M)[i]? = some (.int .i64 0) := by
  rw [← Array.getElem?_toList, toList_madeCells_one, List.getElem?_replicate, if_pos hi]
theorem Own.cellAt {w : World} {lo hi g M : Nat} {e : TypeId} {ws : List Int} (h : Own ic 1 w lo hi e (some ⟨g, 0, none⟩) M ws) {u : Nat} (hu : u < M) : ∃ y, ws[u]? = some y ∧ w.cell? ⟨g, u, none⟩ = some (.int .i64 y) ∧ w.frozen? ⟨g, u, none⟩ = false := by
  obtain ⟨g', cs, e1, _, _, hh, hs, hc⟩ := h.2 (by omega)
  cases e1
  have hl : u < ws.length := by rw [h.1]; exact hu
  refine ⟨ws[u], List.getElem?_eq_getElem hl, ?_, Blk.frozen (t := e) (cs := cs) hh u⟩
  have := hc u _ (List.getElem?_eq_getElem hl) 0 (by omega)
  rw [cell_of_row w g u cs e (0, 0) hh]
  simpa [ic] using this
theorem Own.putAt {w : World} {lo hi g M : Nat} {e : TypeId} {ws : List Int} (h : Own ic 1 w lo hi e (some ⟨g, 0, none⟩) M ws) {u : Nat} {y : Int} (hy : ws[u]? = some y) (v : Int) : Own ic 1 (w.setCell ⟨g, u, none⟩ (.int .i64 v)) lo hi e (some ⟨g, 0, none⟩) M (ws.set u v) := by
  have := h.put (y := v) (u := .int .i64 v) hy (j0 := 0) (by omega) rfl (fun j hj hne => absurd hj (by omega))
  simpa using this
end Go.Proofs.Ytnidnmbicnhflaa
