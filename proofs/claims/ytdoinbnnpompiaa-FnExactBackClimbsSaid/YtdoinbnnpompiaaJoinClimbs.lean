/- JoinClimbs, of the program and of the reference: both hand back joinXs and joinCode. -/
import Derived.Test.YtdoinbnnpompiaaClimbs
import Derived.Test.YtdoinbnnpompiaaGrow2
import Derived.Deep.DrawnRows
namespace Go.Proofs.Ytdoinbnnpompiaa
open Go.RowKit
set_option linter.unusedVariables false

theorem infoClimb : (Try.prog.info? 197).map (fun i => (i.zero, i.size, i.bytes)) = some (some (.agg #[.int .i64 0, .int .i64 0]), 2, 16) := by kernel_rfl

/-- the last one of a row that holds something, at its cells -/
theorem Grow.last {w : World} {lo : Nat} {v : Value} {xs : List Climb} (h : Grow Climb.cs 2 w lo 197 v xs) (hn : 0 < xs.length) :
    ∃ g cap l, v = .slice (some ⟨g, 0, none⟩) xs.length cap ∧ xs[xs.length - 1]? = some l ∧ lo ≤ g ∧ g < w.heap.size ∧ xs.length ≤ cap ∧ cap ≤ 9223372036854775807 ∧ w.cell? ⟨g, (xs.length - 1) * 2, none⟩ = some (.int .i64 l.crane) ∧ w.cell? ⟨g, (xs.length - 1) * 2 + 1, none⟩ = some (.int .i64 l.sections) ∧ w.frozen? ⟨g, (xs.length - 1) * 2 + 1, none⟩ = false := by
  obtain ⟨g, cap, cs, e1, h1, h2, h3, h4, h5, h6, h7⟩ := h.parts hn
  have hx : xs[xs.length - 1]? = some (xs[xs.length - 1]'(by omega)) := List.getElem?_eq_getElem _
  have hb : Blk w g 197 cs := h3
  have hc : ∀ j, j < 2 → cs[(xs.length - 1) * 2 + j]? = (Climb.cs (xs[xs.length - 1]'(by omega)))[j]? := by
    intro j hj
    have f := flat_at Climb.cs_len xs (xs.length - 1) _ hx j hj
    rw [← h7, List.getElem?_take, if_pos (by omega)] at f
    rw [← f]; simp
  refine ⟨g, cap, _, e1, hx, h1, h2, h4, by unfold maxLen at h5; omega, ?_, ?_, hb.frozen _⟩
  · rw [hb.cell]; exact hc 0 (by omega)
  · rw [hb.cell]; exact hc 1 (by omega)

end Go.Proofs.Ytdoinbnnpompiaa
