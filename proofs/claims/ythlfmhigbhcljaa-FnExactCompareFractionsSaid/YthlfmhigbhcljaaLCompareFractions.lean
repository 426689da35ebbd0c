/- FnExactCompareFractions: the walk: the law returns true for every input. -/
import Derived.Test.YthlfmhigbhcljaaSpecCompare
namespace Go.Proofs.Ythlfmhigbhcljaa.lawCompareFractions
open Go.RowKit Go.Sort
set_option linter.unusedVariables false

set_option maxHeartbeats 800000 in
theorem walk (a0 : Fraction) (a1 : Fraction) (w : World) (hi0 : a0.wf) (hi1 : a1.wf) :
    Calls Try.prog 3 #[.agg #[.int .i64 a0.num, .int .i64 a0.den], .agg #[.int .i64 a1.num, .int .i64 a1.den]] w fun e w' => e = .returned (.bool true) ∧ Below w.heap.size w w' := by
  obtain ⟨W, hW⟩ : ∃ W : World, W = (w.alloc (.cells #[.int .i64 a0.num, .int .i64 a0.den] 23)).alloc (.cells #[.int .i64 a1.num, .int .i64 a1.den] 23) := ⟨_, rfl⟩
  have hbW : Below w.heap.size w W := by rw [hW]; exact ((Below.refl _ _).alloc (Nat.le_refl _) _).alloc (by simp) _
  have hs : W.heap.size = w.heap.size + 2 := by rw [hW]; simp
  have x0 : W.cell? ⟨w.heap.size, 0, none⟩ = some (.int .i64 a0.num) := by rw [hW]; rw [World.cell?_alloc_lt _ _ _ (by simp)]; simp
  have x1 : W.cell? ⟨w.heap.size, 1, none⟩ = some (.int .i64 a0.den) := by rw [hW]; rw [World.cell?_alloc_lt _ _ _ (by simp)]; simp
  have y0 : W.cell? ⟨w.heap.size + 1, 0, none⟩ = some (.int .i64 a1.num) := by rw [hW]; simp
  have y1 : W.cell? ⟨w.heap.size + 1, 1, none⟩ = some (.int .i64 a1.den) := by rw [hW]; simp
  go_enter Try.func3, Try.ntmps3
  go_wp2_with fail
  rw [← hW]
  clear hW
  have k0 := cell_regrown x0
  have k1 := cell_regrown x1
  have k2 := cell_regrown y0
  have k3 := cell_regrown y1
  refine wp_region_quiet_below (by kernel_rfl) (by kernel_rfl) ?_
  repeat (go_big_quiet_step (first | (go_at_call 15; exact Calls.regrown_of (toFraction_any ⟨_, _⟩ _)) | (go_at_call 14; exact Calls.regrown_of (specCompareFractions_any a0 a1 _))))
  refine wpQuiet_nil ?_
  intro _ hw9
  obtain ⟨⟨dq, osq⟩, hw9⟩ := hw9
  subst hw9
  have hb1 := below_regrown W dq osq
  dsimp only at hb1 ⊢
  generalize grow (redrawn W dq) osq = W2 at hb1 ⊢
  have x0 := (hb1.cell (p := ⟨w.heap.size, 0, none⟩) (show w.heap.size < _ by omega)).trans x0
  have x1 := (hb1.cell (p := ⟨w.heap.size, 1, none⟩) (show w.heap.size < _ by omega)).trans x1
  have y0 := (hb1.cell (p := ⟨w.heap.size + 1, 0, none⟩) (show w.heap.size + 1 < _ by omega)).trans y0
  have y1 := (hb1.cell (p := ⟨w.heap.size + 1, 1, none⟩) (show w.heap.size + 1 < _ by omega)).trans y1
  clear k0 k1 k2 k3 hs
  go_wp2_with fail
  have k0 := cell_regrown x0
  have k1 := cell_regrown x1
  have k2 := cell_regrown y0
  have k3 := cell_regrown y1
  refine wp_region_quiet_below (by kernel_rfl) (by kernel_rfl) ?_
  repeat (go_big_quiet_step (first | (go_at_call 15; exact Calls.regrown_of (toFraction_any ⟨_, _⟩ _)) | (go_at_call 16; exact Calls.regrown_of (compareFractions_any a0 a1 _))))
  refine wpQuiet_nil ?_
  intro _ hw9
  obtain ⟨⟨dq, osq⟩, hw9⟩ := hw9
  subst hw9
  have hb2 := below_regrown W2 dq osq
  dsimp only at hb2 ⊢
  generalize grow (redrawn W2 dq) osq = W3 at hb2 ⊢
  clear k0 k1 k2 k3
  go_wp2
  go_ret
  exact ⟨rfl, (hbW.trans (hb1.mono hbW.size)).trans (hb2.mono (Nat.le_trans hbW.size hb1.size))⟩
end Go.Proofs.Ythlfmhigbhcljaa.lawCompareFractions
