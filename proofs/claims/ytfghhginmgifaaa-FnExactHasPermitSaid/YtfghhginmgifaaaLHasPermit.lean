/- FnExactHasPermit: the walk: the law returns true for every input. -/
import Derived.Test.YtfghhginmgifaaaHasPermit
import Derived.Test.YtfghhginmgifaaaOpen
namespace Go.Proofs.Ytfghhginmgifaaa.lawHasPermit
open Go.RowKit
set_option linter.unusedVariables false

set_option maxRecDepth 100000 in
set_option maxHeartbeats 3200000 in
theorem walk (a0 : Person) (a1 : Int) (a2 : Int) (w : World) (hi0 : a0.wf) (hi1 : (Lit.int .i64 a1).wf = true) (hi2 : (Lit.int .i64 a2).wf = true) :
    Calls Try.prog 5 #[.agg #[.string a0.name, .int .i64 a0.roles, .int .i64 a0.till], .int .i64 a1, .int .i64 a2] w fun e w' => e = .returned (.bool true) ∧ Below w.heap.size w w' := by
  have hj0 := hi0.name
  have hi1 := wf_bounds hi1
  have hi2 := wf_bounds hi2
  have z0 : 0 ≤ (a0.name.size : Int) := by omega
  by_cases hs0 : (a0.name.size : Int) ≤ 1048576
  · go_enter Try.func5, Try.ntmps5
    go_wp2_with fail
    obtain ⟨wa, hwa⟩ : ∃ W, W = (World.alloc w (.cells #[.string a0.name, .int .i64 a0.roles, .int .i64 a0.till] 31)) := ⟨_, rfl⟩
    rw [← hwa]
    have B0 : Below w.heap.size w wa := by rw [hwa]; exact (Below.refl _ _).alloc (by simp) _
    have S0 : w.heap.size + 1 ≤ wa.heap.size := by rw [hwa]; simp
    have bx0_0 : wa.cell? ⟨w.heap.size, 0, none⟩ = some (.string a0.name) := by rw [hwa]; simp
    have bx0_1 : wa.cell? ⟨w.heap.size, 1, none⟩ = some (.int .i64 a0.roles) := by rw [hwa]; simp
    have bx0_2 : wa.cell? ⟨w.heap.size, 2, none⟩ = some (.int .i64 a0.till) := by rw [hwa]; simp
    clear hwa
    go_wp2_with fail
    refine (szPerson_ok a0 _ _ hi0 (by omega) (by omega) (by omega)).mono ?_
    rintro e w1 ⟨rfl, hb1⟩
    have B1 := bel2 B0 hb1
    have S1 := hb1.size
    have bx0_0_1 := (hb1.cell (p := ⟨w.heap.size, 0, none⟩) (show w.heap.size < _ by omega)).trans bx0_0
    clear bx0_0
    have bx0_1_1 := (hb1.cell (p := ⟨w.heap.size, 1, none⟩) (show w.heap.size < _ by omega)).trans bx0_1
    clear bx0_1
    have bx0_2_1 := (hb1.cell (p := ⟨w.heap.size, 2, none⟩) (show w.heap.size < _ by omega)).trans bx0_2
    clear bx0_2
    go_wp2_with fail
    refine (toPerson_any a0 _).mono ?_
    rintro e w2 ⟨rfl, hb2⟩
    have B2 := bel2 B1 hb2
    have S2 := hb2.size
    have bx0_0_2 := (hb2.cell (p := ⟨w.heap.size, 0, none⟩) (show w.heap.size < _ by omega)).trans bx0_0_1
    clear bx0_0_1
    have bx0_1_2 := (hb2.cell (p := ⟨w.heap.size, 1, none⟩) (show w.heap.size < _ by omega)).trans bx0_1_1
    clear bx0_1_1
    have bx0_2_2 := (hb2.cell (p := ⟨w.heap.size, 2, none⟩) (show w.heap.size < _ by omega)).trans bx0_2_1
    clear bx0_2_1
    go_wp2_with fail
    refine (specHasPermit_any a0 a1 a2 _ hi0).mono ?_
    rintro e w3 ⟨rfl, hb3⟩
    have B3 := bel2 B2 hb3
    have S3 := hb3.size
    have bx0_0_3 := (hb3.cell (p := ⟨w.heap.size, 0, none⟩) (show w.heap.size < _ by omega)).trans bx0_0_2
    clear bx0_0_2
    have bx0_1_3 := (hb3.cell (p := ⟨w.heap.size, 1, none⟩) (show w.heap.size < _ by omega)).trans bx0_1_2
    clear bx0_1_2
    have bx0_2_3 := (hb3.cell (p := ⟨w.heap.size, 2, none⟩) (show w.heap.size < _ by omega)).trans bx0_2_2
    clear bx0_2_2
    go_wp2_with fail
    refine (toPerson_any a0 _).mono ?_
    rintro e w4 ⟨rfl, hb4⟩
    have B4 := bel2 B3 hb4
    have S4 := hb4.size
    have bx0_0_4 := (hb4.cell (p := ⟨w.heap.size, 0, none⟩) (show w.heap.size < _ by omega)).trans bx0_0_3
    clear bx0_0_3
    have bx0_1_4 := (hb4.cell (p := ⟨w.heap.size, 1, none⟩) (show w.heap.size < _ by omega)).trans bx0_1_3
    clear bx0_1_3
    have bx0_2_4 := (hb4.cell (p := ⟨w.heap.size, 2, none⟩) (show w.heap.size < _ by omega)).trans bx0_2_3
    clear bx0_2_3
    go_wp2_with fail
    refine (hasPermit_any a0 a1 a2 _ hi0).mono ?_
    rintro e w5 ⟨rfl, hb5⟩
    have B5 := bel2 B4 hb5
    have S5 := hb5.size
    have bx0_0_5 := (hb5.cell (p := ⟨w.heap.size, 0, none⟩) (show w.heap.size < _ by omega)).trans bx0_0_4
    clear bx0_0_4
    have bx0_1_5 := (hb5.cell (p := ⟨w.heap.size, 1, none⟩) (show w.heap.size < _ by omega)).trans bx0_1_4
    clear bx0_1_4
    have bx0_2_5 := (hb5.cell (p := ⟨w.heap.size, 2, none⟩) (show w.heap.size < _ by omega)).trans bx0_2_4
    clear bx0_2_4
    go_wp2
    go_ret
    exact ⟨rfl, B5⟩
  · go_enter Try.func5, Try.ntmps5
    go_wp2_with fail
    obtain ⟨wa, hwa⟩ : ∃ W, W = (World.alloc w (.cells #[.string a0.name, .int .i64 a0.roles, .int .i64 a0.till] 31)) := ⟨_, rfl⟩
    rw [← hwa]
    have B0 : Below w.heap.size w wa := by rw [hwa]; exact (Below.refl _ _).alloc (by simp) _
    have S0 : w.heap.size + 1 ≤ wa.heap.size := by rw [hwa]; simp
    have bx0_0 : wa.cell? ⟨w.heap.size, 0, none⟩ = some (.string a0.name) := by rw [hwa]; simp
    have bx0_1 : wa.cell? ⟨w.heap.size, 1, none⟩ = some (.int .i64 a0.roles) := by rw [hwa]; simp
    have bx0_2 : wa.cell? ⟨w.heap.size, 2, none⟩ = some (.int .i64 a0.till) := by rw [hwa]; simp
    clear hwa
    go_wp2_with fail
    refine (szPerson_no a0 _ _ hi0 (by omega) (by omega) (by omega)).mono ?_
    rintro e w1 ⟨rfl, hb1⟩
    have B1 := bel2 B0 hb1
    have S1 := hb1.size
    have bx0_0_1 := (hb1.cell (p := ⟨w.heap.size, 0, none⟩) (show w.heap.size < _ by omega)).trans bx0_0
    clear bx0_0
    have bx0_1_1 := (hb1.cell (p := ⟨w.heap.size, 1, none⟩) (show w.heap.size < _ by omega)).trans bx0_1
    clear bx0_1
    have bx0_2_1 := (hb1.cell (p := ⟨w.heap.size, 2, none⟩) (show w.heap.size < _ by omega)).trans bx0_2
    clear bx0_2
    go_wp2
    go_ret
    exact ⟨rfl, B1⟩
end Go.Proofs.Ytfghhginmgifaaa.lawHasPermit
