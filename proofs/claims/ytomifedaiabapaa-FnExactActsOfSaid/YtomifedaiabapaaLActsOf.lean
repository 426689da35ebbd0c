/- FnExactActsOf: the walk: the law returns true for every input. -/
import Derived.Test.YtomifedaiabapaaActsSame
import Derived.Test.YtomifedaiabapaaMDact
import Derived.Test.YtomifedaiabapaaRowsB
import Derived.Test.YtomifedaiabapaaOWatch
import Derived.Deep.RegionHeld3
namespace Go.Proofs.Ytomifedaiabapaa.lawActsOf
open Go.RowKit
set_option linter.unusedVariables false

set_option maxRecDepth 100000 in
set_option maxHeartbeats 3200000 in
theorem walk (A0 : Option Addr) (n0 c0 : Nat) (xs0 : List (Row Bool)) (a1 : Watch) (a2 : Wld) (w : World) (hn0 : n0 ≤ 9223372036854775807) (ha0 : Arr2 bc 1 w 0 w.heap.size A0 n0 xs0) (hp0 : ∀ r ∈ xs0, r.n ≤ 9223372036854775807) (hi1 : a1.wf) (hi2 : a2.wf) :
    Calls Try.prog 3 #[.slice A0 n0 c0, .agg #[.int .i64 a1.margin, .int .i64 a1.lost], .agg #[.int .i64 a2.a, .int .i64 a2.b, .int .i64 a2.sa, .int .i64 a2.sb, .int .i64 a2.ga, .int .i64 a2.gb]] w fun e w' => e = .returned (.bool true) ∧ Below w.heap.size w w' := by
  have h0 := ha0
  clear ha0
  have q0 := Lib.hid h0.len
  have l0 := Lib.hid h0.lens
  have P0 := Lib.hid hp0
  clear hp0
  have z0 : 0 ≤ szBoolSS n0 xs0 := by unfold szBoolSS; omega
  by_cases hs0 : szBoolSS n0 xs0 ≤ 1048576
  · go_enter Try.func3, Try.ntmps3
    go_wp2_with fail
    obtain ⟨wa, hwa⟩ : ∃ W, W = (World.alloc (World.alloc w (.cells #[.int .i64 a1.margin, .int .i64 a1.lost] 24)) (.cells #[.int .i64 a2.a, .int .i64 a2.b, .int .i64 a2.sa, .int .i64 a2.sb, .int .i64 a2.ga, .int .i64 a2.gb] 26)) := ⟨_, rfl⟩
    rw [← hwa]
    have B0 : Below w.heap.size w wa := by rw [hwa]; exact ((Below.refl _ _).alloc (by simp) _).alloc (by simp) _
    have S0 : w.heap.size + 2 ≤ wa.heap.size := by rw [hwa]; simp
    have bx1_0 : wa.cell? ⟨w.heap.size, 0, none⟩ = some (.int .i64 a1.margin) := by rw [hwa]; rw [World.cell?_alloc_lt _ _ _ (by simp)]; simp
    have bx1_1 : wa.cell? ⟨w.heap.size, 1, none⟩ = some (.int .i64 a1.lost) := by rw [hwa]; rw [World.cell?_alloc_lt _ _ _ (by simp)]; simp
    have bx2_0 : wa.cell? ⟨w.heap.size + 1, 0, none⟩ = some (.int .i64 a2.a) := by rw [hwa]; simp
    have bx2_1 : wa.cell? ⟨w.heap.size + 1, 1, none⟩ = some (.int .i64 a2.b) := by rw [hwa]; simp
    have bx2_2 : wa.cell? ⟨w.heap.size + 1, 2, none⟩ = some (.int .i64 a2.sa) := by rw [hwa]; simp
    have bx2_3 : wa.cell? ⟨w.heap.size + 1, 3, none⟩ = some (.int .i64 a2.sb) := by rw [hwa]; simp
    have bx2_4 : wa.cell? ⟨w.heap.size + 1, 4, none⟩ = some (.int .i64 a2.ga) := by rw [hwa]; simp
    have bx2_5 : wa.cell? ⟨w.heap.size + 1, 5, none⟩ = some (.int .i64 a2.gb) := by rw [hwa]; simp
    have h0_0 := (h0.below B0).more (show w.heap.size ≤ w.heap.size from Nat.le_refl _)
    clear h0
    clear hwa
    go_wp2_with fail
    refine (szBoolSS_ok _ _ _ xs0 _ _ _ (h0_0.more (by omega)) hn0 P0.out (by omega) (by omega) (by omega)).mono ?_
    rintro e w1 ⟨rfl, hb1⟩
    have B1 := bel2 B0 hb1
    have S1 := hb1.size
    have bx1_0_1 := (hb1.cell (p := ⟨w.heap.size, 0, none⟩) (show w.heap.size < _ by omega)).trans bx1_0
    clear bx1_0
    have bx1_1_1 := (hb1.cell (p := ⟨w.heap.size, 1, none⟩) (show w.heap.size < _ by omega)).trans bx1_1
    clear bx1_1
    have bx2_0_1 := (hb1.cell (p := ⟨w.heap.size + 1, 0, none⟩) (show w.heap.size + 1 < _ by omega)).trans bx2_0
    clear bx2_0
    have bx2_1_1 := (hb1.cell (p := ⟨w.heap.size + 1, 1, none⟩) (show w.heap.size + 1 < _ by omega)).trans bx2_1
    clear bx2_1
    have bx2_2_1 := (hb1.cell (p := ⟨w.heap.size + 1, 2, none⟩) (show w.heap.size + 1 < _ by omega)).trans bx2_2
    clear bx2_2
    have bx2_3_1 := (hb1.cell (p := ⟨w.heap.size + 1, 3, none⟩) (show w.heap.size + 1 < _ by omega)).trans bx2_3
    clear bx2_3
    have bx2_4_1 := (hb1.cell (p := ⟨w.heap.size + 1, 4, none⟩) (show w.heap.size + 1 < _ by omega)).trans bx2_4
    clear bx2_4
    have bx2_5_1 := (hb1.cell (p := ⟨w.heap.size + 1, 5, none⟩) (show w.heap.size + 1 < _ by omega)).trans bx2_5
    clear bx2_5
    have h0_1 := h0_0.below (hb1.mono (by omega))
    clear h0_0
    have m0 : n0 ≤ 1048576 := by unfold szBoolSS at hs0; omega
    have r0 := Lib.hid (rowsN_le (show (tot Row.n xs0 : Nat) ≤ 1048576 by unfold szBoolSS at hs0; omega))
    have TT0 : tot Row.n xs0 ≤ 1048576 := by unfold szBoolSS at hs0; omega
    go_wp2_with fail
    have hb2 : Below w1.heap.size w1 w1.drew := (Below.refl _ _).drew
    have B2 := bel2 B1 hb2
    have S2 := hb2.size
    have bx1_0_2 := (hb2.cell (p := ⟨w.heap.size, 0, none⟩) (show w.heap.size < _ by omega)).trans bx1_0_1
    clear bx1_0_1
    have bx1_1_2 := (hb2.cell (p := ⟨w.heap.size, 1, none⟩) (show w.heap.size < _ by omega)).trans bx1_1_1
    clear bx1_1_1
    have bx2_0_2 := (hb2.cell (p := ⟨w.heap.size + 1, 0, none⟩) (show w.heap.size + 1 < _ by omega)).trans bx2_0_1
    clear bx2_0_1
    have bx2_1_2 := (hb2.cell (p := ⟨w.heap.size + 1, 1, none⟩) (show w.heap.size + 1 < _ by omega)).trans bx2_1_1
    clear bx2_1_1
    have bx2_2_2 := (hb2.cell (p := ⟨w.heap.size + 1, 2, none⟩) (show w.heap.size + 1 < _ by omega)).trans bx2_2_1
    clear bx2_2_1
    have bx2_3_2 := (hb2.cell (p := ⟨w.heap.size + 1, 3, none⟩) (show w.heap.size + 1 < _ by omega)).trans bx2_3_1
    clear bx2_3_1
    have bx2_4_2 := (hb2.cell (p := ⟨w.heap.size + 1, 4, none⟩) (show w.heap.size + 1 < _ by omega)).trans bx2_4_1
    clear bx2_4_1
    have bx2_5_2 := (hb2.cell (p := ⟨w.heap.size + 1, 5, none⟩) (show w.heap.size + 1 < _ by omega)).trans bx2_5_1
    clear bx2_5_1
    have h0_2 := h0_1.below (hb2.mono (by omega))
    clear h0_1
    go_region_held3 (fun w' => w'.cell? ⟨w.heap.size, 0, none⟩ = some (.int .i64 a1.margin) ∧ w'.cell? ⟨w.heap.size, 1, none⟩ = some (.int .i64 a1.lost) ∧ w'.cell? ⟨w.heap.size + 1, 0, none⟩ = some (.int .i64 a2.a) ∧ w'.cell? ⟨w.heap.size + 1, 1, none⟩ = some (.int .i64 a2.b) ∧ w'.cell? ⟨w.heap.size + 1, 2, none⟩ = some (.int .i64 a2.sa) ∧ w'.cell? ⟨w.heap.size + 1, 3, none⟩ = some (.int .i64 a2.sb) ∧ w'.cell? ⟨w.heap.size + 1, 4, none⟩ = some (.int .i64 a2.ga) ∧ w'.cell? ⟨w.heap.size + 1, 5, none⟩ = some (.int .i64 a2.gb)) (first | exact ⟨bx1_0_2, bx1_1_2, bx2_0_2, bx2_1_2, bx2_2_2, bx2_3_2, bx2_4_2, bx2_5_2⟩ | exact ⟨bx1_0_3, bx1_1_3, bx2_0_3, bx2_1_3, bx2_2_3, bx2_3_3, bx2_4_3, bx2_5_3⟩ | exact ⟨bx1_0_4, bx1_1_4, bx2_0_4, bx2_1_4, bx2_2_4, bx2_3_4, bx2_4_4, bx2_5_4⟩ | exact ⟨bx1_0_5, bx1_1_5, bx2_0_5, bx2_1_5, bx2_2_5, bx2_3_5, bx2_4_5, bx2_5_5⟩ | exact ⟨bx1_0_6, bx1_1_6, bx2_0_6, bx2_1_6, bx2_2_6, bx2_3_6, bx2_4_6, bx2_5_6⟩ | go_keep) ((first | (go_at_call 11; refine (toBoolSS_own _ _ _ xs0 _ _ (h0_2.more (by omega)) m0 r0.out).mono ?_; rintro e w3 ⟨g3, y3, rfl, v3, o3, hb3⟩; have B3 := bel2 B2 hb3; have S3 := hb3.size; have bx1_0_3 := (hb3.cell (p := ⟨w.heap.size, 0, none⟩) (show w.heap.size < _ by omega)).trans bx1_0_2; have bx1_1_3 := (hb3.cell (p := ⟨w.heap.size, 1, none⟩) (show w.heap.size < _ by omega)).trans bx1_1_2; have bx2_0_3 := (hb3.cell (p := ⟨w.heap.size + 1, 0, none⟩) (show w.heap.size + 1 < _ by omega)).trans bx2_0_2; have bx2_1_3 := (hb3.cell (p := ⟨w.heap.size + 1, 1, none⟩) (show w.heap.size + 1 < _ by omega)).trans bx2_1_2; have bx2_2_3 := (hb3.cell (p := ⟨w.heap.size + 1, 2, none⟩) (show w.heap.size + 1 < _ by omega)).trans bx2_2_2; have bx2_3_3 := (hb3.cell (p := ⟨w.heap.size + 1, 3, none⟩) (show w.heap.size + 1 < _ by omega)).trans bx2_3_2; have bx2_4_3 := (hb3.cell (p := ⟨w.heap.size + 1, 4, none⟩) (show w.heap.size + 1 < _ by omega)).trans bx2_4_2; have bx2_5_3 := (hb3.cell (p := ⟨w.heap.size + 1, 5, none⟩) (show w.heap.size + 1 < _ by omega)).trans bx2_5_2; have h0_3 := h0_2.below (hb3.mono (by omega)); have t3 := o3; have V3 := Lib.hid v3; have L3 := Lib.hid (t3.arr2.lens); have R3 := Lib.hid (rows_boundN V3.out l0.out L3.out r0.out); have TW3 : tot Row.n y3 = tot Row.n xs0 := tot_rowsN V3.out l0.out L3.out) | (go_at_call 12; refine (toWatch_any a1 _).mono ?_; rintro e w4 ⟨rfl, hb4⟩; have B4 := bel2 B3 hb4; have S4 := hb4.size; have bx1_0_4 := (hb4.cell (p := ⟨w.heap.size, 0, none⟩) (show w.heap.size < _ by omega)).trans bx1_0_3; have bx1_1_4 := (hb4.cell (p := ⟨w.heap.size, 1, none⟩) (show w.heap.size < _ by omega)).trans bx1_1_3; have bx2_0_4 := (hb4.cell (p := ⟨w.heap.size + 1, 0, none⟩) (show w.heap.size + 1 < _ by omega)).trans bx2_0_3; have bx2_1_4 := (hb4.cell (p := ⟨w.heap.size + 1, 1, none⟩) (show w.heap.size + 1 < _ by omega)).trans bx2_1_3; have bx2_2_4 := (hb4.cell (p := ⟨w.heap.size + 1, 2, none⟩) (show w.heap.size + 1 < _ by omega)).trans bx2_2_3; have bx2_3_4 := (hb4.cell (p := ⟨w.heap.size + 1, 3, none⟩) (show w.heap.size + 1 < _ by omega)).trans bx2_3_3; have bx2_4_4 := (hb4.cell (p := ⟨w.heap.size + 1, 4, none⟩) (show w.heap.size + 1 < _ by omega)).trans bx2_4_3; have bx2_5_4 := (hb4.cell (p := ⟨w.heap.size + 1, 5, none⟩) (show w.heap.size + 1 < _ by omega)).trans bx2_5_3; have h0_4 := h0_3.below (hb4.mono (by omega)); have t3_4 := t3.bel hb4) | (go_at_call 13; refine (toWorld_any a2 _).mono ?_; rintro e w5 ⟨rfl, hb5⟩; have B5 := bel2 B4 hb5; have S5 := hb5.size; have bx1_0_5 := (hb5.cell (p := ⟨w.heap.size, 0, none⟩) (show w.heap.size < _ by omega)).trans bx1_0_4; have bx1_1_5 := (hb5.cell (p := ⟨w.heap.size, 1, none⟩) (show w.heap.size < _ by omega)).trans bx1_1_4; have bx2_0_5 := (hb5.cell (p := ⟨w.heap.size + 1, 0, none⟩) (show w.heap.size + 1 < _ by omega)).trans bx2_0_4; have bx2_1_5 := (hb5.cell (p := ⟨w.heap.size + 1, 1, none⟩) (show w.heap.size + 1 < _ by omega)).trans bx2_1_4; have bx2_2_5 := (hb5.cell (p := ⟨w.heap.size + 1, 2, none⟩) (show w.heap.size + 1 < _ by omega)).trans bx2_2_4; have bx2_3_5 := (hb5.cell (p := ⟨w.heap.size + 1, 3, none⟩) (show w.heap.size + 1 < _ by omega)).trans bx2_3_4; have bx2_4_5 := (hb5.cell (p := ⟨w.heap.size + 1, 4, none⟩) (show w.heap.size + 1 < _ by omega)).trans bx2_4_4; have bx2_5_5 := (hb5.cell (p := ⟨w.heap.size + 1, 5, none⟩) (show w.heap.size + 1 < _ by omega)).trans bx2_5_4; have h0_5 := h0_4.below (hb5.mono (by omega)); have t3_5 := t3_4.bel hb5) | (go_at_call 10; refine (specActsOf_at _ _ _ y3 xs0 a1 a2 _ _ ((t3_5.arr Row.cs_len bc_len).more (by omega)) (by omega) V3.out L3.out l0.out).mono ?_; rintro e w6 ⟨A6, c6, rfl, o6, hb6⟩; have B6 := bel2 B5 hb6; have S6 := hb6.size; have bx1_0_6 := (hb6.cell (p := ⟨w.heap.size, 0, none⟩) (show w.heap.size < _ by omega)).trans bx1_0_5; have bx1_1_6 := (hb6.cell (p := ⟨w.heap.size, 1, none⟩) (show w.heap.size < _ by omega)).trans bx1_1_5; have bx2_0_6 := (hb6.cell (p := ⟨w.heap.size + 1, 0, none⟩) (show w.heap.size + 1 < _ by omega)).trans bx2_0_5; have bx2_1_6 := (hb6.cell (p := ⟨w.heap.size + 1, 1, none⟩) (show w.heap.size + 1 < _ by omega)).trans bx2_1_5; have bx2_2_6 := (hb6.cell (p := ⟨w.heap.size + 1, 2, none⟩) (show w.heap.size + 1 < _ by omega)).trans bx2_2_5; have bx2_3_6 := (hb6.cell (p := ⟨w.heap.size + 1, 3, none⟩) (show w.heap.size + 1 < _ by omega)).trans bx2_3_5; have bx2_4_6 := (hb6.cell (p := ⟨w.heap.size + 1, 4, none⟩) (show w.heap.size + 1 < _ by omega)).trans bx2_4_5; have bx2_5_6 := (hb6.cell (p := ⟨w.heap.size + 1, 5, none⟩) (show w.heap.size + 1 < _ by omega)).trans bx2_5_5; have h0_6 := h0_5.below (hb6.mono (by omega)); have t3_6 := t3_5.bel hb6; have u6 := o6)))
    clear bx1_0_2 bx1_1_2 bx2_0_2 bx2_1_2 bx2_2_2 bx2_3_2 bx2_4_2 bx2_5_2 h0_2 o3 v3 bx1_0_3 bx1_1_3 bx2_0_3 bx2_1_3 bx2_2_3 bx2_3_3 bx2_4_3 bx2_5_3 h0_3 t3 bx1_0_4 bx1_1_4 bx2_0_4 bx2_1_4 bx2_2_4 bx2_3_4 bx2_4_4 bx2_5_4 h0_4 t3_4 bx1_0_5 bx1_1_5 bx2_0_5 bx2_1_5 bx2_2_5 bx2_3_5 bx2_4_5 bx2_5_5 h0_5 t3_5 o6
    go_wp2_with fail
    refine (toBoolSS_own _ _ _ xs0 _ _ (h0_6.more (by omega)) m0 r0.out).mono ?_
    rintro e w7 ⟨g7, y7, rfl, v7, o7, hb7⟩
    have B7 := bel2 B6 hb7
    have S7 := hb7.size
    have bx1_0_7 := (hb7.cell (p := ⟨w.heap.size, 0, none⟩) (show w.heap.size < _ by omega)).trans bx1_0_6
    clear bx1_0_6
    have bx1_1_7 := (hb7.cell (p := ⟨w.heap.size, 1, none⟩) (show w.heap.size < _ by omega)).trans bx1_1_6
    clear bx1_1_6
    have bx2_0_7 := (hb7.cell (p := ⟨w.heap.size + 1, 0, none⟩) (show w.heap.size + 1 < _ by omega)).trans bx2_0_6
    clear bx2_0_6
    have bx2_1_7 := (hb7.cell (p := ⟨w.heap.size + 1, 1, none⟩) (show w.heap.size + 1 < _ by omega)).trans bx2_1_6
    clear bx2_1_6
    have bx2_2_7 := (hb7.cell (p := ⟨w.heap.size + 1, 2, none⟩) (show w.heap.size + 1 < _ by omega)).trans bx2_2_6
    clear bx2_2_6
    have bx2_3_7 := (hb7.cell (p := ⟨w.heap.size + 1, 3, none⟩) (show w.heap.size + 1 < _ by omega)).trans bx2_3_6
    clear bx2_3_6
    have bx2_4_7 := (hb7.cell (p := ⟨w.heap.size + 1, 4, none⟩) (show w.heap.size + 1 < _ by omega)).trans bx2_4_6
    clear bx2_4_6
    have bx2_5_7 := (hb7.cell (p := ⟨w.heap.size + 1, 5, none⟩) (show w.heap.size + 1 < _ by omega)).trans bx2_5_6
    clear bx2_5_6
    have h0_7 := h0_6.below (hb7.mono (by omega))
    clear h0_6
    clear t3_6
    have u6_7 := u6.bel hb7
    clear u6
    have t7 := o7
    clear o7
    have V7 := Lib.hid v7
    clear v7
    have L7 := Lib.hid (t7.arr2.lens)
    have R7 := Lib.hid (rows_boundN V7.out l0.out L7.out r0.out)
    have TW7 : tot Row.n y7 = tot Row.n xs0 := tot_rowsN V7.out l0.out L7.out
    go_wp2_with fail
    have hb8 : Below w7.heap.size w7 w7.drew := (Below.refl _ _).drew
    have B8 := bel2 B7 hb8
    have S8 := hb8.size
    have bx1_0_8 := (hb8.cell (p := ⟨w.heap.size, 0, none⟩) (show w.heap.size < _ by omega)).trans bx1_0_7
    clear bx1_0_7
    have bx1_1_8 := (hb8.cell (p := ⟨w.heap.size, 1, none⟩) (show w.heap.size < _ by omega)).trans bx1_1_7
    clear bx1_1_7
    have bx2_0_8 := (hb8.cell (p := ⟨w.heap.size + 1, 0, none⟩) (show w.heap.size + 1 < _ by omega)).trans bx2_0_7
    clear bx2_0_7
    have bx2_1_8 := (hb8.cell (p := ⟨w.heap.size + 1, 1, none⟩) (show w.heap.size + 1 < _ by omega)).trans bx2_1_7
    clear bx2_1_7
    have bx2_2_8 := (hb8.cell (p := ⟨w.heap.size + 1, 2, none⟩) (show w.heap.size + 1 < _ by omega)).trans bx2_2_7
    clear bx2_2_7
    have bx2_3_8 := (hb8.cell (p := ⟨w.heap.size + 1, 3, none⟩) (show w.heap.size + 1 < _ by omega)).trans bx2_3_7
    clear bx2_3_7
    have bx2_4_8 := (hb8.cell (p := ⟨w.heap.size + 1, 4, none⟩) (show w.heap.size + 1 < _ by omega)).trans bx2_4_7
    clear bx2_4_7
    have bx2_5_8 := (hb8.cell (p := ⟨w.heap.size + 1, 5, none⟩) (show w.heap.size + 1 < _ by omega)).trans bx2_5_7
    clear bx2_5_7
    have h0_8 := h0_7.below (hb8.mono (by omega))
    clear h0_7
    have u6_8 := u6_7.bel hb8
    clear u6_7
    have t7_8 := t7.bel hb8
    clear t7
    go_region_held3 (fun w' => w'.cell? ⟨w.heap.size, 0, none⟩ = some (.int .i64 a1.margin) ∧ w'.cell? ⟨w.heap.size, 1, none⟩ = some (.int .i64 a1.lost) ∧ w'.cell? ⟨w.heap.size + 1, 0, none⟩ = some (.int .i64 a2.a) ∧ w'.cell? ⟨w.heap.size + 1, 1, none⟩ = some (.int .i64 a2.b) ∧ w'.cell? ⟨w.heap.size + 1, 2, none⟩ = some (.int .i64 a2.sa) ∧ w'.cell? ⟨w.heap.size + 1, 3, none⟩ = some (.int .i64 a2.sb) ∧ w'.cell? ⟨w.heap.size + 1, 4, none⟩ = some (.int .i64 a2.ga) ∧ w'.cell? ⟨w.heap.size + 1, 5, none⟩ = some (.int .i64 a2.gb)) (first | exact ⟨bx1_0_8, bx1_1_8, bx2_0_8, bx2_1_8, bx2_2_8, bx2_3_8, bx2_4_8, bx2_5_8⟩ | exact ⟨bx1_0_9, bx1_1_9, bx2_0_9, bx2_1_9, bx2_2_9, bx2_3_9, bx2_4_9, bx2_5_9⟩ | exact ⟨bx1_0_10, bx1_1_10, bx2_0_10, bx2_1_10, bx2_2_10, bx2_3_10, bx2_4_10, bx2_5_10⟩ | exact ⟨bx1_0_11, bx1_1_11, bx2_0_11, bx2_1_11, bx2_2_11, bx2_3_11, bx2_4_11, bx2_5_11⟩ | go_keep) ((first | (go_at_call 12; refine (toWatch_any a1 _).mono ?_; rintro e w9 ⟨rfl, hb9⟩; have B9 := bel2 B8 hb9; have S9 := hb9.size; have bx1_0_9 := (hb9.cell (p := ⟨w.heap.size, 0, none⟩) (show w.heap.size < _ by omega)).trans bx1_0_8; have bx1_1_9 := (hb9.cell (p := ⟨w.heap.size, 1, none⟩) (show w.heap.size < _ by omega)).trans bx1_1_8; have bx2_0_9 := (hb9.cell (p := ⟨w.heap.size + 1, 0, none⟩) (show w.heap.size + 1 < _ by omega)).trans bx2_0_8; have bx2_1_9 := (hb9.cell (p := ⟨w.heap.size + 1, 1, none⟩) (show w.heap.size + 1 < _ by omega)).trans bx2_1_8; have bx2_2_9 := (hb9.cell (p := ⟨w.heap.size + 1, 2, none⟩) (show w.heap.size + 1 < _ by omega)).trans bx2_2_8; have bx2_3_9 := (hb9.cell (p := ⟨w.heap.size + 1, 3, none⟩) (show w.heap.size + 1 < _ by omega)).trans bx2_3_8; have bx2_4_9 := (hb9.cell (p := ⟨w.heap.size + 1, 4, none⟩) (show w.heap.size + 1 < _ by omega)).trans bx2_4_8; have bx2_5_9 := (hb9.cell (p := ⟨w.heap.size + 1, 5, none⟩) (show w.heap.size + 1 < _ by omega)).trans bx2_5_8; have h0_9 := h0_8.below (hb9.mono (by omega)); have u6_9 := u6_8.bel hb9; have t7_9 := t7_8.bel hb9) | (go_at_call 13; refine (toWorld_any a2 _).mono ?_; rintro e w10 ⟨rfl, hb10⟩; have B10 := bel2 B9 hb10; have S10 := hb10.size; have bx1_0_10 := (hb10.cell (p := ⟨w.heap.size, 0, none⟩) (show w.heap.size < _ by omega)).trans bx1_0_9; have bx1_1_10 := (hb10.cell (p := ⟨w.heap.size, 1, none⟩) (show w.heap.size < _ by omega)).trans bx1_1_9; have bx2_0_10 := (hb10.cell (p := ⟨w.heap.size + 1, 0, none⟩) (show w.heap.size + 1 < _ by omega)).trans bx2_0_9; have bx2_1_10 := (hb10.cell (p := ⟨w.heap.size + 1, 1, none⟩) (show w.heap.size + 1 < _ by omega)).trans bx2_1_9; have bx2_2_10 := (hb10.cell (p := ⟨w.heap.size + 1, 2, none⟩) (show w.heap.size + 1 < _ by omega)).trans bx2_2_9; have bx2_3_10 := (hb10.cell (p := ⟨w.heap.size + 1, 3, none⟩) (show w.heap.size + 1 < _ by omega)).trans bx2_3_9; have bx2_4_10 := (hb10.cell (p := ⟨w.heap.size + 1, 4, none⟩) (show w.heap.size + 1 < _ by omega)).trans bx2_4_9; have bx2_5_10 := (hb10.cell (p := ⟨w.heap.size + 1, 5, none⟩) (show w.heap.size + 1 < _ by omega)).trans bx2_5_9; have h0_10 := h0_9.below (hb10.mono (by omega)); have u6_10 := u6_9.bel hb10; have t7_10 := t7_9.bel hb10) | (go_at_call 14; refine (actsOf_at _ _ _ y7 xs0 a1 a2 _ _ ((t7_10.arr Row.cs_len bc_len).more (by omega)) (by omega) V7.out L7.out l0.out).mono ?_; rintro e w11 ⟨A11, c11, rfl, o11, hb11⟩; have B11 := bel2 B10 hb11; have S11 := hb11.size; have bx1_0_11 := (hb11.cell (p := ⟨w.heap.size, 0, none⟩) (show w.heap.size < _ by omega)).trans bx1_0_10; have bx1_1_11 := (hb11.cell (p := ⟨w.heap.size, 1, none⟩) (show w.heap.size < _ by omega)).trans bx1_1_10; have bx2_0_11 := (hb11.cell (p := ⟨w.heap.size + 1, 0, none⟩) (show w.heap.size + 1 < _ by omega)).trans bx2_0_10; have bx2_1_11 := (hb11.cell (p := ⟨w.heap.size + 1, 1, none⟩) (show w.heap.size + 1 < _ by omega)).trans bx2_1_10; have bx2_2_11 := (hb11.cell (p := ⟨w.heap.size + 1, 2, none⟩) (show w.heap.size + 1 < _ by omega)).trans bx2_2_10; have bx2_3_11 := (hb11.cell (p := ⟨w.heap.size + 1, 3, none⟩) (show w.heap.size + 1 < _ by omega)).trans bx2_3_10; have bx2_4_11 := (hb11.cell (p := ⟨w.heap.size + 1, 4, none⟩) (show w.heap.size + 1 < _ by omega)).trans bx2_4_10; have bx2_5_11 := (hb11.cell (p := ⟨w.heap.size + 1, 5, none⟩) (show w.heap.size + 1 < _ by omega)).trans bx2_5_10; have h0_11 := h0_10.below (hb11.mono (by omega)); have u6_11 := u6_10.bel hb11; have t7_11 := t7_10.bel hb11; have g11 := o11)))
    clear bx1_0_8 bx1_1_8 bx2_0_8 bx2_1_8 bx2_2_8 bx2_3_8 bx2_4_8 bx2_5_8 h0_8 u6_8 t7_8 bx1_0_9 bx1_1_9 bx2_0_9 bx2_1_9 bx2_2_9 bx2_3_9 bx2_4_9 bx2_5_9 h0_9 u6_9 t7_9 bx1_0_10 bx1_1_10 bx2_0_10 bx2_1_10 bx2_2_10 bx2_3_10 bx2_4_10 bx2_5_10 h0_10 u6_10 t7_10 o11
    have len0 : (aoXs xs0 a1 a2).length ≤ 1048576 := by have := aoXs_len xs0 a1 a2; omega
    go_wp2_with fail
    refine (eqActS_same _ _ _ _ _ (aoXs xs0 a1 a2) _ _ _ ((g11.arr Dact.cs_len).more (by omega)) ((u6_11.arr Dact.cs_len).more (by omega)) (by omega)).mono ?_
    rintro e w12 ⟨rfl, hb12⟩
    have B12 := bel2 B11 hb12
    have S12 := hb12.size
    have bx1_0_12 := (hb12.cell (p := ⟨w.heap.size, 0, none⟩) (show w.heap.size < _ by omega)).trans bx1_0_11
    clear bx1_0_11
    have bx1_1_12 := (hb12.cell (p := ⟨w.heap.size, 1, none⟩) (show w.heap.size < _ by omega)).trans bx1_1_11
    clear bx1_1_11
    have bx2_0_12 := (hb12.cell (p := ⟨w.heap.size + 1, 0, none⟩) (show w.heap.size + 1 < _ by omega)).trans bx2_0_11
    clear bx2_0_11
    have bx2_1_12 := (hb12.cell (p := ⟨w.heap.size + 1, 1, none⟩) (show w.heap.size + 1 < _ by omega)).trans bx2_1_11
    clear bx2_1_11
    have bx2_2_12 := (hb12.cell (p := ⟨w.heap.size + 1, 2, none⟩) (show w.heap.size + 1 < _ by omega)).trans bx2_2_11
    clear bx2_2_11
    have bx2_3_12 := (hb12.cell (p := ⟨w.heap.size + 1, 3, none⟩) (show w.heap.size + 1 < _ by omega)).trans bx2_3_11
    clear bx2_3_11
    have bx2_4_12 := (hb12.cell (p := ⟨w.heap.size + 1, 4, none⟩) (show w.heap.size + 1 < _ by omega)).trans bx2_4_11
    clear bx2_4_11
    have bx2_5_12 := (hb12.cell (p := ⟨w.heap.size + 1, 5, none⟩) (show w.heap.size + 1 < _ by omega)).trans bx2_5_11
    clear bx2_5_11
    have h0_12 := h0_11.below (hb12.mono (by omega))
    clear h0_11
    have u6_12 := u6_11.bel hb12
    clear u6_11
    have t7_12 := t7_11.bel hb12
    clear t7_11
    have g11_12 := g11.bel hb12
    clear g11
    go_wp2_with fail
    refine (toBoolSS_own _ _ _ xs0 _ _ (h0_12.more (by omega)) m0 r0.out).mono ?_
    rintro e w13 ⟨g13, y13, rfl, v13, o13, hb13⟩
    have B13 := bel2 B12 hb13
    have S13 := hb13.size
    have bx1_0_13 := (hb13.cell (p := ⟨w.heap.size, 0, none⟩) (show w.heap.size < _ by omega)).trans bx1_0_12
    clear bx1_0_12
    have bx1_1_13 := (hb13.cell (p := ⟨w.heap.size, 1, none⟩) (show w.heap.size < _ by omega)).trans bx1_1_12
    clear bx1_1_12
    have bx2_0_13 := (hb13.cell (p := ⟨w.heap.size + 1, 0, none⟩) (show w.heap.size + 1 < _ by omega)).trans bx2_0_12
    clear bx2_0_12
    have bx2_1_13 := (hb13.cell (p := ⟨w.heap.size + 1, 1, none⟩) (show w.heap.size + 1 < _ by omega)).trans bx2_1_12
    clear bx2_1_12
    have bx2_2_13 := (hb13.cell (p := ⟨w.heap.size + 1, 2, none⟩) (show w.heap.size + 1 < _ by omega)).trans bx2_2_12
    clear bx2_2_12
    have bx2_3_13 := (hb13.cell (p := ⟨w.heap.size + 1, 3, none⟩) (show w.heap.size + 1 < _ by omega)).trans bx2_3_12
    clear bx2_3_12
    have bx2_4_13 := (hb13.cell (p := ⟨w.heap.size + 1, 4, none⟩) (show w.heap.size + 1 < _ by omega)).trans bx2_4_12
    clear bx2_4_12
    have bx2_5_13 := (hb13.cell (p := ⟨w.heap.size + 1, 5, none⟩) (show w.heap.size + 1 < _ by omega)).trans bx2_5_12
    clear bx2_5_12
    have h0_13 := h0_12.below (hb13.mono (by omega))
    clear h0_12
    have u6_13 := u6_12.bel hb13
    clear u6_12
    have t7_13 := t7_12.bel hb13
    clear t7_12
    have g11_13 := g11_12.bel hb13
    clear g11_12
    have t13 := o13
    clear o13
    have V13 := Lib.hid v13
    clear v13
    have L13 := Lib.hid (t13.arr2.lens)
    have R13 := Lib.hid (rows_boundN V13.out l0.out L13.out r0.out)
    have TW13 : tot Row.n y13 = tot Row.n xs0 := tot_rowsN V13.out l0.out L13.out
    go_wp2_with fail
    refine (eqBoolSS_same _ _ _ _ _ y7 y13 _ _ _ ((t7_13.arr Row.cs_len bc_len).more (by omega)) ((t13.arr Row.cs_len bc_len).more (by omega)) (V7.out.trans V13.out.symm) (by omega) (fun r hr => Nat.le_trans (R7.out r hr) (by decide))).mono ?_
    rintro e w14 ⟨rfl, hb14⟩
    have B14 := bel2 B13 hb14
    have S14 := hb14.size
    have bx1_0_14 := (hb14.cell (p := ⟨w.heap.size, 0, none⟩) (show w.heap.size < _ by omega)).trans bx1_0_13
    clear bx1_0_13
    have bx1_1_14 := (hb14.cell (p := ⟨w.heap.size, 1, none⟩) (show w.heap.size < _ by omega)).trans bx1_1_13
    clear bx1_1_13
    have bx2_0_14 := (hb14.cell (p := ⟨w.heap.size + 1, 0, none⟩) (show w.heap.size + 1 < _ by omega)).trans bx2_0_13
    clear bx2_0_13
    have bx2_1_14 := (hb14.cell (p := ⟨w.heap.size + 1, 1, none⟩) (show w.heap.size + 1 < _ by omega)).trans bx2_1_13
    clear bx2_1_13
    have bx2_2_14 := (hb14.cell (p := ⟨w.heap.size + 1, 2, none⟩) (show w.heap.size + 1 < _ by omega)).trans bx2_2_13
    clear bx2_2_13
    have bx2_3_14 := (hb14.cell (p := ⟨w.heap.size + 1, 3, none⟩) (show w.heap.size + 1 < _ by omega)).trans bx2_3_13
    clear bx2_3_13
    have bx2_4_14 := (hb14.cell (p := ⟨w.heap.size + 1, 4, none⟩) (show w.heap.size + 1 < _ by omega)).trans bx2_4_13
    clear bx2_4_13
    have bx2_5_14 := (hb14.cell (p := ⟨w.heap.size + 1, 5, none⟩) (show w.heap.size + 1 < _ by omega)).trans bx2_5_13
    clear bx2_5_13
    have h0_14 := h0_13.below (hb14.mono (by omega))
    clear h0_13
    have u6_14 := u6_13.bel hb14
    clear u6_13
    have t7_14 := t7_13.bel hb14
    clear t7_13
    have g11_14 := g11_13.bel hb14
    clear g11_13
    clear t13
    go_wp2_with fail
    refine (markBoolSS_any _ _ _ y7 _ _ _ _ t7_14 (by omega) R7.out (by omega) (by omega)).mono ?_
    rintro e w15 ⟨rfl, hw15⟩
    have o15 := True.intro
    have B15 := Below.within B14 hw15 (by omega) (by omega)
    have S15 := hw15.size
    have bx1_0_15 := (hw15.cell (p := ⟨w.heap.size, 0, none⟩) (show w.heap.size < _ by omega) (show w.heap.size < _ ∨ _ ≤ w.heap.size by omega)).trans bx1_0_14
    clear bx1_0_14
    have bx1_1_15 := (hw15.cell (p := ⟨w.heap.size, 1, none⟩) (show w.heap.size < _ by omega) (show w.heap.size < _ ∨ _ ≤ w.heap.size by omega)).trans bx1_1_14
    clear bx1_1_14
    have bx2_0_15 := (hw15.cell (p := ⟨w.heap.size + 1, 0, none⟩) (show w.heap.size + 1 < _ by omega) (show w.heap.size + 1 < _ ∨ _ ≤ w.heap.size + 1 by omega)).trans bx2_0_14
    clear bx2_0_14
    have bx2_1_15 := (hw15.cell (p := ⟨w.heap.size + 1, 1, none⟩) (show w.heap.size + 1 < _ by omega) (show w.heap.size + 1 < _ ∨ _ ≤ w.heap.size + 1 by omega)).trans bx2_1_14
    clear bx2_1_14
    have bx2_2_15 := (hw15.cell (p := ⟨w.heap.size + 1, 2, none⟩) (show w.heap.size + 1 < _ by omega) (show w.heap.size + 1 < _ ∨ _ ≤ w.heap.size + 1 by omega)).trans bx2_2_14
    clear bx2_2_14
    have bx2_3_15 := (hw15.cell (p := ⟨w.heap.size + 1, 3, none⟩) (show w.heap.size + 1 < _ by omega) (show w.heap.size + 1 < _ ∨ _ ≤ w.heap.size + 1 by omega)).trans bx2_3_14
    clear bx2_3_14
    have bx2_4_15 := (hw15.cell (p := ⟨w.heap.size + 1, 4, none⟩) (show w.heap.size + 1 < _ by omega) (show w.heap.size + 1 < _ ∨ _ ≤ w.heap.size + 1 by omega)).trans bx2_4_14
    clear bx2_4_14
    have bx2_5_15 := (hw15.cell (p := ⟨w.heap.size + 1, 5, none⟩) (show w.heap.size + 1 < _ by omega) (show w.heap.size + 1 < _ ∨ _ ≤ w.heap.size + 1 by omega)).trans bx2_5_14
    clear bx2_5_14
    have h0_15 := h0_14.within hw15 (by omega) (by omega)
    clear h0_14
    have u6_15 := u6_14.within hw15 (by omega)
    clear u6_14
    clear o15
    have g11_15 := g11_14.within hw15 (by omega)
    clear g11_14
    go_wp2_with fail
    refine (eqActS_same _ _ _ _ _ (aoXs xs0 a1 a2) _ _ _ ((g11_15.arr Dact.cs_len).more (by omega)) ((u6_15.arr Dact.cs_len).more (by omega)) (by omega)).mono ?_
    rintro e w16 ⟨rfl, hb16⟩
    have B16 := bel2 B15 hb16
    have S16 := hb16.size
    have bx1_0_16 := (hb16.cell (p := ⟨w.heap.size, 0, none⟩) (show w.heap.size < _ by omega)).trans bx1_0_15
    clear bx1_0_15
    have bx1_1_16 := (hb16.cell (p := ⟨w.heap.size, 1, none⟩) (show w.heap.size < _ by omega)).trans bx1_1_15
    clear bx1_1_15
    have bx2_0_16 := (hb16.cell (p := ⟨w.heap.size + 1, 0, none⟩) (show w.heap.size + 1 < _ by omega)).trans bx2_0_15
    clear bx2_0_15
    have bx2_1_16 := (hb16.cell (p := ⟨w.heap.size + 1, 1, none⟩) (show w.heap.size + 1 < _ by omega)).trans bx2_1_15
    clear bx2_1_15
    have bx2_2_16 := (hb16.cell (p := ⟨w.heap.size + 1, 2, none⟩) (show w.heap.size + 1 < _ by omega)).trans bx2_2_15
    clear bx2_2_15
    have bx2_3_16 := (hb16.cell (p := ⟨w.heap.size + 1, 3, none⟩) (show w.heap.size + 1 < _ by omega)).trans bx2_3_15
    clear bx2_3_15
    have bx2_4_16 := (hb16.cell (p := ⟨w.heap.size + 1, 4, none⟩) (show w.heap.size + 1 < _ by omega)).trans bx2_4_15
    clear bx2_4_15
    have bx2_5_16 := (hb16.cell (p := ⟨w.heap.size + 1, 5, none⟩) (show w.heap.size + 1 < _ by omega)).trans bx2_5_15
    clear bx2_5_15
    have h0_16 := h0_15.below (hb16.mono (by omega))
    clear h0_15
    have u6_16 := u6_15.bel hb16
    clear u6_15
    have g11_16 := g11_15.bel hb16
    clear g11_15
    go_wp2_with fail
    refine (markActS_any _ _ _ _ _ _ _ _ g11_16 (by omega) (by omega) (by omega)).mono ?_
    rintro e w17 ⟨rfl, hw17, o17⟩
    have B17 := Below.within B16 hw17 (by omega) (by omega)
    have S17 := hw17.size
    have bx1_0_17 := (hw17.cell (p := ⟨w.heap.size, 0, none⟩) (show w.heap.size < _ by omega) (show w.heap.size < _ ∨ _ ≤ w.heap.size by omega)).trans bx1_0_16
    clear bx1_0_16
    have bx1_1_17 := (hw17.cell (p := ⟨w.heap.size, 1, none⟩) (show w.heap.size < _ by omega) (show w.heap.size < _ ∨ _ ≤ w.heap.size by omega)).trans bx1_1_16
    clear bx1_1_16
    have bx2_0_17 := (hw17.cell (p := ⟨w.heap.size + 1, 0, none⟩) (show w.heap.size + 1 < _ by omega) (show w.heap.size + 1 < _ ∨ _ ≤ w.heap.size + 1 by omega)).trans bx2_0_16
    clear bx2_0_16
    have bx2_1_17 := (hw17.cell (p := ⟨w.heap.size + 1, 1, none⟩) (show w.heap.size + 1 < _ by omega) (show w.heap.size + 1 < _ ∨ _ ≤ w.heap.size + 1 by omega)).trans bx2_1_16
    clear bx2_1_16
    have bx2_2_17 := (hw17.cell (p := ⟨w.heap.size + 1, 2, none⟩) (show w.heap.size + 1 < _ by omega) (show w.heap.size + 1 < _ ∨ _ ≤ w.heap.size + 1 by omega)).trans bx2_2_16
    clear bx2_2_16
    have bx2_3_17 := (hw17.cell (p := ⟨w.heap.size + 1, 3, none⟩) (show w.heap.size + 1 < _ by omega) (show w.heap.size + 1 < _ ∨ _ ≤ w.heap.size + 1 by omega)).trans bx2_3_16
    clear bx2_3_16
    have bx2_4_17 := (hw17.cell (p := ⟨w.heap.size + 1, 4, none⟩) (show w.heap.size + 1 < _ by omega) (show w.heap.size + 1 < _ ∨ _ ≤ w.heap.size + 1 by omega)).trans bx2_4_16
    clear bx2_4_16
    have bx2_5_17 := (hw17.cell (p := ⟨w.heap.size + 1, 5, none⟩) (show w.heap.size + 1 < _ by omega) (show w.heap.size + 1 < _ ∨ _ ≤ w.heap.size + 1 by omega)).trans bx2_5_16
    clear bx2_5_16
    have h0_17 := h0_16.within hw17 (by omega) (by omega)
    clear h0_16
    have u6_17 := u6_16.within hw17 (by omega)
    clear u6_16
    go_wp2_with fail
    refine (heldActS_same _ _ _ _ _ _ ((o17.arr Dact.cs_len).more (by omega)) (by omega) (by omega) (by omega)).mono ?_
    rintro e w18 ⟨rfl, hb18⟩
    have B18 := bel2 B17 hb18
    have S18 := hb18.size
    have bx1_0_18 := (hb18.cell (p := ⟨w.heap.size, 0, none⟩) (show w.heap.size < _ by omega)).trans bx1_0_17
    clear bx1_0_17
    have bx1_1_18 := (hb18.cell (p := ⟨w.heap.size, 1, none⟩) (show w.heap.size < _ by omega)).trans bx1_1_17
    clear bx1_1_17
    have bx2_0_18 := (hb18.cell (p := ⟨w.heap.size + 1, 0, none⟩) (show w.heap.size + 1 < _ by omega)).trans bx2_0_17
    clear bx2_0_17
    have bx2_1_18 := (hb18.cell (p := ⟨w.heap.size + 1, 1, none⟩) (show w.heap.size + 1 < _ by omega)).trans bx2_1_17
    clear bx2_1_17
    have bx2_2_18 := (hb18.cell (p := ⟨w.heap.size + 1, 2, none⟩) (show w.heap.size + 1 < _ by omega)).trans bx2_2_17
    clear bx2_2_17
    have bx2_3_18 := (hb18.cell (p := ⟨w.heap.size + 1, 3, none⟩) (show w.heap.size + 1 < _ by omega)).trans bx2_3_17
    clear bx2_3_17
    have bx2_4_18 := (hb18.cell (p := ⟨w.heap.size + 1, 4, none⟩) (show w.heap.size + 1 < _ by omega)).trans bx2_4_17
    clear bx2_4_17
    have bx2_5_18 := (hb18.cell (p := ⟨w.heap.size + 1, 5, none⟩) (show w.heap.size + 1 < _ by omega)).trans bx2_5_17
    clear bx2_5_17
    have h0_18 := h0_17.below (hb18.mono (by omega))
    clear h0_17
    have u6_18 := u6_17.bel hb18
    clear u6_17
    have g11_18 := o17.bel hb18
    clear o17
    go_wp2_with fail
    have hb19 : Below w18.heap.size w18 w18.drew := (Below.refl _ _).drew
    have B19 := bel2 B18 hb19
    have S19 := hb19.size
    have bx1_0_19 := (hb19.cell (p := ⟨w.heap.size, 0, none⟩) (show w.heap.size < _ by omega)).trans bx1_0_18
    clear bx1_0_18
    have bx1_1_19 := (hb19.cell (p := ⟨w.heap.size, 1, none⟩) (show w.heap.size < _ by omega)).trans bx1_1_18
    clear bx1_1_18
    have bx2_0_19 := (hb19.cell (p := ⟨w.heap.size + 1, 0, none⟩) (show w.heap.size + 1 < _ by omega)).trans bx2_0_18
    clear bx2_0_18
    have bx2_1_19 := (hb19.cell (p := ⟨w.heap.size + 1, 1, none⟩) (show w.heap.size + 1 < _ by omega)).trans bx2_1_18
    clear bx2_1_18
    have bx2_2_19 := (hb19.cell (p := ⟨w.heap.size + 1, 2, none⟩) (show w.heap.size + 1 < _ by omega)).trans bx2_2_18
    clear bx2_2_18
    have bx2_3_19 := (hb19.cell (p := ⟨w.heap.size + 1, 3, none⟩) (show w.heap.size + 1 < _ by omega)).trans bx2_3_18
    clear bx2_3_18
    have bx2_4_19 := (hb19.cell (p := ⟨w.heap.size + 1, 4, none⟩) (show w.heap.size + 1 < _ by omega)).trans bx2_4_18
    clear bx2_4_18
    have bx2_5_19 := (hb19.cell (p := ⟨w.heap.size + 1, 5, none⟩) (show w.heap.size + 1 < _ by omega)).trans bx2_5_18
    clear bx2_5_18
    have h0_19 := h0_18.below (hb19.mono (by omega))
    clear h0_18
    have u6_19 := u6_18.bel hb19
    clear u6_18
    have g11_19 := g11_18.bel hb19
    clear g11_18
    go_region_held3 (fun w' => w'.cell? ⟨w.heap.size, 0, none⟩ = some (.int .i64 a1.margin) ∧ w'.cell? ⟨w.heap.size, 1, none⟩ = some (.int .i64 a1.lost) ∧ w'.cell? ⟨w.heap.size + 1, 0, none⟩ = some (.int .i64 a2.a) ∧ w'.cell? ⟨w.heap.size + 1, 1, none⟩ = some (.int .i64 a2.b) ∧ w'.cell? ⟨w.heap.size + 1, 2, none⟩ = some (.int .i64 a2.sa) ∧ w'.cell? ⟨w.heap.size + 1, 3, none⟩ = some (.int .i64 a2.sb) ∧ w'.cell? ⟨w.heap.size + 1, 4, none⟩ = some (.int .i64 a2.ga) ∧ w'.cell? ⟨w.heap.size + 1, 5, none⟩ = some (.int .i64 a2.gb)) (first | exact ⟨bx1_0_19, bx1_1_19, bx2_0_19, bx2_1_19, bx2_2_19, bx2_3_19, bx2_4_19, bx2_5_19⟩ | exact ⟨bx1_0_20, bx1_1_20, bx2_0_20, bx2_1_20, bx2_2_20, bx2_3_20, bx2_4_20, bx2_5_20⟩ | exact ⟨bx1_0_21, bx1_1_21, bx2_0_21, bx2_1_21, bx2_2_21, bx2_3_21, bx2_4_21, bx2_5_21⟩ | exact ⟨bx1_0_22, bx1_1_22, bx2_0_22, bx2_1_22, bx2_2_22, bx2_3_22, bx2_4_22, bx2_5_22⟩ | exact ⟨bx1_0_23, bx1_1_23, bx2_0_23, bx2_1_23, bx2_2_23, bx2_3_23, bx2_4_23, bx2_5_23⟩ | go_keep) ((first | (go_at_call 11; refine (toBoolSS_own _ _ _ xs0 _ _ (h0_19.more (by omega)) m0 r0.out).mono ?_; rintro e w20 ⟨g20, y20, rfl, v20, o20, hb20⟩; have B20 := bel2 B19 hb20; have S20 := hb20.size; have bx1_0_20 := (hb20.cell (p := ⟨w.heap.size, 0, none⟩) (show w.heap.size < _ by omega)).trans bx1_0_19; have bx1_1_20 := (hb20.cell (p := ⟨w.heap.size, 1, none⟩) (show w.heap.size < _ by omega)).trans bx1_1_19; have bx2_0_20 := (hb20.cell (p := ⟨w.heap.size + 1, 0, none⟩) (show w.heap.size + 1 < _ by omega)).trans bx2_0_19; have bx2_1_20 := (hb20.cell (p := ⟨w.heap.size + 1, 1, none⟩) (show w.heap.size + 1 < _ by omega)).trans bx2_1_19; have bx2_2_20 := (hb20.cell (p := ⟨w.heap.size + 1, 2, none⟩) (show w.heap.size + 1 < _ by omega)).trans bx2_2_19; have bx2_3_20 := (hb20.cell (p := ⟨w.heap.size + 1, 3, none⟩) (show w.heap.size + 1 < _ by omega)).trans bx2_3_19; have bx2_4_20 := (hb20.cell (p := ⟨w.heap.size + 1, 4, none⟩) (show w.heap.size + 1 < _ by omega)).trans bx2_4_19; have bx2_5_20 := (hb20.cell (p := ⟨w.heap.size + 1, 5, none⟩) (show w.heap.size + 1 < _ by omega)).trans bx2_5_19; have h0_20 := h0_19.below (hb20.mono (by omega)); have u6_20 := u6_19.bel hb20; have g11_20 := g11_19.bel hb20; have t20 := o20; have V20 := Lib.hid v20; have L20 := Lib.hid (t20.arr2.lens); have R20 := Lib.hid (rows_boundN V20.out l0.out L20.out r0.out); have TW20 : tot Row.n y20 = tot Row.n xs0 := tot_rowsN V20.out l0.out L20.out) | (go_at_call 12; refine (toWatch_any a1 _).mono ?_; rintro e w21 ⟨rfl, hb21⟩; have B21 := bel2 B20 hb21; have S21 := hb21.size; have bx1_0_21 := (hb21.cell (p := ⟨w.heap.size, 0, none⟩) (show w.heap.size < _ by omega)).trans bx1_0_20; have bx1_1_21 := (hb21.cell (p := ⟨w.heap.size, 1, none⟩) (show w.heap.size < _ by omega)).trans bx1_1_20; have bx2_0_21 := (hb21.cell (p := ⟨w.heap.size + 1, 0, none⟩) (show w.heap.size + 1 < _ by omega)).trans bx2_0_20; have bx2_1_21 := (hb21.cell (p := ⟨w.heap.size + 1, 1, none⟩) (show w.heap.size + 1 < _ by omega)).trans bx2_1_20; have bx2_2_21 := (hb21.cell (p := ⟨w.heap.size + 1, 2, none⟩) (show w.heap.size + 1 < _ by omega)).trans bx2_2_20; have bx2_3_21 := (hb21.cell (p := ⟨w.heap.size + 1, 3, none⟩) (show w.heap.size + 1 < _ by omega)).trans bx2_3_20; have bx2_4_21 := (hb21.cell (p := ⟨w.heap.size + 1, 4, none⟩) (show w.heap.size + 1 < _ by omega)).trans bx2_4_20; have bx2_5_21 := (hb21.cell (p := ⟨w.heap.size + 1, 5, none⟩) (show w.heap.size + 1 < _ by omega)).trans bx2_5_20; have h0_21 := h0_20.below (hb21.mono (by omega)); have u6_21 := u6_20.bel hb21; have g11_21 := g11_20.bel hb21; have t20_21 := t20.bel hb21) | (go_at_call 13; refine (toWorld_any a2 _).mono ?_; rintro e w22 ⟨rfl, hb22⟩; have B22 := bel2 B21 hb22; have S22 := hb22.size; have bx1_0_22 := (hb22.cell (p := ⟨w.heap.size, 0, none⟩) (show w.heap.size < _ by omega)).trans bx1_0_21; have bx1_1_22 := (hb22.cell (p := ⟨w.heap.size, 1, none⟩) (show w.heap.size < _ by omega)).trans bx1_1_21; have bx2_0_22 := (hb22.cell (p := ⟨w.heap.size + 1, 0, none⟩) (show w.heap.size + 1 < _ by omega)).trans bx2_0_21; have bx2_1_22 := (hb22.cell (p := ⟨w.heap.size + 1, 1, none⟩) (show w.heap.size + 1 < _ by omega)).trans bx2_1_21; have bx2_2_22 := (hb22.cell (p := ⟨w.heap.size + 1, 2, none⟩) (show w.heap.size + 1 < _ by omega)).trans bx2_2_21; have bx2_3_22 := (hb22.cell (p := ⟨w.heap.size + 1, 3, none⟩) (show w.heap.size + 1 < _ by omega)).trans bx2_3_21; have bx2_4_22 := (hb22.cell (p := ⟨w.heap.size + 1, 4, none⟩) (show w.heap.size + 1 < _ by omega)).trans bx2_4_21; have bx2_5_22 := (hb22.cell (p := ⟨w.heap.size + 1, 5, none⟩) (show w.heap.size + 1 < _ by omega)).trans bx2_5_21; have h0_22 := h0_21.below (hb22.mono (by omega)); have u6_22 := u6_21.bel hb22; have g11_22 := g11_21.bel hb22; have t20_22 := t20_21.bel hb22) | (go_at_call 14; refine (actsOf_at _ _ _ y20 xs0 a1 a2 _ _ ((t20_22.arr Row.cs_len bc_len).more (by omega)) (by omega) V20.out L20.out l0.out).mono ?_; rintro e w23 ⟨A23, c23, rfl, o23, hb23⟩; have B23 := bel2 B22 hb23; have S23 := hb23.size; have bx1_0_23 := (hb23.cell (p := ⟨w.heap.size, 0, none⟩) (show w.heap.size < _ by omega)).trans bx1_0_22; have bx1_1_23 := (hb23.cell (p := ⟨w.heap.size, 1, none⟩) (show w.heap.size < _ by omega)).trans bx1_1_22; have bx2_0_23 := (hb23.cell (p := ⟨w.heap.size + 1, 0, none⟩) (show w.heap.size + 1 < _ by omega)).trans bx2_0_22; have bx2_1_23 := (hb23.cell (p := ⟨w.heap.size + 1, 1, none⟩) (show w.heap.size + 1 < _ by omega)).trans bx2_1_22; have bx2_2_23 := (hb23.cell (p := ⟨w.heap.size + 1, 2, none⟩) (show w.heap.size + 1 < _ by omega)).trans bx2_2_22; have bx2_3_23 := (hb23.cell (p := ⟨w.heap.size + 1, 3, none⟩) (show w.heap.size + 1 < _ by omega)).trans bx2_3_22; have bx2_4_23 := (hb23.cell (p := ⟨w.heap.size + 1, 4, none⟩) (show w.heap.size + 1 < _ by omega)).trans bx2_4_22; have bx2_5_23 := (hb23.cell (p := ⟨w.heap.size + 1, 5, none⟩) (show w.heap.size + 1 < _ by omega)).trans bx2_5_22; have h0_23 := h0_22.below (hb23.mono (by omega)); have u6_23 := u6_22.bel hb23; have g11_23 := g11_22.bel hb23; have v23 := o23)))
    clear bx1_0_19 bx1_1_19 bx2_0_19 bx2_1_19 bx2_2_19 bx2_3_19 bx2_4_19 bx2_5_19 h0_19 u6_19 g11_19 o20 v20 bx1_0_20 bx1_1_20 bx2_0_20 bx2_1_20 bx2_2_20 bx2_3_20 bx2_4_20 bx2_5_20 h0_20 u6_20 g11_20 t20 bx1_0_21 bx1_1_21 bx2_0_21 bx2_1_21 bx2_2_21 bx2_3_21 bx2_4_21 bx2_5_21 h0_21 u6_21 g11_21 t20_21 bx1_0_22 bx1_1_22 bx2_0_22 bx2_1_22 bx2_2_22 bx2_3_22 bx2_4_22 bx2_5_22 h0_22 u6_22 g11_22 t20_22 o23
    go_wp2_with fail
    refine (eqActS_same _ _ _ _ _ (aoXs xs0 a1 a2) _ _ _ ((v23.arr Dact.cs_len).more (by omega)) ((u6_23.arr Dact.cs_len).more (by omega)) (by omega)).mono ?_
    rintro e w24 ⟨rfl, hb24⟩
    have B24 := bel2 B23 hb24
    have S24 := hb24.size
    have bx1_0_24 := (hb24.cell (p := ⟨w.heap.size, 0, none⟩) (show w.heap.size < _ by omega)).trans bx1_0_23
    clear bx1_0_23
    have bx1_1_24 := (hb24.cell (p := ⟨w.heap.size, 1, none⟩) (show w.heap.size < _ by omega)).trans bx1_1_23
    clear bx1_1_23
    have bx2_0_24 := (hb24.cell (p := ⟨w.heap.size + 1, 0, none⟩) (show w.heap.size + 1 < _ by omega)).trans bx2_0_23
    clear bx2_0_23
    have bx2_1_24 := (hb24.cell (p := ⟨w.heap.size + 1, 1, none⟩) (show w.heap.size + 1 < _ by omega)).trans bx2_1_23
    clear bx2_1_23
    have bx2_2_24 := (hb24.cell (p := ⟨w.heap.size + 1, 2, none⟩) (show w.heap.size + 1 < _ by omega)).trans bx2_2_23
    clear bx2_2_23
    have bx2_3_24 := (hb24.cell (p := ⟨w.heap.size + 1, 3, none⟩) (show w.heap.size + 1 < _ by omega)).trans bx2_3_23
    clear bx2_3_23
    have bx2_4_24 := (hb24.cell (p := ⟨w.heap.size + 1, 4, none⟩) (show w.heap.size + 1 < _ by omega)).trans bx2_4_23
    clear bx2_4_23
    have bx2_5_24 := (hb24.cell (p := ⟨w.heap.size + 1, 5, none⟩) (show w.heap.size + 1 < _ by omega)).trans bx2_5_23
    clear bx2_5_23
    have h0_24 := h0_23.below (hb24.mono (by omega))
    clear h0_23
    have u6_24 := u6_23.bel hb24
    clear u6_23
    have g11_24 := g11_23.bel hb24
    clear g11_23
    have v23_24 := v23.bel hb24
    clear v23
    go_wp2_with fail
    refine (heldActS_same _ _ _ _ _ _ ((g11_24.arr Dact.cs_len).more (by omega)) (by omega) (by omega) (by omega)).mono ?_
    rintro e w25 ⟨rfl, hb25⟩
    have B25 := bel2 B24 hb25
    have S25 := hb25.size
    have bx1_0_25 := (hb25.cell (p := ⟨w.heap.size, 0, none⟩) (show w.heap.size < _ by omega)).trans bx1_0_24
    clear bx1_0_24
    have bx1_1_25 := (hb25.cell (p := ⟨w.heap.size, 1, none⟩) (show w.heap.size < _ by omega)).trans bx1_1_24
    clear bx1_1_24
    have bx2_0_25 := (hb25.cell (p := ⟨w.heap.size + 1, 0, none⟩) (show w.heap.size + 1 < _ by omega)).trans bx2_0_24
    clear bx2_0_24
    have bx2_1_25 := (hb25.cell (p := ⟨w.heap.size + 1, 1, none⟩) (show w.heap.size + 1 < _ by omega)).trans bx2_1_24
    clear bx2_1_24
    have bx2_2_25 := (hb25.cell (p := ⟨w.heap.size + 1, 2, none⟩) (show w.heap.size + 1 < _ by omega)).trans bx2_2_24
    clear bx2_2_24
    have bx2_3_25 := (hb25.cell (p := ⟨w.heap.size + 1, 3, none⟩) (show w.heap.size + 1 < _ by omega)).trans bx2_3_24
    clear bx2_3_24
    have bx2_4_25 := (hb25.cell (p := ⟨w.heap.size + 1, 4, none⟩) (show w.heap.size + 1 < _ by omega)).trans bx2_4_24
    clear bx2_4_24
    have bx2_5_25 := (hb25.cell (p := ⟨w.heap.size + 1, 5, none⟩) (show w.heap.size + 1 < _ by omega)).trans bx2_5_24
    clear bx2_5_24
    have h0_25 := h0_24.below (hb25.mono (by omega))
    clear h0_24
    clear u6_24
    have g11_25 := g11_24.bel hb25
    clear g11_24
    clear v23_24
    go_wp2
    go_ret
    exact ⟨rfl, B25⟩
  · go_enter Try.func3, Try.ntmps3
    go_wp2_with fail
    obtain ⟨wa, hwa⟩ : ∃ W, W = (World.alloc (World.alloc w (.cells #[.int .i64 a1.margin, .int .i64 a1.lost] 24)) (.cells #[.int .i64 a2.a, .int .i64 a2.b, .int .i64 a2.sa, .int .i64 a2.sb, .int .i64 a2.ga, .int .i64 a2.gb] 26)) := ⟨_, rfl⟩
    rw [← hwa]
    have B0 : Below w.heap.size w wa := by rw [hwa]; exact ((Below.refl _ _).alloc (by simp) _).alloc (by simp) _
    have S0 : w.heap.size + 2 ≤ wa.heap.size := by rw [hwa]; simp
    have bx1_0 : wa.cell? ⟨w.heap.size, 0, none⟩ = some (.int .i64 a1.margin) := by rw [hwa]; rw [World.cell?_alloc_lt _ _ _ (by simp)]; simp
    have bx1_1 : wa.cell? ⟨w.heap.size, 1, none⟩ = some (.int .i64 a1.lost) := by rw [hwa]; rw [World.cell?_alloc_lt _ _ _ (by simp)]; simp
    have bx2_0 : wa.cell? ⟨w.heap.size + 1, 0, none⟩ = some (.int .i64 a2.a) := by rw [hwa]; simp
    have bx2_1 : wa.cell? ⟨w.heap.size + 1, 1, none⟩ = some (.int .i64 a2.b) := by rw [hwa]; simp
    have bx2_2 : wa.cell? ⟨w.heap.size + 1, 2, none⟩ = some (.int .i64 a2.sa) := by rw [hwa]; simp
    have bx2_3 : wa.cell? ⟨w.heap.size + 1, 3, none⟩ = some (.int .i64 a2.sb) := by rw [hwa]; simp
    have bx2_4 : wa.cell? ⟨w.heap.size + 1, 4, none⟩ = some (.int .i64 a2.ga) := by rw [hwa]; simp
    have bx2_5 : wa.cell? ⟨w.heap.size + 1, 5, none⟩ = some (.int .i64 a2.gb) := by rw [hwa]; simp
    have h0_0 := (h0.below B0).more (show w.heap.size ≤ w.heap.size from Nat.le_refl _)
    clear h0
    clear hwa
    go_wp2_with fail
    refine (szBoolSS_no _ _ _ xs0 _ _ _ (h0_0.more (by omega)) hn0 P0.out (by omega) (by omega) (by omega)).mono ?_
    rintro e w1 ⟨rfl, hb1⟩
    have B1 := bel2 B0 hb1
    have S1 := hb1.size
    have bx1_0_1 := (hb1.cell (p := ⟨w.heap.size, 0, none⟩) (show w.heap.size < _ by omega)).trans bx1_0
    clear bx1_0
    have bx1_1_1 := (hb1.cell (p := ⟨w.heap.size, 1, none⟩) (show w.heap.size < _ by omega)).trans bx1_1
    clear bx1_1
    have bx2_0_1 := (hb1.cell (p := ⟨w.heap.size + 1, 0, none⟩) (show w.heap.size + 1 < _ by omega)).trans bx2_0
    clear bx2_0
    have bx2_1_1 := (hb1.cell (p := ⟨w.heap.size + 1, 1, none⟩) (show w.heap.size + 1 < _ by omega)).trans bx2_1
    clear bx2_1
    have bx2_2_1 := (hb1.cell (p := ⟨w.heap.size + 1, 2, none⟩) (show w.heap.size + 1 < _ by omega)).trans bx2_2
    clear bx2_2
    have bx2_3_1 := (hb1.cell (p := ⟨w.heap.size + 1, 3, none⟩) (show w.heap.size + 1 < _ by omega)).trans bx2_3
    clear bx2_3
    have bx2_4_1 := (hb1.cell (p := ⟨w.heap.size + 1, 4, none⟩) (show w.heap.size + 1 < _ by omega)).trans bx2_4
    clear bx2_4
    have bx2_5_1 := (hb1.cell (p := ⟨w.heap.size + 1, 5, none⟩) (show w.heap.size + 1 < _ by omega)).trans bx2_5
    clear bx2_5
    have h0_1 := h0_0.below (hb1.mono (by omega))
    clear h0_0
    go_wp2
    go_ret
    exact ⟨rfl, B1⟩
end Go.Proofs.Ytomifedaiabapaa.lawActsOf
