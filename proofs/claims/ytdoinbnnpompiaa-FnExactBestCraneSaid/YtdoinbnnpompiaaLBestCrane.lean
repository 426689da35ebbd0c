/- FnExactBestCrane: the walk: the law returns true for every input. -/
import Derived.Test.YtdoinbnnpompiaaBest
import Derived.Test.YtdoinbnnpompiaaCRows
import Derived.Test.YtdoinbnnpompiaaOSite
import Derived.Test.YtdoinbnnpompiaaOLift
import Derived.Deep.RegionHeld3
namespace Go.Proofs.Ytdoinbnnpompiaa.lawBestCrane
open Go.RowKit
set_option linter.unusedVariables false

set_option maxRecDepth 100000 in
set_option maxHeartbeats 3200000 in
theorem walk (A0 : Option Addr) (n0 c0 : Nat) (xs0 : List Crane) (a1 : Lift) (w : World) (hn0 : n0 ≤ 9223372036854775807) (ha0 : Cranes w 0 w.heap.size A0 n0 xs0 ∧ ∀ p ∈ xs0, Crane.wf p) (hi1 : a1.wf ∧ Arr ic 1 w 0 w.heap.size a1.r.a a1.r.n a1.r.xs) :
    Calls Try.prog 4 #[.agg #[.slice A0 n0 c0], .agg #[.string a1.v.name, .int .i64 a1.v.weight, .int .i64 a1.v.fx, .int .i64 a1.v.fy, .int .i64 a1.v.tx, .int .i64 a1.v.ty, .int .i64 a1.v.height, .int .i64 a1.v.deadline, .slice a1.r.a a1.r.n a1.r.cap]] w fun e w' => e = .returned (.bool true) ∧ Below w.heap.size w w' := by
  obtain ⟨h0, wf0⟩ := ha0
  have q0 := Lib.hid h0.len
  have l0 := Lib.hid (crows_len h0)
  obtain ⟨wf1, h1⟩ := hi1
  have hj1 := wf1.v.name
  have q1 := Lib.hid h1.1
  have z0 : 0 ≤ szCraneS n0 xs0 := by unfold szCraneS; omega
  have z1 : 0 ≤ (a1.sz : Int) := by omega
  by_cases hs0 : szCraneS n0 xs0 ≤ 1048576
  · by_cases hs1 : (a1.sz : Int) ≤ 1048576 - szCraneS n0 xs0
    · go_enter Try.func4, Try.ntmps4
      go_wp2_with fail
      obtain ⟨wa, hwa⟩ : ∃ W, W = (World.alloc (World.alloc w (.cells #[.slice A0 n0 c0] 24)) (.cells #[.string a1.v.name, .int .i64 a1.v.weight, .int .i64 a1.v.fx, .int .i64 a1.v.fy, .int .i64 a1.v.tx, .int .i64 a1.v.ty, .int .i64 a1.v.height, .int .i64 a1.v.deadline, .slice a1.r.a a1.r.n a1.r.cap] 29)) := ⟨_, rfl⟩
      rw [← hwa]
      have B0 : Below w.heap.size w wa := by rw [hwa]; exact ((Below.refl _ _).alloc (by simp) _).alloc (by simp) _
      have S0 : w.heap.size + 2 ≤ wa.heap.size := by rw [hwa]; simp
      have bx0_0 : wa.cell? ⟨w.heap.size, 0, none⟩ = some (.slice A0 n0 c0) := by rw [hwa]; rw [World.cell?_alloc_lt _ _ _ (by simp)]; simp
      have bx1_0 : wa.cell? ⟨w.heap.size + 1, 0, none⟩ = some (.string a1.v.name) := by rw [hwa]; simp
      have bx1_1 : wa.cell? ⟨w.heap.size + 1, 1, none⟩ = some (.int .i64 a1.v.weight) := by rw [hwa]; simp
      have bx1_2 : wa.cell? ⟨w.heap.size + 1, 2, none⟩ = some (.int .i64 a1.v.fx) := by rw [hwa]; simp
      have bx1_3 : wa.cell? ⟨w.heap.size + 1, 3, none⟩ = some (.int .i64 a1.v.fy) := by rw [hwa]; simp
      have bx1_4 : wa.cell? ⟨w.heap.size + 1, 4, none⟩ = some (.int .i64 a1.v.tx) := by rw [hwa]; simp
      have bx1_5 : wa.cell? ⟨w.heap.size + 1, 5, none⟩ = some (.int .i64 a1.v.ty) := by rw [hwa]; simp
      have bx1_6 : wa.cell? ⟨w.heap.size + 1, 6, none⟩ = some (.int .i64 a1.v.height) := by rw [hwa]; simp
      have bx1_7 : wa.cell? ⟨w.heap.size + 1, 7, none⟩ = some (.int .i64 a1.v.deadline) := by rw [hwa]; simp
      have bx1_8 : wa.cell? ⟨w.heap.size + 1, 8, none⟩ = some (.slice a1.r.a a1.r.n a1.r.cap) := by rw [hwa]; simp
      have h0_0 := (h0.below B0).more (show w.heap.size ≤ w.heap.size from Nat.le_refl _)
      clear h0
      have h1_0 := (h1.below B0).more (show w.heap.size ≤ w.heap.size from Nat.le_refl _)
      clear h1
      clear hwa
      go_wp2_with fail
      refine (szSite_ok ⟨A0, n0, c0, xs0⟩ _ _ (h0_0.more (by omega)) hn0 wf0 (by omega) (by omega) (by omega)).mono ?_
      rintro e w1 ⟨rfl, hb1⟩
      have B1 := bel2 B0 hb1
      have S1 := hb1.size
      have bx0_0_1 := (hb1.cell (p := ⟨w.heap.size, 0, none⟩) (show w.heap.size < _ by omega)).trans bx0_0
      clear bx0_0
      have bx1_0_1 := (hb1.cell (p := ⟨w.heap.size + 1, 0, none⟩) (show w.heap.size + 1 < _ by omega)).trans bx1_0
      clear bx1_0
      have bx1_1_1 := (hb1.cell (p := ⟨w.heap.size + 1, 1, none⟩) (show w.heap.size + 1 < _ by omega)).trans bx1_1
      clear bx1_1
      have bx1_2_1 := (hb1.cell (p := ⟨w.heap.size + 1, 2, none⟩) (show w.heap.size + 1 < _ by omega)).trans bx1_2
      clear bx1_2
      have bx1_3_1 := (hb1.cell (p := ⟨w.heap.size + 1, 3, none⟩) (show w.heap.size + 1 < _ by omega)).trans bx1_3
      clear bx1_3
      have bx1_4_1 := (hb1.cell (p := ⟨w.heap.size + 1, 4, none⟩) (show w.heap.size + 1 < _ by omega)).trans bx1_4
      clear bx1_4
      have bx1_5_1 := (hb1.cell (p := ⟨w.heap.size + 1, 5, none⟩) (show w.heap.size + 1 < _ by omega)).trans bx1_5
      clear bx1_5
      have bx1_6_1 := (hb1.cell (p := ⟨w.heap.size + 1, 6, none⟩) (show w.heap.size + 1 < _ by omega)).trans bx1_6
      clear bx1_6
      have bx1_7_1 := (hb1.cell (p := ⟨w.heap.size + 1, 7, none⟩) (show w.heap.size + 1 < _ by omega)).trans bx1_7
      clear bx1_7
      have bx1_8_1 := (hb1.cell (p := ⟨w.heap.size + 1, 8, none⟩) (show w.heap.size + 1 < _ by omega)).trans bx1_8
      clear bx1_8
      have h0_1 := h0_0.below (hb1.mono (by omega))
      clear h0_0
      have h1_1 := h1_0.below (hb1.mono (by omega))
      clear h1_0
      go_wp2_with fail
      refine (szLift_ok a1 _ _ wf1 (by omega) (by omega) (by omega)).mono ?_
      rintro e w2 ⟨rfl, hb2⟩
      have B2 := bel2 B1 hb2
      have S2 := hb2.size
      have bx0_0_2 := (hb2.cell (p := ⟨w.heap.size, 0, none⟩) (show w.heap.size < _ by omega)).trans bx0_0_1
      clear bx0_0_1
      have bx1_0_2 := (hb2.cell (p := ⟨w.heap.size + 1, 0, none⟩) (show w.heap.size + 1 < _ by omega)).trans bx1_0_1
      clear bx1_0_1
      have bx1_1_2 := (hb2.cell (p := ⟨w.heap.size + 1, 1, none⟩) (show w.heap.size + 1 < _ by omega)).trans bx1_1_1
      clear bx1_1_1
      have bx1_2_2 := (hb2.cell (p := ⟨w.heap.size + 1, 2, none⟩) (show w.heap.size + 1 < _ by omega)).trans bx1_2_1
      clear bx1_2_1
      have bx1_3_2 := (hb2.cell (p := ⟨w.heap.size + 1, 3, none⟩) (show w.heap.size + 1 < _ by omega)).trans bx1_3_1
      clear bx1_3_1
      have bx1_4_2 := (hb2.cell (p := ⟨w.heap.size + 1, 4, none⟩) (show w.heap.size + 1 < _ by omega)).trans bx1_4_1
      clear bx1_4_1
      have bx1_5_2 := (hb2.cell (p := ⟨w.heap.size + 1, 5, none⟩) (show w.heap.size + 1 < _ by omega)).trans bx1_5_1
      clear bx1_5_1
      have bx1_6_2 := (hb2.cell (p := ⟨w.heap.size + 1, 6, none⟩) (show w.heap.size + 1 < _ by omega)).trans bx1_6_1
      clear bx1_6_1
      have bx1_7_2 := (hb2.cell (p := ⟨w.heap.size + 1, 7, none⟩) (show w.heap.size + 1 < _ by omega)).trans bx1_7_1
      clear bx1_7_1
      have bx1_8_2 := (hb2.cell (p := ⟨w.heap.size + 1, 8, none⟩) (show w.heap.size + 1 < _ by omega)).trans bx1_8_1
      clear bx1_8_1
      have h0_2 := h0_1.below (hb2.mono (by omega))
      clear h0_1
      have h1_2 := h1_1.below (hb2.mono (by omega))
      clear h1_1
      have m0 : n0 ≤ 1048576 := by unfold szCraneS at hs0; omega
      have r0 := Lib.hid (crows_le (show (tot Crane.sz xs0 : Nat) ≤ 1048576 by unfold szCraneS at hs0; omega))
      have m1 : a1.r.n ≤ 1048576 := by unfold Lift.sz at hs1; omega
      go_wp2_with fail
      have hb3 : Below w2.heap.size w2 w2.drew := (Below.refl _ _).drew
      have B3 := bel2 B2 hb3
      have S3 := hb3.size
      have bx0_0_3 := (hb3.cell (p := ⟨w.heap.size, 0, none⟩) (show w.heap.size < _ by omega)).trans bx0_0_2
      clear bx0_0_2
      have bx1_0_3 := (hb3.cell (p := ⟨w.heap.size + 1, 0, none⟩) (show w.heap.size + 1 < _ by omega)).trans bx1_0_2
      clear bx1_0_2
      have bx1_1_3 := (hb3.cell (p := ⟨w.heap.size + 1, 1, none⟩) (show w.heap.size + 1 < _ by omega)).trans bx1_1_2
      clear bx1_1_2
      have bx1_2_3 := (hb3.cell (p := ⟨w.heap.size + 1, 2, none⟩) (show w.heap.size + 1 < _ by omega)).trans bx1_2_2
      clear bx1_2_2
      have bx1_3_3 := (hb3.cell (p := ⟨w.heap.size + 1, 3, none⟩) (show w.heap.size + 1 < _ by omega)).trans bx1_3_2
      clear bx1_3_2
      have bx1_4_3 := (hb3.cell (p := ⟨w.heap.size + 1, 4, none⟩) (show w.heap.size + 1 < _ by omega)).trans bx1_4_2
      clear bx1_4_2
      have bx1_5_3 := (hb3.cell (p := ⟨w.heap.size + 1, 5, none⟩) (show w.heap.size + 1 < _ by omega)).trans bx1_5_2
      clear bx1_5_2
      have bx1_6_3 := (hb3.cell (p := ⟨w.heap.size + 1, 6, none⟩) (show w.heap.size + 1 < _ by omega)).trans bx1_6_2
      clear bx1_6_2
      have bx1_7_3 := (hb3.cell (p := ⟨w.heap.size + 1, 7, none⟩) (show w.heap.size + 1 < _ by omega)).trans bx1_7_2
      clear bx1_7_2
      have bx1_8_3 := (hb3.cell (p := ⟨w.heap.size + 1, 8, none⟩) (show w.heap.size + 1 < _ by omega)).trans bx1_8_2
      clear bx1_8_2
      have h0_3 := h0_2.below (hb3.mono (by omega))
      clear h0_2
      have h1_3 := h1_2.below (hb3.mono (by omega))
      clear h1_2
      go_region_held3 (fun w' => w'.cell? ⟨w.heap.size, 0, none⟩ = some (.slice A0 n0 c0) ∧ w'.cell? ⟨w.heap.size + 1, 0, none⟩ = some (.string a1.v.name) ∧ w'.cell? ⟨w.heap.size + 1, 1, none⟩ = some (.int .i64 a1.v.weight) ∧ w'.cell? ⟨w.heap.size + 1, 2, none⟩ = some (.int .i64 a1.v.fx) ∧ w'.cell? ⟨w.heap.size + 1, 3, none⟩ = some (.int .i64 a1.v.fy) ∧ w'.cell? ⟨w.heap.size + 1, 4, none⟩ = some (.int .i64 a1.v.tx) ∧ w'.cell? ⟨w.heap.size + 1, 5, none⟩ = some (.int .i64 a1.v.ty) ∧ w'.cell? ⟨w.heap.size + 1, 6, none⟩ = some (.int .i64 a1.v.height) ∧ w'.cell? ⟨w.heap.size + 1, 7, none⟩ = some (.int .i64 a1.v.deadline) ∧ w'.cell? ⟨w.heap.size + 1, 8, none⟩ = some (.slice a1.r.a a1.r.n a1.r.cap)) (first | exact ⟨bx0_0_3, bx1_0_3, bx1_1_3, bx1_2_3, bx1_3_3, bx1_4_3, bx1_5_3, bx1_6_3, bx1_7_3, bx1_8_3⟩ | exact ⟨bx0_0_4, bx1_0_4, bx1_1_4, bx1_2_4, bx1_3_4, bx1_4_4, bx1_5_4, bx1_6_4, bx1_7_4, bx1_8_4⟩ | exact ⟨bx0_0_5, bx1_0_5, bx1_1_5, bx1_2_5, bx1_3_5, bx1_4_5, bx1_5_5, bx1_6_5, bx1_7_5, bx1_8_5⟩ | exact ⟨bx0_0_6, bx1_0_6, bx1_1_6, bx1_2_6, bx1_3_6, bx1_4_6, bx1_5_6, bx1_6_6, bx1_7_6, bx1_8_6⟩ | go_keep) ((first | (go_at_call 17; refine (toSite_any ⟨A0, n0, c0, xs0⟩ _ _ (h0_3.more (by omega)) m0 r0.out).mono ?_; rintro e w4 ⟨g4, y4, rfl, v4, o4, hb4⟩; dsimp only at v4 o4; have B4 := bel2 B3 hb4; have S4 := hb4.size; have bx0_0_4 := (hb4.cell (p := ⟨w.heap.size, 0, none⟩) (show w.heap.size < _ by omega)).trans bx0_0_3; have bx1_0_4 := (hb4.cell (p := ⟨w.heap.size + 1, 0, none⟩) (show w.heap.size + 1 < _ by omega)).trans bx1_0_3; have bx1_1_4 := (hb4.cell (p := ⟨w.heap.size + 1, 1, none⟩) (show w.heap.size + 1 < _ by omega)).trans bx1_1_3; have bx1_2_4 := (hb4.cell (p := ⟨w.heap.size + 1, 2, none⟩) (show w.heap.size + 1 < _ by omega)).trans bx1_2_3; have bx1_3_4 := (hb4.cell (p := ⟨w.heap.size + 1, 3, none⟩) (show w.heap.size + 1 < _ by omega)).trans bx1_3_3; have bx1_4_4 := (hb4.cell (p := ⟨w.heap.size + 1, 4, none⟩) (show w.heap.size + 1 < _ by omega)).trans bx1_4_3; have bx1_5_4 := (hb4.cell (p := ⟨w.heap.size + 1, 5, none⟩) (show w.heap.size + 1 < _ by omega)).trans bx1_5_3; have bx1_6_4 := (hb4.cell (p := ⟨w.heap.size + 1, 6, none⟩) (show w.heap.size + 1 < _ by omega)).trans bx1_6_3; have bx1_7_4 := (hb4.cell (p := ⟨w.heap.size + 1, 7, none⟩) (show w.heap.size + 1 < _ by omega)).trans bx1_7_3; have bx1_8_4 := (hb4.cell (p := ⟨w.heap.size + 1, 8, none⟩) (show w.heap.size + 1 < _ by omega)).trans bx1_8_3; have h0_4 := h0_3.below (hb4.mono (by omega)); have h1_4 := h1_3.below (hb4.mono (by omega)); have t4 := o4; have V4 := Lib.hid v4; have L4 := Lib.hid (crows_len (t4.arr Crane.cs_len ChartStep.cs_len)); have F4 := Lib.hid (crecs_wf V4.out L4.out l0.out wf0); have R4 := Lib.hid (crecs_rn V4.out L4.out l0.out r0.out)) | (go_at_call 18; refine (toLift_any a1 _ _ (h1_4.more (by omega)) m1).mono ?_; rintro e w5 ⟨g5, rfl, o5, hb5⟩; have B5 := bel2 B4 hb5; have S5 := hb5.size; have bx0_0_5 := (hb5.cell (p := ⟨w.heap.size, 0, none⟩) (show w.heap.size < _ by omega)).trans bx0_0_4; have bx1_0_5 := (hb5.cell (p := ⟨w.heap.size + 1, 0, none⟩) (show w.heap.size + 1 < _ by omega)).trans bx1_0_4; have bx1_1_5 := (hb5.cell (p := ⟨w.heap.size + 1, 1, none⟩) (show w.heap.size + 1 < _ by omega)).trans bx1_1_4; have bx1_2_5 := (hb5.cell (p := ⟨w.heap.size + 1, 2, none⟩) (show w.heap.size + 1 < _ by omega)).trans bx1_2_4; have bx1_3_5 := (hb5.cell (p := ⟨w.heap.size + 1, 3, none⟩) (show w.heap.size + 1 < _ by omega)).trans bx1_3_4; have bx1_4_5 := (hb5.cell (p := ⟨w.heap.size + 1, 4, none⟩) (show w.heap.size + 1 < _ by omega)).trans bx1_4_4; have bx1_5_5 := (hb5.cell (p := ⟨w.heap.size + 1, 5, none⟩) (show w.heap.size + 1 < _ by omega)).trans bx1_5_4; have bx1_6_5 := (hb5.cell (p := ⟨w.heap.size + 1, 6, none⟩) (show w.heap.size + 1 < _ by omega)).trans bx1_6_4; have bx1_7_5 := (hb5.cell (p := ⟨w.heap.size + 1, 7, none⟩) (show w.heap.size + 1 < _ by omega)).trans bx1_7_4; have bx1_8_5 := (hb5.cell (p := ⟨w.heap.size + 1, 8, none⟩) (show w.heap.size + 1 < _ by omega)).trans bx1_8_4; have h0_5 := h0_4.below (hb5.mono (by omega)); have h1_5 := h1_4.below (hb5.mono (by omega)); have t4_5 := t4.bel hb5; have t5 := o5) | (go_at_call 27; refine (specBestCrane_any (⟨some ⟨g4, 0, none⟩, n0, n0, y4⟩ : Row Crane) (xs0.map Crane.val) V4.out (⟨a1.v, ⟨some ⟨g5, 0, none⟩, a1.r.n, a1.r.n, a1.r.xs⟩⟩ : Lift) _ _ ((t4_5.arr Crane.cs_len ChartStep.cs_len).more (by omega)) (Nat.le_refl _) m0 F4.out hj1).mono ?_; rintro e w6 ⟨rfl, hb6⟩; have B6 := bel2 B5 hb6; have S6 := hb6.size; have bx0_0_6 := (hb6.cell (p := ⟨w.heap.size, 0, none⟩) (show w.heap.size < _ by omega)).trans bx0_0_5; have bx1_0_6 := (hb6.cell (p := ⟨w.heap.size + 1, 0, none⟩) (show w.heap.size + 1 < _ by omega)).trans bx1_0_5; have bx1_1_6 := (hb6.cell (p := ⟨w.heap.size + 1, 1, none⟩) (show w.heap.size + 1 < _ by omega)).trans bx1_1_5; have bx1_2_6 := (hb6.cell (p := ⟨w.heap.size + 1, 2, none⟩) (show w.heap.size + 1 < _ by omega)).trans bx1_2_5; have bx1_3_6 := (hb6.cell (p := ⟨w.heap.size + 1, 3, none⟩) (show w.heap.size + 1 < _ by omega)).trans bx1_3_5; have bx1_4_6 := (hb6.cell (p := ⟨w.heap.size + 1, 4, none⟩) (show w.heap.size + 1 < _ by omega)).trans bx1_4_5; have bx1_5_6 := (hb6.cell (p := ⟨w.heap.size + 1, 5, none⟩) (show w.heap.size + 1 < _ by omega)).trans bx1_5_5; have bx1_6_6 := (hb6.cell (p := ⟨w.heap.size + 1, 6, none⟩) (show w.heap.size + 1 < _ by omega)).trans bx1_6_5; have bx1_7_6 := (hb6.cell (p := ⟨w.heap.size + 1, 7, none⟩) (show w.heap.size + 1 < _ by omega)).trans bx1_7_5; have bx1_8_6 := (hb6.cell (p := ⟨w.heap.size + 1, 8, none⟩) (show w.heap.size + 1 < _ by omega)).trans bx1_8_5; have h0_6 := h0_5.below (hb6.mono (by omega)); have h1_6 := h1_5.below (hb6.mono (by omega)); have t4_6 := t4_5.bel hb6; have t5_6 := t5.bel hb6)))
      clear bx0_0_3 bx1_0_3 bx1_1_3 bx1_2_3 bx1_3_3 bx1_4_3 bx1_5_3 bx1_6_3 bx1_7_3 bx1_8_3 h0_3 h1_3 o4 v4 bx0_0_4 bx1_0_4 bx1_1_4 bx1_2_4 bx1_3_4 bx1_4_4 bx1_5_4 bx1_6_4 bx1_7_4 bx1_8_4 h0_4 h1_4 t4 o5 bx0_0_5 bx1_0_5 bx1_1_5 bx1_2_5 bx1_3_5 bx1_4_5 bx1_5_5 bx1_6_5 bx1_7_5 bx1_8_5 h0_5 h1_5 t4_5 t5
      go_wp2_with fail
      refine (toSite_any ⟨A0, n0, c0, xs0⟩ _ _ (h0_6.more (by omega)) m0 r0.out).mono ?_
      rintro e w7 ⟨g7, y7, rfl, v7, o7, hb7⟩
      dsimp only at v7 o7
      have B7 := bel2 B6 hb7
      have S7 := hb7.size
      have bx0_0_7 := (hb7.cell (p := ⟨w.heap.size, 0, none⟩) (show w.heap.size < _ by omega)).trans bx0_0_6
      clear bx0_0_6
      have bx1_0_7 := (hb7.cell (p := ⟨w.heap.size + 1, 0, none⟩) (show w.heap.size + 1 < _ by omega)).trans bx1_0_6
      clear bx1_0_6
      have bx1_1_7 := (hb7.cell (p := ⟨w.heap.size + 1, 1, none⟩) (show w.heap.size + 1 < _ by omega)).trans bx1_1_6
      clear bx1_1_6
      have bx1_2_7 := (hb7.cell (p := ⟨w.heap.size + 1, 2, none⟩) (show w.heap.size + 1 < _ by omega)).trans bx1_2_6
      clear bx1_2_6
      have bx1_3_7 := (hb7.cell (p := ⟨w.heap.size + 1, 3, none⟩) (show w.heap.size + 1 < _ by omega)).trans bx1_3_6
      clear bx1_3_6
      have bx1_4_7 := (hb7.cell (p := ⟨w.heap.size + 1, 4, none⟩) (show w.heap.size + 1 < _ by omega)).trans bx1_4_6
      clear bx1_4_6
      have bx1_5_7 := (hb7.cell (p := ⟨w.heap.size + 1, 5, none⟩) (show w.heap.size + 1 < _ by omega)).trans bx1_5_6
      clear bx1_5_6
      have bx1_6_7 := (hb7.cell (p := ⟨w.heap.size + 1, 6, none⟩) (show w.heap.size + 1 < _ by omega)).trans bx1_6_6
      clear bx1_6_6
      have bx1_7_7 := (hb7.cell (p := ⟨w.heap.size + 1, 7, none⟩) (show w.heap.size + 1 < _ by omega)).trans bx1_7_6
      clear bx1_7_6
      have bx1_8_7 := (hb7.cell (p := ⟨w.heap.size + 1, 8, none⟩) (show w.heap.size + 1 < _ by omega)).trans bx1_8_6
      clear bx1_8_6
      have h0_7 := h0_6.below (hb7.mono (by omega))
      clear h0_6
      have h1_7 := h1_6.below (hb7.mono (by omega))
      clear h1_6
      clear t4_6
      clear t5_6
      have t7 := o7
      clear o7
      have V7 := Lib.hid v7
      clear v7
      have L7 := Lib.hid (crows_len (t7.arr Crane.cs_len ChartStep.cs_len))
      have F7 := Lib.hid (crecs_wf V7.out L7.out l0.out wf0)
      have R7 := Lib.hid (crecs_rn V7.out L7.out l0.out r0.out)
      have SX8_0 : w.heap.size < w7.heap.size := by omega
      have SX8_1 : w.heap.size + 1 < w7.heap.size := by omega
      go_wp2_with fail
      obtain ⟨w8, hw8⟩ : ∃ W : World, W = w7.alloc (.cells #[.slice (some ⟨g7, 0, none⟩) n0 n0] 36) := ⟨_, rfl⟩
      have hb8 : Below w7.heap.size w7 w8 := by rw [hw8]; exact (Below.refl _ _).alloc (Nat.le_refl _) _
      have SB8 : w7.heap.size < w8.heap.size := by rw [hw8]; simp
      have xb0_0 : w8.cell? ⟨w7.heap.size, 0, none⟩ = some (.slice (some ⟨g7, 0, none⟩) n0 n0) := by rw [hw8]; simp
      rw [← hw8]
      clear hw8
      have B8 := bel2 B7 hb8
      have S8 := hb8.size
      have bx0_0_8 := (hb8.cell (p := ⟨w.heap.size, 0, none⟩) (show w.heap.size < _ by omega)).trans bx0_0_7
      clear bx0_0_7
      have bx1_0_8 := (hb8.cell (p := ⟨w.heap.size + 1, 0, none⟩) (show w.heap.size + 1 < _ by omega)).trans bx1_0_7
      clear bx1_0_7
      have bx1_1_8 := (hb8.cell (p := ⟨w.heap.size + 1, 1, none⟩) (show w.heap.size + 1 < _ by omega)).trans bx1_1_7
      clear bx1_1_7
      have bx1_2_8 := (hb8.cell (p := ⟨w.heap.size + 1, 2, none⟩) (show w.heap.size + 1 < _ by omega)).trans bx1_2_7
      clear bx1_2_7
      have bx1_3_8 := (hb8.cell (p := ⟨w.heap.size + 1, 3, none⟩) (show w.heap.size + 1 < _ by omega)).trans bx1_3_7
      clear bx1_3_7
      have bx1_4_8 := (hb8.cell (p := ⟨w.heap.size + 1, 4, none⟩) (show w.heap.size + 1 < _ by omega)).trans bx1_4_7
      clear bx1_4_7
      have bx1_5_8 := (hb8.cell (p := ⟨w.heap.size + 1, 5, none⟩) (show w.heap.size + 1 < _ by omega)).trans bx1_5_7
      clear bx1_5_7
      have bx1_6_8 := (hb8.cell (p := ⟨w.heap.size + 1, 6, none⟩) (show w.heap.size + 1 < _ by omega)).trans bx1_6_7
      clear bx1_6_7
      have bx1_7_8 := (hb8.cell (p := ⟨w.heap.size + 1, 7, none⟩) (show w.heap.size + 1 < _ by omega)).trans bx1_7_7
      clear bx1_7_7
      have bx1_8_8 := (hb8.cell (p := ⟨w.heap.size + 1, 8, none⟩) (show w.heap.size + 1 < _ by omega)).trans bx1_8_7
      clear bx1_8_7
      have h0_8 := h0_7.below (hb8.mono (by omega))
      clear h0_7
      have h1_8 := h1_7.below (hb8.mono (by omega))
      clear h1_7
      have t7_8 := t7.bel hb8
      clear t7
      go_wp2_with fail
      refine (toLift_any a1 _ _ (h1_8.more (by omega)) m1).mono ?_
      rintro e w9 ⟨g9, rfl, o9, hb9⟩
      have B9 := bel2 B8 hb9
      have S9 := hb9.size
      have bx0_0_9 := (hb9.cell (p := ⟨w.heap.size, 0, none⟩) (show w.heap.size < _ by omega)).trans bx0_0_8
      clear bx0_0_8
      have bx1_0_9 := (hb9.cell (p := ⟨w.heap.size + 1, 0, none⟩) (show w.heap.size + 1 < _ by omega)).trans bx1_0_8
      clear bx1_0_8
      have bx1_1_9 := (hb9.cell (p := ⟨w.heap.size + 1, 1, none⟩) (show w.heap.size + 1 < _ by omega)).trans bx1_1_8
      clear bx1_1_8
      have bx1_2_9 := (hb9.cell (p := ⟨w.heap.size + 1, 2, none⟩) (show w.heap.size + 1 < _ by omega)).trans bx1_2_8
      clear bx1_2_8
      have bx1_3_9 := (hb9.cell (p := ⟨w.heap.size + 1, 3, none⟩) (show w.heap.size + 1 < _ by omega)).trans bx1_3_8
      clear bx1_3_8
      have bx1_4_9 := (hb9.cell (p := ⟨w.heap.size + 1, 4, none⟩) (show w.heap.size + 1 < _ by omega)).trans bx1_4_8
      clear bx1_4_8
      have bx1_5_9 := (hb9.cell (p := ⟨w.heap.size + 1, 5, none⟩) (show w.heap.size + 1 < _ by omega)).trans bx1_5_8
      clear bx1_5_8
      have bx1_6_9 := (hb9.cell (p := ⟨w.heap.size + 1, 6, none⟩) (show w.heap.size + 1 < _ by omega)).trans bx1_6_8
      clear bx1_6_8
      have bx1_7_9 := (hb9.cell (p := ⟨w.heap.size + 1, 7, none⟩) (show w.heap.size + 1 < _ by omega)).trans bx1_7_8
      clear bx1_7_8
      have bx1_8_9 := (hb9.cell (p := ⟨w.heap.size + 1, 8, none⟩) (show w.heap.size + 1 < _ by omega)).trans bx1_8_8
      clear bx1_8_8
      have xb0_0_9 := (hb9.cell (p := ⟨w7.heap.size, 0, none⟩) (show w7.heap.size < _ by omega)).trans xb0_0
      clear xb0_0
      have h0_9 := h0_8.below (hb9.mono (by omega))
      clear h0_8
      have h1_9 := h1_8.below (hb9.mono (by omega))
      clear h1_8
      have t7_9 := t7_8.bel hb9
      clear t7_8
      have t9 := o9
      clear o9
      have SX10_0 : w.heap.size < w9.heap.size := by omega
      have SX10_1 : w.heap.size + 1 < w9.heap.size := by omega
      have SX10_2 : w7.heap.size < w9.heap.size := by omega
      go_wp2_with fail
      obtain ⟨w10, hw10⟩ : ∃ W : World, W = w9.alloc (.cells #[.string a1.v.name, .int .i64 a1.v.weight, .int .i64 a1.v.fx, .int .i64 a1.v.fy, .int .i64 a1.v.tx, .int .i64 a1.v.ty, .int .i64 a1.v.height, .int .i64 a1.v.deadline, .slice (some ⟨g9, 0, none⟩) a1.r.n a1.r.n] 40) := ⟨_, rfl⟩
      have hb10 : Below w9.heap.size w9 w10 := by rw [hw10]; exact (Below.refl _ _).alloc (Nat.le_refl _) _
      have SB10 : w9.heap.size < w10.heap.size := by rw [hw10]; simp
      have xb1_0 : w10.cell? ⟨w9.heap.size, 0, none⟩ = some (.string a1.v.name) := by rw [hw10]; simp
      have xb1_1 : w10.cell? ⟨w9.heap.size, 1, none⟩ = some (.int .i64 a1.v.weight) := by rw [hw10]; simp
      have xb1_2 : w10.cell? ⟨w9.heap.size, 2, none⟩ = some (.int .i64 a1.v.fx) := by rw [hw10]; simp
      have xb1_3 : w10.cell? ⟨w9.heap.size, 3, none⟩ = some (.int .i64 a1.v.fy) := by rw [hw10]; simp
      have xb1_4 : w10.cell? ⟨w9.heap.size, 4, none⟩ = some (.int .i64 a1.v.tx) := by rw [hw10]; simp
      have xb1_5 : w10.cell? ⟨w9.heap.size, 5, none⟩ = some (.int .i64 a1.v.ty) := by rw [hw10]; simp
      have xb1_6 : w10.cell? ⟨w9.heap.size, 6, none⟩ = some (.int .i64 a1.v.height) := by rw [hw10]; simp
      have xb1_7 : w10.cell? ⟨w9.heap.size, 7, none⟩ = some (.int .i64 a1.v.deadline) := by rw [hw10]; simp
      have xb1_8 : w10.cell? ⟨w9.heap.size, 8, none⟩ = some (.slice (some ⟨g9, 0, none⟩) a1.r.n a1.r.n) := by rw [hw10]; simp
      rw [← hw10]
      clear hw10
      have B10 := bel2 B9 hb10
      have S10 := hb10.size
      have bx0_0_10 := (hb10.cell (p := ⟨w.heap.size, 0, none⟩) (show w.heap.size < _ by omega)).trans bx0_0_9
      clear bx0_0_9
      have bx1_0_10 := (hb10.cell (p := ⟨w.heap.size + 1, 0, none⟩) (show w.heap.size + 1 < _ by omega)).trans bx1_0_9
      clear bx1_0_9
      have bx1_1_10 := (hb10.cell (p := ⟨w.heap.size + 1, 1, none⟩) (show w.heap.size + 1 < _ by omega)).trans bx1_1_9
      clear bx1_1_9
      have bx1_2_10 := (hb10.cell (p := ⟨w.heap.size + 1, 2, none⟩) (show w.heap.size + 1 < _ by omega)).trans bx1_2_9
      clear bx1_2_9
      have bx1_3_10 := (hb10.cell (p := ⟨w.heap.size + 1, 3, none⟩) (show w.heap.size + 1 < _ by omega)).trans bx1_3_9
      clear bx1_3_9
      have bx1_4_10 := (hb10.cell (p := ⟨w.heap.size + 1, 4, none⟩) (show w.heap.size + 1 < _ by omega)).trans bx1_4_9
      clear bx1_4_9
      have bx1_5_10 := (hb10.cell (p := ⟨w.heap.size + 1, 5, none⟩) (show w.heap.size + 1 < _ by omega)).trans bx1_5_9
      clear bx1_5_9
      have bx1_6_10 := (hb10.cell (p := ⟨w.heap.size + 1, 6, none⟩) (show w.heap.size + 1 < _ by omega)).trans bx1_6_9
      clear bx1_6_9
      have bx1_7_10 := (hb10.cell (p := ⟨w.heap.size + 1, 7, none⟩) (show w.heap.size + 1 < _ by omega)).trans bx1_7_9
      clear bx1_7_9
      have bx1_8_10 := (hb10.cell (p := ⟨w.heap.size + 1, 8, none⟩) (show w.heap.size + 1 < _ by omega)).trans bx1_8_9
      clear bx1_8_9
      have xb0_0_10 := (hb10.cell (p := ⟨w7.heap.size, 0, none⟩) (show w7.heap.size < _ by omega)).trans xb0_0_9
      clear xb0_0_9
      have h0_10 := h0_9.below (hb10.mono (by omega))
      clear h0_9
      have h1_10 := h1_9.below (hb10.mono (by omega))
      clear h1_9
      have t7_10 := t7_9.bel hb10
      clear t7_9
      have t9_10 := t9.bel hb10
      clear t9
      go_wp2_with fail
      refine (bestCrane_any (⟨some ⟨g7, 0, none⟩, n0, n0, y7⟩ : Row Crane) (xs0.map Crane.val) V7.out (⟨a1.v, ⟨some ⟨g9, 0, none⟩, a1.r.n, a1.r.n, a1.r.xs⟩⟩ : Lift) _ _ ((t7_10.arr Crane.cs_len ChartStep.cs_len).more (by omega)) (Nat.le_refl _) m0 F7.out hj1).mono ?_
      rintro e w11 ⟨rfl, hb11⟩
      have B11 := bel2 B10 hb11
      have S11 := hb11.size
      have bx0_0_11 := (hb11.cell (p := ⟨w.heap.size, 0, none⟩) (show w.heap.size < _ by omega)).trans bx0_0_10
      clear bx0_0_10
      have bx1_0_11 := (hb11.cell (p := ⟨w.heap.size + 1, 0, none⟩) (show w.heap.size + 1 < _ by omega)).trans bx1_0_10
      clear bx1_0_10
      have bx1_1_11 := (hb11.cell (p := ⟨w.heap.size + 1, 1, none⟩) (show w.heap.size + 1 < _ by omega)).trans bx1_1_10
      clear bx1_1_10
      have bx1_2_11 := (hb11.cell (p := ⟨w.heap.size + 1, 2, none⟩) (show w.heap.size + 1 < _ by omega)).trans bx1_2_10
      clear bx1_2_10
      have bx1_3_11 := (hb11.cell (p := ⟨w.heap.size + 1, 3, none⟩) (show w.heap.size + 1 < _ by omega)).trans bx1_3_10
      clear bx1_3_10
      have bx1_4_11 := (hb11.cell (p := ⟨w.heap.size + 1, 4, none⟩) (show w.heap.size + 1 < _ by omega)).trans bx1_4_10
      clear bx1_4_10
      have bx1_5_11 := (hb11.cell (p := ⟨w.heap.size + 1, 5, none⟩) (show w.heap.size + 1 < _ by omega)).trans bx1_5_10
      clear bx1_5_10
      have bx1_6_11 := (hb11.cell (p := ⟨w.heap.size + 1, 6, none⟩) (show w.heap.size + 1 < _ by omega)).trans bx1_6_10
      clear bx1_6_10
      have bx1_7_11 := (hb11.cell (p := ⟨w.heap.size + 1, 7, none⟩) (show w.heap.size + 1 < _ by omega)).trans bx1_7_10
      clear bx1_7_10
      have bx1_8_11 := (hb11.cell (p := ⟨w.heap.size + 1, 8, none⟩) (show w.heap.size + 1 < _ by omega)).trans bx1_8_10
      clear bx1_8_10
      have xb0_0_11 := (hb11.cell (p := ⟨w7.heap.size, 0, none⟩) (show w7.heap.size < _ by omega)).trans xb0_0_10
      clear xb0_0_10
      have xb1_0_11 := (hb11.cell (p := ⟨w9.heap.size, 0, none⟩) (show w9.heap.size < _ by omega)).trans xb1_0
      clear xb1_0
      have xb1_1_11 := (hb11.cell (p := ⟨w9.heap.size, 1, none⟩) (show w9.heap.size < _ by omega)).trans xb1_1
      clear xb1_1
      have xb1_2_11 := (hb11.cell (p := ⟨w9.heap.size, 2, none⟩) (show w9.heap.size < _ by omega)).trans xb1_2
      clear xb1_2
      have xb1_3_11 := (hb11.cell (p := ⟨w9.heap.size, 3, none⟩) (show w9.heap.size < _ by omega)).trans xb1_3
      clear xb1_3
      have xb1_4_11 := (hb11.cell (p := ⟨w9.heap.size, 4, none⟩) (show w9.heap.size < _ by omega)).trans xb1_4
      clear xb1_4
      have xb1_5_11 := (hb11.cell (p := ⟨w9.heap.size, 5, none⟩) (show w9.heap.size < _ by omega)).trans xb1_5
      clear xb1_5
      have xb1_6_11 := (hb11.cell (p := ⟨w9.heap.size, 6, none⟩) (show w9.heap.size < _ by omega)).trans xb1_6
      clear xb1_6
      have xb1_7_11 := (hb11.cell (p := ⟨w9.heap.size, 7, none⟩) (show w9.heap.size < _ by omega)).trans xb1_7
      clear xb1_7
      have xb1_8_11 := (hb11.cell (p := ⟨w9.heap.size, 8, none⟩) (show w9.heap.size < _ by omega)).trans xb1_8
      clear xb1_8
      have h0_11 := h0_10.below (hb11.mono (by omega))
      clear h0_10
      have h1_11 := h1_10.below (hb11.mono (by omega))
      clear h1_10
      have t7_11 := t7_10.bel hb11
      clear t7_10
      have t9_11 := t9_10.bel hb11
      clear t9_10
      go_wp2_with fail
      have hb12 : Below w11.heap.size w11 w11.drew := (Below.refl _ _).drew
      have B12 := bel2 B11 hb12
      have S12 := hb12.size
      have bx0_0_12 := (hb12.cell (p := ⟨w.heap.size, 0, none⟩) (show w.heap.size < _ by omega)).trans bx0_0_11
      clear bx0_0_11
      have bx1_0_12 := (hb12.cell (p := ⟨w.heap.size + 1, 0, none⟩) (show w.heap.size + 1 < _ by omega)).trans bx1_0_11
      clear bx1_0_11
      have bx1_1_12 := (hb12.cell (p := ⟨w.heap.size + 1, 1, none⟩) (show w.heap.size + 1 < _ by omega)).trans bx1_1_11
      clear bx1_1_11
      have bx1_2_12 := (hb12.cell (p := ⟨w.heap.size + 1, 2, none⟩) (show w.heap.size + 1 < _ by omega)).trans bx1_2_11
      clear bx1_2_11
      have bx1_3_12 := (hb12.cell (p := ⟨w.heap.size + 1, 3, none⟩) (show w.heap.size + 1 < _ by omega)).trans bx1_3_11
      clear bx1_3_11
      have bx1_4_12 := (hb12.cell (p := ⟨w.heap.size + 1, 4, none⟩) (show w.heap.size + 1 < _ by omega)).trans bx1_4_11
      clear bx1_4_11
      have bx1_5_12 := (hb12.cell (p := ⟨w.heap.size + 1, 5, none⟩) (show w.heap.size + 1 < _ by omega)).trans bx1_5_11
      clear bx1_5_11
      have bx1_6_12 := (hb12.cell (p := ⟨w.heap.size + 1, 6, none⟩) (show w.heap.size + 1 < _ by omega)).trans bx1_6_11
      clear bx1_6_11
      have bx1_7_12 := (hb12.cell (p := ⟨w.heap.size + 1, 7, none⟩) (show w.heap.size + 1 < _ by omega)).trans bx1_7_11
      clear bx1_7_11
      have bx1_8_12 := (hb12.cell (p := ⟨w.heap.size + 1, 8, none⟩) (show w.heap.size + 1 < _ by omega)).trans bx1_8_11
      clear bx1_8_11
      have xb0_0_12 := (hb12.cell (p := ⟨w7.heap.size, 0, none⟩) (show w7.heap.size < _ by omega)).trans xb0_0_11
      clear xb0_0_11
      have xb1_0_12 := (hb12.cell (p := ⟨w9.heap.size, 0, none⟩) (show w9.heap.size < _ by omega)).trans xb1_0_11
      clear xb1_0_11
      have xb1_1_12 := (hb12.cell (p := ⟨w9.heap.size, 1, none⟩) (show w9.heap.size < _ by omega)).trans xb1_1_11
      clear xb1_1_11
      have xb1_2_12 := (hb12.cell (p := ⟨w9.heap.size, 2, none⟩) (show w9.heap.size < _ by omega)).trans xb1_2_11
      clear xb1_2_11
      have xb1_3_12 := (hb12.cell (p := ⟨w9.heap.size, 3, none⟩) (show w9.heap.size < _ by omega)).trans xb1_3_11
      clear xb1_3_11
      have xb1_4_12 := (hb12.cell (p := ⟨w9.heap.size, 4, none⟩) (show w9.heap.size < _ by omega)).trans xb1_4_11
      clear xb1_4_11
      have xb1_5_12 := (hb12.cell (p := ⟨w9.heap.size, 5, none⟩) (show w9.heap.size < _ by omega)).trans xb1_5_11
      clear xb1_5_11
      have xb1_6_12 := (hb12.cell (p := ⟨w9.heap.size, 6, none⟩) (show w9.heap.size < _ by omega)).trans xb1_6_11
      clear xb1_6_11
      have xb1_7_12 := (hb12.cell (p := ⟨w9.heap.size, 7, none⟩) (show w9.heap.size < _ by omega)).trans xb1_7_11
      clear xb1_7_11
      have xb1_8_12 := (hb12.cell (p := ⟨w9.heap.size, 8, none⟩) (show w9.heap.size < _ by omega)).trans xb1_8_11
      clear xb1_8_11
      have h0_12 := h0_11.below (hb12.mono (by omega))
      clear h0_11
      have h1_12 := h1_11.below (hb12.mono (by omega))
      clear h1_11
      have t7_12 := t7_11.bel hb12
      clear t7_11
      have t9_12 := t9_11.bel hb12
      clear t9_11
      go_region_held3 (fun w' => w'.cell? ⟨w.heap.size, 0, none⟩ = some (.slice A0 n0 c0) ∧ w'.cell? ⟨w.heap.size + 1, 0, none⟩ = some (.string a1.v.name) ∧ w'.cell? ⟨w.heap.size + 1, 1, none⟩ = some (.int .i64 a1.v.weight) ∧ w'.cell? ⟨w.heap.size + 1, 2, none⟩ = some (.int .i64 a1.v.fx) ∧ w'.cell? ⟨w.heap.size + 1, 3, none⟩ = some (.int .i64 a1.v.fy) ∧ w'.cell? ⟨w.heap.size + 1, 4, none⟩ = some (.int .i64 a1.v.tx) ∧ w'.cell? ⟨w.heap.size + 1, 5, none⟩ = some (.int .i64 a1.v.ty) ∧ w'.cell? ⟨w.heap.size + 1, 6, none⟩ = some (.int .i64 a1.v.height) ∧ w'.cell? ⟨w.heap.size + 1, 7, none⟩ = some (.int .i64 a1.v.deadline) ∧ w'.cell? ⟨w.heap.size + 1, 8, none⟩ = some (.slice a1.r.a a1.r.n a1.r.cap) ∧ w'.cell? ⟨w7.heap.size, 0, none⟩ = some (.slice (some ⟨g7, 0, none⟩) n0 n0) ∧ w'.cell? ⟨w9.heap.size, 0, none⟩ = some (.string a1.v.name) ∧ w'.cell? ⟨w9.heap.size, 1, none⟩ = some (.int .i64 a1.v.weight) ∧ w'.cell? ⟨w9.heap.size, 2, none⟩ = some (.int .i64 a1.v.fx) ∧ w'.cell? ⟨w9.heap.size, 3, none⟩ = some (.int .i64 a1.v.fy) ∧ w'.cell? ⟨w9.heap.size, 4, none⟩ = some (.int .i64 a1.v.tx) ∧ w'.cell? ⟨w9.heap.size, 5, none⟩ = some (.int .i64 a1.v.ty) ∧ w'.cell? ⟨w9.heap.size, 6, none⟩ = some (.int .i64 a1.v.height) ∧ w'.cell? ⟨w9.heap.size, 7, none⟩ = some (.int .i64 a1.v.deadline) ∧ w'.cell? ⟨w9.heap.size, 8, none⟩ = some (.slice (some ⟨g9, 0, none⟩) a1.r.n a1.r.n)) (first | exact ⟨bx0_0_12, bx1_0_12, bx1_1_12, bx1_2_12, bx1_3_12, bx1_4_12, bx1_5_12, bx1_6_12, bx1_7_12, bx1_8_12, xb0_0_12, xb1_0_12, xb1_1_12, xb1_2_12, xb1_3_12, xb1_4_12, xb1_5_12, xb1_6_12, xb1_7_12, xb1_8_12⟩ | exact ⟨bx0_0_13, bx1_0_13, bx1_1_13, bx1_2_13, bx1_3_13, bx1_4_13, bx1_5_13, bx1_6_13, bx1_7_13, bx1_8_13, xb0_0_13, xb1_0_13, xb1_1_13, xb1_2_13, xb1_3_13, xb1_4_13, xb1_5_13, xb1_6_13, xb1_7_13, xb1_8_13⟩ | exact ⟨bx0_0_14, bx1_0_14, bx1_1_14, bx1_2_14, bx1_3_14, bx1_4_14, bx1_5_14, bx1_6_14, bx1_7_14, bx1_8_14, xb0_0_14, xb1_0_14, xb1_1_14, xb1_2_14, xb1_3_14, xb1_4_14, xb1_5_14, xb1_6_14, xb1_7_14, xb1_8_14⟩ | go_keep) ((first | (go_at_call 17; refine (toSite_any ⟨A0, n0, c0, xs0⟩ _ _ (h0_12.more (by omega)) m0 r0.out).mono ?_; rintro e w13 ⟨g13, y13, rfl, v13, o13, hb13⟩; dsimp only at v13 o13; have B13 := bel2 B12 hb13; have S13 := hb13.size; have bx0_0_13 := (hb13.cell (p := ⟨w.heap.size, 0, none⟩) (show w.heap.size < _ by omega)).trans bx0_0_12; have bx1_0_13 := (hb13.cell (p := ⟨w.heap.size + 1, 0, none⟩) (show w.heap.size + 1 < _ by omega)).trans bx1_0_12; have bx1_1_13 := (hb13.cell (p := ⟨w.heap.size + 1, 1, none⟩) (show w.heap.size + 1 < _ by omega)).trans bx1_1_12; have bx1_2_13 := (hb13.cell (p := ⟨w.heap.size + 1, 2, none⟩) (show w.heap.size + 1 < _ by omega)).trans bx1_2_12; have bx1_3_13 := (hb13.cell (p := ⟨w.heap.size + 1, 3, none⟩) (show w.heap.size + 1 < _ by omega)).trans bx1_3_12; have bx1_4_13 := (hb13.cell (p := ⟨w.heap.size + 1, 4, none⟩) (show w.heap.size + 1 < _ by omega)).trans bx1_4_12; have bx1_5_13 := (hb13.cell (p := ⟨w.heap.size + 1, 5, none⟩) (show w.heap.size + 1 < _ by omega)).trans bx1_5_12; have bx1_6_13 := (hb13.cell (p := ⟨w.heap.size + 1, 6, none⟩) (show w.heap.size + 1 < _ by omega)).trans bx1_6_12; have bx1_7_13 := (hb13.cell (p := ⟨w.heap.size + 1, 7, none⟩) (show w.heap.size + 1 < _ by omega)).trans bx1_7_12; have bx1_8_13 := (hb13.cell (p := ⟨w.heap.size + 1, 8, none⟩) (show w.heap.size + 1 < _ by omega)).trans bx1_8_12; have xb0_0_13 := (hb13.cell (p := ⟨w7.heap.size, 0, none⟩) (show w7.heap.size < _ by omega)).trans xb0_0_12; have xb1_0_13 := (hb13.cell (p := ⟨w9.heap.size, 0, none⟩) (show w9.heap.size < _ by omega)).trans xb1_0_12; have xb1_1_13 := (hb13.cell (p := ⟨w9.heap.size, 1, none⟩) (show w9.heap.size < _ by omega)).trans xb1_1_12; have xb1_2_13 := (hb13.cell (p := ⟨w9.heap.size, 2, none⟩) (show w9.heap.size < _ by omega)).trans xb1_2_12; have xb1_3_13 := (hb13.cell (p := ⟨w9.heap.size, 3, none⟩) (show w9.heap.size < _ by omega)).trans xb1_3_12; have xb1_4_13 := (hb13.cell (p := ⟨w9.heap.size, 4, none⟩) (show w9.heap.size < _ by omega)).trans xb1_4_12; have xb1_5_13 := (hb13.cell (p := ⟨w9.heap.size, 5, none⟩) (show w9.heap.size < _ by omega)).trans xb1_5_12; have xb1_6_13 := (hb13.cell (p := ⟨w9.heap.size, 6, none⟩) (show w9.heap.size < _ by omega)).trans xb1_6_12; have xb1_7_13 := (hb13.cell (p := ⟨w9.heap.size, 7, none⟩) (show w9.heap.size < _ by omega)).trans xb1_7_12; have xb1_8_13 := (hb13.cell (p := ⟨w9.heap.size, 8, none⟩) (show w9.heap.size < _ by omega)).trans xb1_8_12; have h0_13 := h0_12.below (hb13.mono (by omega)); have h1_13 := h1_12.below (hb13.mono (by omega)); have t7_13 := t7_12.bel hb13; have t9_13 := t9_12.bel hb13; have t13 := o13; have V13 := Lib.hid v13; have L13 := Lib.hid (crows_len (t13.arr Crane.cs_len ChartStep.cs_len)); have F13 := Lib.hid (crecs_wf V13.out L13.out l0.out wf0); have R13 := Lib.hid (crecs_rn V13.out L13.out l0.out r0.out)) | (go_at_call 21; refine (eqSite_same _ _ _ _ _ y7 y13 _ _ _ (V7.out.trans V13.out.symm) ((t7_13.arr Crane.cs_len ChartStep.cs_len).more (by omega)) ((t13.arr Crane.cs_len ChartStep.cs_len).more (by omega)) (by omega) (fun p hp => (F7.out p hp).n)).mono ?_; rintro e w14 ⟨rfl, hb14⟩; have B14 := bel2 B13 hb14; have S14 := hb14.size; have bx0_0_14 := (hb14.cell (p := ⟨w.heap.size, 0, none⟩) (show w.heap.size < _ by omega)).trans bx0_0_13; have bx1_0_14 := (hb14.cell (p := ⟨w.heap.size + 1, 0, none⟩) (show w.heap.size + 1 < _ by omega)).trans bx1_0_13; have bx1_1_14 := (hb14.cell (p := ⟨w.heap.size + 1, 1, none⟩) (show w.heap.size + 1 < _ by omega)).trans bx1_1_13; have bx1_2_14 := (hb14.cell (p := ⟨w.heap.size + 1, 2, none⟩) (show w.heap.size + 1 < _ by omega)).trans bx1_2_13; have bx1_3_14 := (hb14.cell (p := ⟨w.heap.size + 1, 3, none⟩) (show w.heap.size + 1 < _ by omega)).trans bx1_3_13; have bx1_4_14 := (hb14.cell (p := ⟨w.heap.size + 1, 4, none⟩) (show w.heap.size + 1 < _ by omega)).trans bx1_4_13; have bx1_5_14 := (hb14.cell (p := ⟨w.heap.size + 1, 5, none⟩) (show w.heap.size + 1 < _ by omega)).trans bx1_5_13; have bx1_6_14 := (hb14.cell (p := ⟨w.heap.size + 1, 6, none⟩) (show w.heap.size + 1 < _ by omega)).trans bx1_6_13; have bx1_7_14 := (hb14.cell (p := ⟨w.heap.size + 1, 7, none⟩) (show w.heap.size + 1 < _ by omega)).trans bx1_7_13; have bx1_8_14 := (hb14.cell (p := ⟨w.heap.size + 1, 8, none⟩) (show w.heap.size + 1 < _ by omega)).trans bx1_8_13; have xb0_0_14 := (hb14.cell (p := ⟨w7.heap.size, 0, none⟩) (show w7.heap.size < _ by omega)).trans xb0_0_13; have xb1_0_14 := (hb14.cell (p := ⟨w9.heap.size, 0, none⟩) (show w9.heap.size < _ by omega)).trans xb1_0_13; have xb1_1_14 := (hb14.cell (p := ⟨w9.heap.size, 1, none⟩) (show w9.heap.size < _ by omega)).trans xb1_1_13; have xb1_2_14 := (hb14.cell (p := ⟨w9.heap.size, 2, none⟩) (show w9.heap.size < _ by omega)).trans xb1_2_13; have xb1_3_14 := (hb14.cell (p := ⟨w9.heap.size, 3, none⟩) (show w9.heap.size < _ by omega)).trans xb1_3_13; have xb1_4_14 := (hb14.cell (p := ⟨w9.heap.size, 4, none⟩) (show w9.heap.size < _ by omega)).trans xb1_4_13; have xb1_5_14 := (hb14.cell (p := ⟨w9.heap.size, 5, none⟩) (show w9.heap.size < _ by omega)).trans xb1_5_13; have xb1_6_14 := (hb14.cell (p := ⟨w9.heap.size, 6, none⟩) (show w9.heap.size < _ by omega)).trans xb1_6_13; have xb1_7_14 := (hb14.cell (p := ⟨w9.heap.size, 7, none⟩) (show w9.heap.size < _ by omega)).trans xb1_7_13; have xb1_8_14 := (hb14.cell (p := ⟨w9.heap.size, 8, none⟩) (show w9.heap.size < _ by omega)).trans xb1_8_13; have h0_14 := h0_13.below (hb14.mono (by omega)); have h1_14 := h1_13.below (hb14.mono (by omega)); have t7_14 := t7_13.bel hb14; have t9_14 := t9_13.bel hb14)))
      clear bx0_0_12 bx1_0_12 bx1_1_12 bx1_2_12 bx1_3_12 bx1_4_12 bx1_5_12 bx1_6_12 bx1_7_12 bx1_8_12 xb0_0_12 xb1_0_12 xb1_1_12 xb1_2_12 xb1_3_12 xb1_4_12 xb1_5_12 xb1_6_12 xb1_7_12 xb1_8_12 h0_12 h1_12 t7_12 t9_12 o13 v13 bx0_0_13 bx1_0_13 bx1_1_13 bx1_2_13 bx1_3_13 bx1_4_13 bx1_5_13 bx1_6_13 bx1_7_13 bx1_8_13 xb0_0_13 xb1_0_13 xb1_1_13 xb1_2_13 xb1_3_13 xb1_4_13 xb1_5_13 xb1_6_13 xb1_7_13 xb1_8_13 h0_13 h1_13 t7_13 t9_13 t13
      go_wp2_with fail
      have hb15 : Below w14.heap.size w14 w14.drew := (Below.refl _ _).drew
      have B15 := bel2 B14 hb15
      have S15 := hb15.size
      have bx0_0_15 := (hb15.cell (p := ⟨w.heap.size, 0, none⟩) (show w.heap.size < _ by omega)).trans bx0_0_14
      clear bx0_0_14
      have bx1_0_15 := (hb15.cell (p := ⟨w.heap.size + 1, 0, none⟩) (show w.heap.size + 1 < _ by omega)).trans bx1_0_14
      clear bx1_0_14
      have bx1_1_15 := (hb15.cell (p := ⟨w.heap.size + 1, 1, none⟩) (show w.heap.size + 1 < _ by omega)).trans bx1_1_14
      clear bx1_1_14
      have bx1_2_15 := (hb15.cell (p := ⟨w.heap.size + 1, 2, none⟩) (show w.heap.size + 1 < _ by omega)).trans bx1_2_14
      clear bx1_2_14
      have bx1_3_15 := (hb15.cell (p := ⟨w.heap.size + 1, 3, none⟩) (show w.heap.size + 1 < _ by omega)).trans bx1_3_14
      clear bx1_3_14
      have bx1_4_15 := (hb15.cell (p := ⟨w.heap.size + 1, 4, none⟩) (show w.heap.size + 1 < _ by omega)).trans bx1_4_14
      clear bx1_4_14
      have bx1_5_15 := (hb15.cell (p := ⟨w.heap.size + 1, 5, none⟩) (show w.heap.size + 1 < _ by omega)).trans bx1_5_14
      clear bx1_5_14
      have bx1_6_15 := (hb15.cell (p := ⟨w.heap.size + 1, 6, none⟩) (show w.heap.size + 1 < _ by omega)).trans bx1_6_14
      clear bx1_6_14
      have bx1_7_15 := (hb15.cell (p := ⟨w.heap.size + 1, 7, none⟩) (show w.heap.size + 1 < _ by omega)).trans bx1_7_14
      clear bx1_7_14
      have bx1_8_15 := (hb15.cell (p := ⟨w.heap.size + 1, 8, none⟩) (show w.heap.size + 1 < _ by omega)).trans bx1_8_14
      clear bx1_8_14
      have xb0_0_15 := (hb15.cell (p := ⟨w7.heap.size, 0, none⟩) (show w7.heap.size < _ by omega)).trans xb0_0_14
      clear xb0_0_14
      have xb1_0_15 := (hb15.cell (p := ⟨w9.heap.size, 0, none⟩) (show w9.heap.size < _ by omega)).trans xb1_0_14
      clear xb1_0_14
      have xb1_1_15 := (hb15.cell (p := ⟨w9.heap.size, 1, none⟩) (show w9.heap.size < _ by omega)).trans xb1_1_14
      clear xb1_1_14
      have xb1_2_15 := (hb15.cell (p := ⟨w9.heap.size, 2, none⟩) (show w9.heap.size < _ by omega)).trans xb1_2_14
      clear xb1_2_14
      have xb1_3_15 := (hb15.cell (p := ⟨w9.heap.size, 3, none⟩) (show w9.heap.size < _ by omega)).trans xb1_3_14
      clear xb1_3_14
      have xb1_4_15 := (hb15.cell (p := ⟨w9.heap.size, 4, none⟩) (show w9.heap.size < _ by omega)).trans xb1_4_14
      clear xb1_4_14
      have xb1_5_15 := (hb15.cell (p := ⟨w9.heap.size, 5, none⟩) (show w9.heap.size < _ by omega)).trans xb1_5_14
      clear xb1_5_14
      have xb1_6_15 := (hb15.cell (p := ⟨w9.heap.size, 6, none⟩) (show w9.heap.size < _ by omega)).trans xb1_6_14
      clear xb1_6_14
      have xb1_7_15 := (hb15.cell (p := ⟨w9.heap.size, 7, none⟩) (show w9.heap.size < _ by omega)).trans xb1_7_14
      clear xb1_7_14
      have xb1_8_15 := (hb15.cell (p := ⟨w9.heap.size, 8, none⟩) (show w9.heap.size < _ by omega)).trans xb1_8_14
      clear xb1_8_14
      have h0_15 := h0_14.below (hb15.mono (by omega))
      clear h0_14
      have h1_15 := h1_14.below (hb15.mono (by omega))
      clear h1_14
      have t7_15 := t7_14.bel hb15
      clear t7_14
      have t9_15 := t9_14.bel hb15
      clear t9_14
      go_region_held3 (fun w' => w'.cell? ⟨w.heap.size, 0, none⟩ = some (.slice A0 n0 c0) ∧ w'.cell? ⟨w.heap.size + 1, 0, none⟩ = some (.string a1.v.name) ∧ w'.cell? ⟨w.heap.size + 1, 1, none⟩ = some (.int .i64 a1.v.weight) ∧ w'.cell? ⟨w.heap.size + 1, 2, none⟩ = some (.int .i64 a1.v.fx) ∧ w'.cell? ⟨w.heap.size + 1, 3, none⟩ = some (.int .i64 a1.v.fy) ∧ w'.cell? ⟨w.heap.size + 1, 4, none⟩ = some (.int .i64 a1.v.tx) ∧ w'.cell? ⟨w.heap.size + 1, 5, none⟩ = some (.int .i64 a1.v.ty) ∧ w'.cell? ⟨w.heap.size + 1, 6, none⟩ = some (.int .i64 a1.v.height) ∧ w'.cell? ⟨w.heap.size + 1, 7, none⟩ = some (.int .i64 a1.v.deadline) ∧ w'.cell? ⟨w.heap.size + 1, 8, none⟩ = some (.slice a1.r.a a1.r.n a1.r.cap) ∧ w'.cell? ⟨w7.heap.size, 0, none⟩ = some (.slice (some ⟨g7, 0, none⟩) n0 n0) ∧ w'.cell? ⟨w9.heap.size, 0, none⟩ = some (.string a1.v.name) ∧ w'.cell? ⟨w9.heap.size, 1, none⟩ = some (.int .i64 a1.v.weight) ∧ w'.cell? ⟨w9.heap.size, 2, none⟩ = some (.int .i64 a1.v.fx) ∧ w'.cell? ⟨w9.heap.size, 3, none⟩ = some (.int .i64 a1.v.fy) ∧ w'.cell? ⟨w9.heap.size, 4, none⟩ = some (.int .i64 a1.v.tx) ∧ w'.cell? ⟨w9.heap.size, 5, none⟩ = some (.int .i64 a1.v.ty) ∧ w'.cell? ⟨w9.heap.size, 6, none⟩ = some (.int .i64 a1.v.height) ∧ w'.cell? ⟨w9.heap.size, 7, none⟩ = some (.int .i64 a1.v.deadline) ∧ w'.cell? ⟨w9.heap.size, 8, none⟩ = some (.slice (some ⟨g9, 0, none⟩) a1.r.n a1.r.n)) (first | exact ⟨bx0_0_15, bx1_0_15, bx1_1_15, bx1_2_15, bx1_3_15, bx1_4_15, bx1_5_15, bx1_6_15, bx1_7_15, bx1_8_15, xb0_0_15, xb1_0_15, xb1_1_15, xb1_2_15, xb1_3_15, xb1_4_15, xb1_5_15, xb1_6_15, xb1_7_15, xb1_8_15⟩ | exact ⟨bx0_0_16, bx1_0_16, bx1_1_16, bx1_2_16, bx1_3_16, bx1_4_16, bx1_5_16, bx1_6_16, bx1_7_16, bx1_8_16, xb0_0_16, xb1_0_16, xb1_1_16, xb1_2_16, xb1_3_16, xb1_4_16, xb1_5_16, xb1_6_16, xb1_7_16, xb1_8_16⟩ | exact ⟨bx0_0_17, bx1_0_17, bx1_1_17, bx1_2_17, bx1_3_17, bx1_4_17, bx1_5_17, bx1_6_17, bx1_7_17, bx1_8_17, xb0_0_17, xb1_0_17, xb1_1_17, xb1_2_17, xb1_3_17, xb1_4_17, xb1_5_17, xb1_6_17, xb1_7_17, xb1_8_17⟩ | go_keep) ((first | (go_at_call 18; refine (toLift_any a1 _ _ (h1_15.more (by omega)) m1).mono ?_; rintro e w16 ⟨g16, rfl, o16, hb16⟩; have B16 := bel2 B15 hb16; have S16 := hb16.size; have bx0_0_16 := (hb16.cell (p := ⟨w.heap.size, 0, none⟩) (show w.heap.size < _ by omega)).trans bx0_0_15; have bx1_0_16 := (hb16.cell (p := ⟨w.heap.size + 1, 0, none⟩) (show w.heap.size + 1 < _ by omega)).trans bx1_0_15; have bx1_1_16 := (hb16.cell (p := ⟨w.heap.size + 1, 1, none⟩) (show w.heap.size + 1 < _ by omega)).trans bx1_1_15; have bx1_2_16 := (hb16.cell (p := ⟨w.heap.size + 1, 2, none⟩) (show w.heap.size + 1 < _ by omega)).trans bx1_2_15; have bx1_3_16 := (hb16.cell (p := ⟨w.heap.size + 1, 3, none⟩) (show w.heap.size + 1 < _ by omega)).trans bx1_3_15; have bx1_4_16 := (hb16.cell (p := ⟨w.heap.size + 1, 4, none⟩) (show w.heap.size + 1 < _ by omega)).trans bx1_4_15; have bx1_5_16 := (hb16.cell (p := ⟨w.heap.size + 1, 5, none⟩) (show w.heap.size + 1 < _ by omega)).trans bx1_5_15; have bx1_6_16 := (hb16.cell (p := ⟨w.heap.size + 1, 6, none⟩) (show w.heap.size + 1 < _ by omega)).trans bx1_6_15; have bx1_7_16 := (hb16.cell (p := ⟨w.heap.size + 1, 7, none⟩) (show w.heap.size + 1 < _ by omega)).trans bx1_7_15; have bx1_8_16 := (hb16.cell (p := ⟨w.heap.size + 1, 8, none⟩) (show w.heap.size + 1 < _ by omega)).trans bx1_8_15; have xb0_0_16 := (hb16.cell (p := ⟨w7.heap.size, 0, none⟩) (show w7.heap.size < _ by omega)).trans xb0_0_15; have xb1_0_16 := (hb16.cell (p := ⟨w9.heap.size, 0, none⟩) (show w9.heap.size < _ by omega)).trans xb1_0_15; have xb1_1_16 := (hb16.cell (p := ⟨w9.heap.size, 1, none⟩) (show w9.heap.size < _ by omega)).trans xb1_1_15; have xb1_2_16 := (hb16.cell (p := ⟨w9.heap.size, 2, none⟩) (show w9.heap.size < _ by omega)).trans xb1_2_15; have xb1_3_16 := (hb16.cell (p := ⟨w9.heap.size, 3, none⟩) (show w9.heap.size < _ by omega)).trans xb1_3_15; have xb1_4_16 := (hb16.cell (p := ⟨w9.heap.size, 4, none⟩) (show w9.heap.size < _ by omega)).trans xb1_4_15; have xb1_5_16 := (hb16.cell (p := ⟨w9.heap.size, 5, none⟩) (show w9.heap.size < _ by omega)).trans xb1_5_15; have xb1_6_16 := (hb16.cell (p := ⟨w9.heap.size, 6, none⟩) (show w9.heap.size < _ by omega)).trans xb1_6_15; have xb1_7_16 := (hb16.cell (p := ⟨w9.heap.size, 7, none⟩) (show w9.heap.size < _ by omega)).trans xb1_7_15; have xb1_8_16 := (hb16.cell (p := ⟨w9.heap.size, 8, none⟩) (show w9.heap.size < _ by omega)).trans xb1_8_15; have h0_16 := h0_15.below (hb16.mono (by omega)); have h1_16 := h1_15.below (hb16.mono (by omega)); have t7_16 := t7_15.bel hb16; have t9_16 := t9_15.bel hb16; have t16 := o16) | (go_at_call 22; refine (eqLift_same a1.v ⟨some ⟨g9, 0, none⟩, a1.r.n, a1.r.n, a1.r.xs⟩ ⟨some ⟨g16, 0, none⟩, a1.r.n, a1.r.n, a1.r.xs⟩ _ _ _ rfl ((t9_16.arr ic_len).more (by omega)) ((t16.arr ic_len).more (by omega)) (Nat.le_trans m1 (by decide))).mono ?_; rintro e w17 ⟨rfl, hb17⟩; have B17 := bel2 B16 hb17; have S17 := hb17.size; have bx0_0_17 := (hb17.cell (p := ⟨w.heap.size, 0, none⟩) (show w.heap.size < _ by omega)).trans bx0_0_16; have bx1_0_17 := (hb17.cell (p := ⟨w.heap.size + 1, 0, none⟩) (show w.heap.size + 1 < _ by omega)).trans bx1_0_16; have bx1_1_17 := (hb17.cell (p := ⟨w.heap.size + 1, 1, none⟩) (show w.heap.size + 1 < _ by omega)).trans bx1_1_16; have bx1_2_17 := (hb17.cell (p := ⟨w.heap.size + 1, 2, none⟩) (show w.heap.size + 1 < _ by omega)).trans bx1_2_16; have bx1_3_17 := (hb17.cell (p := ⟨w.heap.size + 1, 3, none⟩) (show w.heap.size + 1 < _ by omega)).trans bx1_3_16; have bx1_4_17 := (hb17.cell (p := ⟨w.heap.size + 1, 4, none⟩) (show w.heap.size + 1 < _ by omega)).trans bx1_4_16; have bx1_5_17 := (hb17.cell (p := ⟨w.heap.size + 1, 5, none⟩) (show w.heap.size + 1 < _ by omega)).trans bx1_5_16; have bx1_6_17 := (hb17.cell (p := ⟨w.heap.size + 1, 6, none⟩) (show w.heap.size + 1 < _ by omega)).trans bx1_6_16; have bx1_7_17 := (hb17.cell (p := ⟨w.heap.size + 1, 7, none⟩) (show w.heap.size + 1 < _ by omega)).trans bx1_7_16; have bx1_8_17 := (hb17.cell (p := ⟨w.heap.size + 1, 8, none⟩) (show w.heap.size + 1 < _ by omega)).trans bx1_8_16; have xb0_0_17 := (hb17.cell (p := ⟨w7.heap.size, 0, none⟩) (show w7.heap.size < _ by omega)).trans xb0_0_16; have xb1_0_17 := (hb17.cell (p := ⟨w9.heap.size, 0, none⟩) (show w9.heap.size < _ by omega)).trans xb1_0_16; have xb1_1_17 := (hb17.cell (p := ⟨w9.heap.size, 1, none⟩) (show w9.heap.size < _ by omega)).trans xb1_1_16; have xb1_2_17 := (hb17.cell (p := ⟨w9.heap.size, 2, none⟩) (show w9.heap.size < _ by omega)).trans xb1_2_16; have xb1_3_17 := (hb17.cell (p := ⟨w9.heap.size, 3, none⟩) (show w9.heap.size < _ by omega)).trans xb1_3_16; have xb1_4_17 := (hb17.cell (p := ⟨w9.heap.size, 4, none⟩) (show w9.heap.size < _ by omega)).trans xb1_4_16; have xb1_5_17 := (hb17.cell (p := ⟨w9.heap.size, 5, none⟩) (show w9.heap.size < _ by omega)).trans xb1_5_16; have xb1_6_17 := (hb17.cell (p := ⟨w9.heap.size, 6, none⟩) (show w9.heap.size < _ by omega)).trans xb1_6_16; have xb1_7_17 := (hb17.cell (p := ⟨w9.heap.size, 7, none⟩) (show w9.heap.size < _ by omega)).trans xb1_7_16; have xb1_8_17 := (hb17.cell (p := ⟨w9.heap.size, 8, none⟩) (show w9.heap.size < _ by omega)).trans xb1_8_16; have h0_17 := h0_16.below (hb17.mono (by omega)); have h1_17 := h1_16.below (hb17.mono (by omega)); have t7_17 := t7_16.bel hb17; have t9_17 := t9_16.bel hb17)))
      clear bx0_0_15 bx1_0_15 bx1_1_15 bx1_2_15 bx1_3_15 bx1_4_15 bx1_5_15 bx1_6_15 bx1_7_15 bx1_8_15 xb0_0_15 xb1_0_15 xb1_1_15 xb1_2_15 xb1_3_15 xb1_4_15 xb1_5_15 xb1_6_15 xb1_7_15 xb1_8_15 h0_15 h1_15 t7_15 t9_15 o16 bx0_0_16 bx1_0_16 bx1_1_16 bx1_2_16 bx1_3_16 bx1_4_16 bx1_5_16 bx1_6_16 bx1_7_16 bx1_8_16 xb0_0_16 xb1_0_16 xb1_1_16 xb1_2_16 xb1_3_16 xb1_4_16 xb1_5_16 xb1_6_16 xb1_7_16 xb1_8_16 h0_16 h1_16 t7_16 t9_16 t16
      go_wp2
      go_ret
      exact ⟨rfl, B17⟩
    · go_enter Try.func4, Try.ntmps4
      go_wp2_with fail
      obtain ⟨wa, hwa⟩ : ∃ W, W = (World.alloc (World.alloc w (.cells #[.slice A0 n0 c0] 24)) (.cells #[.string a1.v.name, .int .i64 a1.v.weight, .int .i64 a1.v.fx, .int .i64 a1.v.fy, .int .i64 a1.v.tx, .int .i64 a1.v.ty, .int .i64 a1.v.height, .int .i64 a1.v.deadline, .slice a1.r.a a1.r.n a1.r.cap] 29)) := ⟨_, rfl⟩
      rw [← hwa]
      have B0 : Below w.heap.size w wa := by rw [hwa]; exact ((Below.refl _ _).alloc (by simp) _).alloc (by simp) _
      have S0 : w.heap.size + 2 ≤ wa.heap.size := by rw [hwa]; simp
      have bx0_0 : wa.cell? ⟨w.heap.size, 0, none⟩ = some (.slice A0 n0 c0) := by rw [hwa]; rw [World.cell?_alloc_lt _ _ _ (by simp)]; simp
      have bx1_0 : wa.cell? ⟨w.heap.size + 1, 0, none⟩ = some (.string a1.v.name) := by rw [hwa]; simp
      have bx1_1 : wa.cell? ⟨w.heap.size + 1, 1, none⟩ = some (.int .i64 a1.v.weight) := by rw [hwa]; simp
      have bx1_2 : wa.cell? ⟨w.heap.size + 1, 2, none⟩ = some (.int .i64 a1.v.fx) := by rw [hwa]; simp
      have bx1_3 : wa.cell? ⟨w.heap.size + 1, 3, none⟩ = some (.int .i64 a1.v.fy) := by rw [hwa]; simp
      have bx1_4 : wa.cell? ⟨w.heap.size + 1, 4, none⟩ = some (.int .i64 a1.v.tx) := by rw [hwa]; simp
      have bx1_5 : wa.cell? ⟨w.heap.size + 1, 5, none⟩ = some (.int .i64 a1.v.ty) := by rw [hwa]; simp
      have bx1_6 : wa.cell? ⟨w.heap.size + 1, 6, none⟩ = some (.int .i64 a1.v.height) := by rw [hwa]; simp
      have bx1_7 : wa.cell? ⟨w.heap.size + 1, 7, none⟩ = some (.int .i64 a1.v.deadline) := by rw [hwa]; simp
      have bx1_8 : wa.cell? ⟨w.heap.size + 1, 8, none⟩ = some (.slice a1.r.a a1.r.n a1.r.cap) := by rw [hwa]; simp
      have h0_0 := (h0.below B0).more (show w.heap.size ≤ w.heap.size from Nat.le_refl _)
      clear h0
      have h1_0 := (h1.below B0).more (show w.heap.size ≤ w.heap.size from Nat.le_refl _)
      clear h1
      clear hwa
      go_wp2_with fail
      refine (szSite_ok ⟨A0, n0, c0, xs0⟩ _ _ (h0_0.more (by omega)) hn0 wf0 (by omega) (by omega) (by omega)).mono ?_
      rintro e w1 ⟨rfl, hb1⟩
      have B1 := bel2 B0 hb1
      have S1 := hb1.size
      have bx0_0_1 := (hb1.cell (p := ⟨w.heap.size, 0, none⟩) (show w.heap.size < _ by omega)).trans bx0_0
      clear bx0_0
      have bx1_0_1 := (hb1.cell (p := ⟨w.heap.size + 1, 0, none⟩) (show w.heap.size + 1 < _ by omega)).trans bx1_0
      clear bx1_0
      have bx1_1_1 := (hb1.cell (p := ⟨w.heap.size + 1, 1, none⟩) (show w.heap.size + 1 < _ by omega)).trans bx1_1
      clear bx1_1
      have bx1_2_1 := (hb1.cell (p := ⟨w.heap.size + 1, 2, none⟩) (show w.heap.size + 1 < _ by omega)).trans bx1_2
      clear bx1_2
      have bx1_3_1 := (hb1.cell (p := ⟨w.heap.size + 1, 3, none⟩) (show w.heap.size + 1 < _ by omega)).trans bx1_3
      clear bx1_3
      have bx1_4_1 := (hb1.cell (p := ⟨w.heap.size + 1, 4, none⟩) (show w.heap.size + 1 < _ by omega)).trans bx1_4
      clear bx1_4
      have bx1_5_1 := (hb1.cell (p := ⟨w.heap.size + 1, 5, none⟩) (show w.heap.size + 1 < _ by omega)).trans bx1_5
      clear bx1_5
      have bx1_6_1 := (hb1.cell (p := ⟨w.heap.size + 1, 6, none⟩) (show w.heap.size + 1 < _ by omega)).trans bx1_6
      clear bx1_6
      have bx1_7_1 := (hb1.cell (p := ⟨w.heap.size + 1, 7, none⟩) (show w.heap.size + 1 < _ by omega)).trans bx1_7
      clear bx1_7
      have bx1_8_1 := (hb1.cell (p := ⟨w.heap.size + 1, 8, none⟩) (show w.heap.size + 1 < _ by omega)).trans bx1_8
      clear bx1_8
      have h0_1 := h0_0.below (hb1.mono (by omega))
      clear h0_0
      have h1_1 := h1_0.below (hb1.mono (by omega))
      clear h1_0
      go_wp2_with fail
      refine (szLift_no a1 _ _ wf1 (by omega) (by omega) (by omega)).mono ?_
      rintro e w2 ⟨rfl, hb2⟩
      have B2 := bel2 B1 hb2
      have S2 := hb2.size
      have bx0_0_2 := (hb2.cell (p := ⟨w.heap.size, 0, none⟩) (show w.heap.size < _ by omega)).trans bx0_0_1
      clear bx0_0_1
      have bx1_0_2 := (hb2.cell (p := ⟨w.heap.size + 1, 0, none⟩) (show w.heap.size + 1 < _ by omega)).trans bx1_0_1
      clear bx1_0_1
      have bx1_1_2 := (hb2.cell (p := ⟨w.heap.size + 1, 1, none⟩) (show w.heap.size + 1 < _ by omega)).trans bx1_1_1
      clear bx1_1_1
      have bx1_2_2 := (hb2.cell (p := ⟨w.heap.size + 1, 2, none⟩) (show w.heap.size + 1 < _ by omega)).trans bx1_2_1
      clear bx1_2_1
      have bx1_3_2 := (hb2.cell (p := ⟨w.heap.size + 1, 3, none⟩) (show w.heap.size + 1 < _ by omega)).trans bx1_3_1
      clear bx1_3_1
      have bx1_4_2 := (hb2.cell (p := ⟨w.heap.size + 1, 4, none⟩) (show w.heap.size + 1 < _ by omega)).trans bx1_4_1
      clear bx1_4_1
      have bx1_5_2 := (hb2.cell (p := ⟨w.heap.size + 1, 5, none⟩) (show w.heap.size + 1 < _ by omega)).trans bx1_5_1
      clear bx1_5_1
      have bx1_6_2 := (hb2.cell (p := ⟨w.heap.size + 1, 6, none⟩) (show w.heap.size + 1 < _ by omega)).trans bx1_6_1
      clear bx1_6_1
      have bx1_7_2 := (hb2.cell (p := ⟨w.heap.size + 1, 7, none⟩) (show w.heap.size + 1 < _ by omega)).trans bx1_7_1
      clear bx1_7_1
      have bx1_8_2 := (hb2.cell (p := ⟨w.heap.size + 1, 8, none⟩) (show w.heap.size + 1 < _ by omega)).trans bx1_8_1
      clear bx1_8_1
      have h0_2 := h0_1.below (hb2.mono (by omega))
      clear h0_1
      have h1_2 := h1_1.below (hb2.mono (by omega))
      clear h1_1
      go_wp2
      go_ret
      exact ⟨rfl, B2⟩
  · go_enter Try.func4, Try.ntmps4
    go_wp2_with fail
    obtain ⟨wa, hwa⟩ : ∃ W, W = (World.alloc (World.alloc w (.cells #[.slice A0 n0 c0] 24)) (.cells #[.string a1.v.name, .int .i64 a1.v.weight, .int .i64 a1.v.fx, .int .i64 a1.v.fy, .int .i64 a1.v.tx, .int .i64 a1.v.ty, .int .i64 a1.v.height, .int .i64 a1.v.deadline, .slice a1.r.a a1.r.n a1.r.cap] 29)) := ⟨_, rfl⟩
    rw [← hwa]
    have B0 : Below w.heap.size w wa := by rw [hwa]; exact ((Below.refl _ _).alloc (by simp) _).alloc (by simp) _
    have S0 : w.heap.size + 2 ≤ wa.heap.size := by rw [hwa]; simp
    have bx0_0 : wa.cell? ⟨w.heap.size, 0, none⟩ = some (.slice A0 n0 c0) := by rw [hwa]; rw [World.cell?_alloc_lt _ _ _ (by simp)]; simp
    have bx1_0 : wa.cell? ⟨w.heap.size + 1, 0, none⟩ = some (.string a1.v.name) := by rw [hwa]; simp
    have bx1_1 : wa.cell? ⟨w.heap.size + 1, 1, none⟩ = some (.int .i64 a1.v.weight) := by rw [hwa]; simp
    have bx1_2 : wa.cell? ⟨w.heap.size + 1, 2, none⟩ = some (.int .i64 a1.v.fx) := by rw [hwa]; simp
    have bx1_3 : wa.cell? ⟨w.heap.size + 1, 3, none⟩ = some (.int .i64 a1.v.fy) := by rw [hwa]; simp
    have bx1_4 : wa.cell? ⟨w.heap.size + 1, 4, none⟩ = some (.int .i64 a1.v.tx) := by rw [hwa]; simp
    have bx1_5 : wa.cell? ⟨w.heap.size + 1, 5, none⟩ = some (.int .i64 a1.v.ty) := by rw [hwa]; simp
    have bx1_6 : wa.cell? ⟨w.heap.size + 1, 6, none⟩ = some (.int .i64 a1.v.height) := by rw [hwa]; simp
    have bx1_7 : wa.cell? ⟨w.heap.size + 1, 7, none⟩ = some (.int .i64 a1.v.deadline) := by rw [hwa]; simp
    have bx1_8 : wa.cell? ⟨w.heap.size + 1, 8, none⟩ = some (.slice a1.r.a a1.r.n a1.r.cap) := by rw [hwa]; simp
    have h0_0 := (h0.below B0).more (show w.heap.size ≤ w.heap.size from Nat.le_refl _)
    clear h0
    have h1_0 := (h1.below B0).more (show w.heap.size ≤ w.heap.size from Nat.le_refl _)
    clear h1
    clear hwa
    go_wp2_with fail
    refine (szSite_no ⟨A0, n0, c0, xs0⟩ _ _ (h0_0.more (by omega)) hn0 wf0 (by omega) (by omega) (by omega)).mono ?_
    rintro e w1 ⟨rfl, hb1⟩
    have B1 := bel2 B0 hb1
    have S1 := hb1.size
    have bx0_0_1 := (hb1.cell (p := ⟨w.heap.size, 0, none⟩) (show w.heap.size < _ by omega)).trans bx0_0
    clear bx0_0
    have bx1_0_1 := (hb1.cell (p := ⟨w.heap.size + 1, 0, none⟩) (show w.heap.size + 1 < _ by omega)).trans bx1_0
    clear bx1_0
    have bx1_1_1 := (hb1.cell (p := ⟨w.heap.size + 1, 1, none⟩) (show w.heap.size + 1 < _ by omega)).trans bx1_1
    clear bx1_1
    have bx1_2_1 := (hb1.cell (p := ⟨w.heap.size + 1, 2, none⟩) (show w.heap.size + 1 < _ by omega)).trans bx1_2
    clear bx1_2
    have bx1_3_1 := (hb1.cell (p := ⟨w.heap.size + 1, 3, none⟩) (show w.heap.size + 1 < _ by omega)).trans bx1_3
    clear bx1_3
    have bx1_4_1 := (hb1.cell (p := ⟨w.heap.size + 1, 4, none⟩) (show w.heap.size + 1 < _ by omega)).trans bx1_4
    clear bx1_4
    have bx1_5_1 := (hb1.cell (p := ⟨w.heap.size + 1, 5, none⟩) (show w.heap.size + 1 < _ by omega)).trans bx1_5
    clear bx1_5
    have bx1_6_1 := (hb1.cell (p := ⟨w.heap.size + 1, 6, none⟩) (show w.heap.size + 1 < _ by omega)).trans bx1_6
    clear bx1_6
    have bx1_7_1 := (hb1.cell (p := ⟨w.heap.size + 1, 7, none⟩) (show w.heap.size + 1 < _ by omega)).trans bx1_7
    clear bx1_7
    have bx1_8_1 := (hb1.cell (p := ⟨w.heap.size + 1, 8, none⟩) (show w.heap.size + 1 < _ by omega)).trans bx1_8
    clear bx1_8
    have h0_1 := h0_0.below (hb1.mono (by omega))
    clear h0_0
    have h1_1 := h1_0.below (hb1.mono (by omega))
    clear h1_0
    go_wp2
    go_ret
    exact ⟨rfl, B1⟩
end Go.Proofs.Ytdoinbnnpompiaa.lawBestCrane
