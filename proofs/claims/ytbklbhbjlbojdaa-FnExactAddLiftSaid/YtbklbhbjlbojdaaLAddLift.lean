/- FnExactAddLift: the walk: the law returns true for every input. -/
import Derived.Test.YtbklbhbjlbojdaaAddLift
import Derived.Test.YtbklbhbjlbojdaaLiftWide
import Derived.Test.YtbklbhbjlbojdaaMLift
import Derived.Test.YtbklbhbjlbojdaaMLift1
import Derived.Test.YtbklbhbjlbojdaaRLiftH
import Derived.Test.YtbklbhbjlbojdaaOLift
import Derived.Deep.RegionHeld3
namespace Go.Proofs.Ytbklbhbjlbojdaa.lawAddLift
open Go.RowKit
set_option linter.unusedVariables false

set_option maxRecDepth 100000 in
set_option maxHeartbeats 3200000 in
theorem walk (A0 : Option Addr) (n0 c0 : Nat) (xs0 : List Lift) (a1 : Lift) (w : World) (hn0 : n0 ≤ 9223372036854775807) (ha0 : Lifts w 0 w.heap.size A0 n0 xs0 ∧ ∀ p ∈ xs0, Lift.wf p) (hi1 : a1.wf ∧ Arr ic 1 w 0 w.heap.size a1.r.a a1.r.n a1.r.xs) :
    Calls Try.prog 3 #[.slice A0 n0 c0, .agg #[.string a1.v.name, .int .i64 a1.v.weight, .int .i64 a1.v.fx, .int .i64 a1.v.fy, .int .i64 a1.v.tx, .int .i64 a1.v.ty, .int .i64 a1.v.height, .int .i64 a1.v.deadline, .slice a1.r.a a1.r.n a1.r.cap]] w fun e w' => e = .returned (.bool true) ∧ Below w.heap.size w w' := by
  obtain ⟨h0, wf0⟩ := ha0
  have q0 := Lib.hid h0.len
  have l0 := Lib.hid (rows_len h0)
  obtain ⟨wf1, h1⟩ := hi1
  have hj1 := wf1.v.name
  have q1 := Lib.hid h1.1
  have z0 : 0 ≤ szLiftS n0 xs0 := by unfold szLiftS; omega
  have z1 : 0 ≤ (a1.sz : Int) := by omega
  by_cases hs0 : szLiftS n0 xs0 ≤ 1048576
  · by_cases hs1 : (a1.sz : Int) ≤ 1048576 - szLiftS n0 xs0
    · go_enter Try.func3, Try.ntmps3
      go_wp2_with fail
      obtain ⟨wa, hwa⟩ : ∃ W, W = (World.alloc w (.cells #[.string a1.v.name, .int .i64 a1.v.weight, .int .i64 a1.v.fx, .int .i64 a1.v.fy, .int .i64 a1.v.tx, .int .i64 a1.v.ty, .int .i64 a1.v.height, .int .i64 a1.v.deadline, .slice a1.r.a a1.r.n a1.r.cap] 27)) := ⟨_, rfl⟩
      rw [← hwa]
      have B0 : Below w.heap.size w wa := by rw [hwa]; exact (Below.refl _ _).alloc (by simp) _
      have S0 : w.heap.size + 1 ≤ wa.heap.size := by rw [hwa]; simp
      have bx1_0 : wa.cell? ⟨w.heap.size, 0, none⟩ = some (.string a1.v.name) := by rw [hwa]; simp
      have bx1_1 : wa.cell? ⟨w.heap.size, 1, none⟩ = some (.int .i64 a1.v.weight) := by rw [hwa]; simp
      have bx1_2 : wa.cell? ⟨w.heap.size, 2, none⟩ = some (.int .i64 a1.v.fx) := by rw [hwa]; simp
      have bx1_3 : wa.cell? ⟨w.heap.size, 3, none⟩ = some (.int .i64 a1.v.fy) := by rw [hwa]; simp
      have bx1_4 : wa.cell? ⟨w.heap.size, 4, none⟩ = some (.int .i64 a1.v.tx) := by rw [hwa]; simp
      have bx1_5 : wa.cell? ⟨w.heap.size, 5, none⟩ = some (.int .i64 a1.v.ty) := by rw [hwa]; simp
      have bx1_6 : wa.cell? ⟨w.heap.size, 6, none⟩ = some (.int .i64 a1.v.height) := by rw [hwa]; simp
      have bx1_7 : wa.cell? ⟨w.heap.size, 7, none⟩ = some (.int .i64 a1.v.deadline) := by rw [hwa]; simp
      have bx1_8 : wa.cell? ⟨w.heap.size, 8, none⟩ = some (.slice a1.r.a a1.r.n a1.r.cap) := by rw [hwa]; simp
      have h0_0 := (h0.below B0).more (show w.heap.size ≤ w.heap.size from Nat.le_refl _)
      clear h0
      have h1_0 := (h1.below B0).more (show w.heap.size ≤ w.heap.size from Nat.le_refl _)
      clear h1
      clear hwa
      go_wp2_with fail
      refine (szLiftS_ok _ _ _ xs0 _ _ _ (h0_0.more (by omega)) hn0 wf0 (by omega) (by omega) (by omega)).mono ?_
      rintro e w1 ⟨rfl, hb1⟩
      have B1 := bel2 B0 hb1
      have S1 := hb1.size
      have bx1_0_1 := (hb1.cell (p := ⟨w.heap.size, 0, none⟩) (show w.heap.size < _ by omega)).trans bx1_0
      clear bx1_0
      have bx1_1_1 := (hb1.cell (p := ⟨w.heap.size, 1, none⟩) (show w.heap.size < _ by omega)).trans bx1_1
      clear bx1_1
      have bx1_2_1 := (hb1.cell (p := ⟨w.heap.size, 2, none⟩) (show w.heap.size < _ by omega)).trans bx1_2
      clear bx1_2
      have bx1_3_1 := (hb1.cell (p := ⟨w.heap.size, 3, none⟩) (show w.heap.size < _ by omega)).trans bx1_3
      clear bx1_3
      have bx1_4_1 := (hb1.cell (p := ⟨w.heap.size, 4, none⟩) (show w.heap.size < _ by omega)).trans bx1_4
      clear bx1_4
      have bx1_5_1 := (hb1.cell (p := ⟨w.heap.size, 5, none⟩) (show w.heap.size < _ by omega)).trans bx1_5
      clear bx1_5
      have bx1_6_1 := (hb1.cell (p := ⟨w.heap.size, 6, none⟩) (show w.heap.size < _ by omega)).trans bx1_6
      clear bx1_6
      have bx1_7_1 := (hb1.cell (p := ⟨w.heap.size, 7, none⟩) (show w.heap.size < _ by omega)).trans bx1_7
      clear bx1_7
      have bx1_8_1 := (hb1.cell (p := ⟨w.heap.size, 8, none⟩) (show w.heap.size < _ by omega)).trans bx1_8
      clear bx1_8
      have h0_1 := h0_0.below (hb1.mono (by omega))
      clear h0_0
      have h1_1 := h1_0.below (hb1.mono (by omega))
      clear h1_0
      go_wp2_with fail
      refine (szLift_ok a1 _ _ wf1 (by omega) (by omega) (by omega)).mono ?_
      rintro e w2 ⟨rfl, hb2⟩
      have B2 := bel2 B1 hb2
      have S2 := hb2.size
      have bx1_0_2 := (hb2.cell (p := ⟨w.heap.size, 0, none⟩) (show w.heap.size < _ by omega)).trans bx1_0_1
      clear bx1_0_1
      have bx1_1_2 := (hb2.cell (p := ⟨w.heap.size, 1, none⟩) (show w.heap.size < _ by omega)).trans bx1_1_1
      clear bx1_1_1
      have bx1_2_2 := (hb2.cell (p := ⟨w.heap.size, 2, none⟩) (show w.heap.size < _ by omega)).trans bx1_2_1
      clear bx1_2_1
      have bx1_3_2 := (hb2.cell (p := ⟨w.heap.size, 3, none⟩) (show w.heap.size < _ by omega)).trans bx1_3_1
      clear bx1_3_1
      have bx1_4_2 := (hb2.cell (p := ⟨w.heap.size, 4, none⟩) (show w.heap.size < _ by omega)).trans bx1_4_1
      clear bx1_4_1
      have bx1_5_2 := (hb2.cell (p := ⟨w.heap.size, 5, none⟩) (show w.heap.size < _ by omega)).trans bx1_5_1
      clear bx1_5_1
      have bx1_6_2 := (hb2.cell (p := ⟨w.heap.size, 6, none⟩) (show w.heap.size < _ by omega)).trans bx1_6_1
      clear bx1_6_1
      have bx1_7_2 := (hb2.cell (p := ⟨w.heap.size, 7, none⟩) (show w.heap.size < _ by omega)).trans bx1_7_1
      clear bx1_7_1
      have bx1_8_2 := (hb2.cell (p := ⟨w.heap.size, 8, none⟩) (show w.heap.size < _ by omega)).trans bx1_8_1
      clear bx1_8_1
      have h0_2 := h0_1.below (hb2.mono (by omega))
      clear h0_1
      have h1_2 := h1_1.below (hb2.mono (by omega))
      clear h1_1
      have m0 : n0 ≤ 1048576 := by unfold szLiftS at hs0; omega
      have r0 := Lib.hid (rows_le (show (tot Lift.sz xs0 : Nat) ≤ 1048576 by unfold szLiftS at hs0; omega) l0.out)
      have T0 : tot Lift.wide xs0 ≤ 9437184 := by have h9 := tot_wide_le l0.out; rw [q0.out] at h9; unfold szLiftS at hs0; omega
      have m1 : a1.r.n ≤ 1048576 := by unfold Lift.sz at hs1; omega
      have wid0 : Hid (wideV (alXs (xs0.map Lift.val) (a1.v, a1.r.xs)) ≤ 100000000) := by show _ ≤ _; have h8 := wideV_al (xs0.map Lift.val) (a1.v, a1.r.xs); rw [← tot_wideV (ps := xs0) rfl] at h8; have h7 : a1.r.xs.length ≤ 1048576 := (by have := q1.out; omega); dsimp only at h8; omega
      have len0 : (alXs (xs0.map Lift.val) (a1.v, a1.r.xs)).length ≤ 1048576 := by have := alXs_len (xs0.map Lift.val) (a1.v, a1.r.xs); omega
      go_wp2_with fail
      have hb3 : Below w2.heap.size w2 w2.drew := (Below.refl _ _).drew
      have B3 := bel2 B2 hb3
      have S3 := hb3.size
      have bx1_0_3 := (hb3.cell (p := ⟨w.heap.size, 0, none⟩) (show w.heap.size < _ by omega)).trans bx1_0_2
      clear bx1_0_2
      have bx1_1_3 := (hb3.cell (p := ⟨w.heap.size, 1, none⟩) (show w.heap.size < _ by omega)).trans bx1_1_2
      clear bx1_1_2
      have bx1_2_3 := (hb3.cell (p := ⟨w.heap.size, 2, none⟩) (show w.heap.size < _ by omega)).trans bx1_2_2
      clear bx1_2_2
      have bx1_3_3 := (hb3.cell (p := ⟨w.heap.size, 3, none⟩) (show w.heap.size < _ by omega)).trans bx1_3_2
      clear bx1_3_2
      have bx1_4_3 := (hb3.cell (p := ⟨w.heap.size, 4, none⟩) (show w.heap.size < _ by omega)).trans bx1_4_2
      clear bx1_4_2
      have bx1_5_3 := (hb3.cell (p := ⟨w.heap.size, 5, none⟩) (show w.heap.size < _ by omega)).trans bx1_5_2
      clear bx1_5_2
      have bx1_6_3 := (hb3.cell (p := ⟨w.heap.size, 6, none⟩) (show w.heap.size < _ by omega)).trans bx1_6_2
      clear bx1_6_2
      have bx1_7_3 := (hb3.cell (p := ⟨w.heap.size, 7, none⟩) (show w.heap.size < _ by omega)).trans bx1_7_2
      clear bx1_7_2
      have bx1_8_3 := (hb3.cell (p := ⟨w.heap.size, 8, none⟩) (show w.heap.size < _ by omega)).trans bx1_8_2
      clear bx1_8_2
      have h0_3 := h0_2.below (hb3.mono (by omega))
      clear h0_2
      have h1_3 := h1_2.below (hb3.mono (by omega))
      clear h1_2
      go_region_held3 (fun w' => w'.cell? ⟨w.heap.size, 0, none⟩ = some (.string a1.v.name) ∧ w'.cell? ⟨w.heap.size, 1, none⟩ = some (.int .i64 a1.v.weight) ∧ w'.cell? ⟨w.heap.size, 2, none⟩ = some (.int .i64 a1.v.fx) ∧ w'.cell? ⟨w.heap.size, 3, none⟩ = some (.int .i64 a1.v.fy) ∧ w'.cell? ⟨w.heap.size, 4, none⟩ = some (.int .i64 a1.v.tx) ∧ w'.cell? ⟨w.heap.size, 5, none⟩ = some (.int .i64 a1.v.ty) ∧ w'.cell? ⟨w.heap.size, 6, none⟩ = some (.int .i64 a1.v.height) ∧ w'.cell? ⟨w.heap.size, 7, none⟩ = some (.int .i64 a1.v.deadline) ∧ w'.cell? ⟨w.heap.size, 8, none⟩ = some (.slice a1.r.a a1.r.n a1.r.cap)) (first | exact ⟨bx1_0_3, bx1_1_3, bx1_2_3, bx1_3_3, bx1_4_3, bx1_5_3, bx1_6_3, bx1_7_3, bx1_8_3⟩ | exact ⟨bx1_0_4, bx1_1_4, bx1_2_4, bx1_3_4, bx1_4_4, bx1_5_4, bx1_6_4, bx1_7_4, bx1_8_4⟩ | exact ⟨bx1_0_5, bx1_1_5, bx1_2_5, bx1_3_5, bx1_4_5, bx1_5_5, bx1_6_5, bx1_7_5, bx1_8_5⟩ | exact ⟨bx1_0_6, bx1_1_6, bx1_2_6, bx1_3_6, bx1_4_6, bx1_5_6, bx1_6_6, bx1_7_6, bx1_8_6⟩ | go_keep) ((first | (go_at_call 17; refine (toLiftH_any _ _ _ xs0 _ _ (h0_3.more (by omega)) m0 r0.out).mono ?_; rintro e w4 ⟨g4, y4, rfl, v4, o4, x4, hb4⟩; have HH4 := Lib.hid x4; have B4 := bel2 B3 hb4; have S4 := hb4.size; have bx1_0_4 := (hb4.cell (p := ⟨w.heap.size, 0, none⟩) (show w.heap.size < _ by omega)).trans bx1_0_3; have bx1_1_4 := (hb4.cell (p := ⟨w.heap.size, 1, none⟩) (show w.heap.size < _ by omega)).trans bx1_1_3; have bx1_2_4 := (hb4.cell (p := ⟨w.heap.size, 2, none⟩) (show w.heap.size < _ by omega)).trans bx1_2_3; have bx1_3_4 := (hb4.cell (p := ⟨w.heap.size, 3, none⟩) (show w.heap.size < _ by omega)).trans bx1_3_3; have bx1_4_4 := (hb4.cell (p := ⟨w.heap.size, 4, none⟩) (show w.heap.size < _ by omega)).trans bx1_4_3; have bx1_5_4 := (hb4.cell (p := ⟨w.heap.size, 5, none⟩) (show w.heap.size < _ by omega)).trans bx1_5_3; have bx1_6_4 := (hb4.cell (p := ⟨w.heap.size, 6, none⟩) (show w.heap.size < _ by omega)).trans bx1_6_3; have bx1_7_4 := (hb4.cell (p := ⟨w.heap.size, 7, none⟩) (show w.heap.size < _ by omega)).trans bx1_7_3; have bx1_8_4 := (hb4.cell (p := ⟨w.heap.size, 8, none⟩) (show w.heap.size < _ by omega)).trans bx1_8_3; have h0_4 := h0_3.below (hb4.mono (by omega)); have h1_4 := h1_3.below (hb4.mono (by omega)); have t4 := o4; have V4 := Lib.hid v4; have L4 := Lib.hid (rows_len (t4.arr Lift.cs_len ic_len)); have F4 := Lib.hid (recs_wf V4.out L4.out l0.out wf0); have R4 := Lib.hid (recs_rn V4.out L4.out l0.out r0.out); have TW4 : tot Lift.wide y4 ≤ 9437184 := (by rw [tot_wide V4.out]; exact T0)) | (go_at_call 18; refine (toLift_any a1 _ _ (h1_4.more (by omega)) m1).mono ?_; rintro e w5 ⟨g5, rfl, o5, hb5⟩; have B5 := bel2 B4 hb5; have S5 := hb5.size; have bx1_0_5 := (hb5.cell (p := ⟨w.heap.size, 0, none⟩) (show w.heap.size < _ by omega)).trans bx1_0_4; have bx1_1_5 := (hb5.cell (p := ⟨w.heap.size, 1, none⟩) (show w.heap.size < _ by omega)).trans bx1_1_4; have bx1_2_5 := (hb5.cell (p := ⟨w.heap.size, 2, none⟩) (show w.heap.size < _ by omega)).trans bx1_2_4; have bx1_3_5 := (hb5.cell (p := ⟨w.heap.size, 3, none⟩) (show w.heap.size < _ by omega)).trans bx1_3_4; have bx1_4_5 := (hb5.cell (p := ⟨w.heap.size, 4, none⟩) (show w.heap.size < _ by omega)).trans bx1_4_4; have bx1_5_5 := (hb5.cell (p := ⟨w.heap.size, 5, none⟩) (show w.heap.size < _ by omega)).trans bx1_5_4; have bx1_6_5 := (hb5.cell (p := ⟨w.heap.size, 6, none⟩) (show w.heap.size < _ by omega)).trans bx1_6_4; have bx1_7_5 := (hb5.cell (p := ⟨w.heap.size, 7, none⟩) (show w.heap.size < _ by omega)).trans bx1_7_4; have bx1_8_5 := (hb5.cell (p := ⟨w.heap.size, 8, none⟩) (show w.heap.size < _ by omega)).trans bx1_8_4; have h0_5 := h0_4.below (hb5.mono (by omega)); have h1_5 := h1_4.below (hb5.mono (by omega)); have t4_5 := t4.bel hb5; have t5 := o5) | (go_at_call 16; refine (show Calls Try.prog _ _ _ (RetLR (alXs (xs0.map Lift.val) (a1.v, a1.r.xs)) (alCode (xs0.map Lift.val) (a1.v, a1.r.xs)) _) from specAddLift_any _ _ _ y4 (xs0.map Lift.val) V4.out (⟨a1.v, ⟨some ⟨g5, 0, none⟩, a1.r.n, a1.r.n, a1.r.xs⟩⟩ : Lift) _ _ _ ((t4_5.arr Lift.cs_len ic_len).more (by omega)) m0 (Nat.le_refl _) m0 F4.out R4.out HH4.out ⟨wf1.v, wf1.n, trivial⟩ m1 ⟨_, rfl⟩ ((t5.arr ic_len).more (by omega))).mono ?_; rintro e w6 ⟨A6, c6, z6, rfl, ve6, o6, hb6⟩; have V6 := Lib.hid ve6; have LL6 : Hid (z6.length = (alXs (xs0.map Lift.val) (a1.v, a1.r.xs)).length) := (by show _ = _; rw [← V6.out, List.length_map]); have B6 := bel2 B5 hb6; have S6 := hb6.size; have bx1_0_6 := (hb6.cell (p := ⟨w.heap.size, 0, none⟩) (show w.heap.size < _ by omega)).trans bx1_0_5; have bx1_1_6 := (hb6.cell (p := ⟨w.heap.size, 1, none⟩) (show w.heap.size < _ by omega)).trans bx1_1_5; have bx1_2_6 := (hb6.cell (p := ⟨w.heap.size, 2, none⟩) (show w.heap.size < _ by omega)).trans bx1_2_5; have bx1_3_6 := (hb6.cell (p := ⟨w.heap.size, 3, none⟩) (show w.heap.size < _ by omega)).trans bx1_3_5; have bx1_4_6 := (hb6.cell (p := ⟨w.heap.size, 4, none⟩) (show w.heap.size < _ by omega)).trans bx1_4_5; have bx1_5_6 := (hb6.cell (p := ⟨w.heap.size, 5, none⟩) (show w.heap.size < _ by omega)).trans bx1_5_5; have bx1_6_6 := (hb6.cell (p := ⟨w.heap.size, 6, none⟩) (show w.heap.size < _ by omega)).trans bx1_6_5; have bx1_7_6 := (hb6.cell (p := ⟨w.heap.size, 7, none⟩) (show w.heap.size < _ by omega)).trans bx1_7_5; have bx1_8_6 := (hb6.cell (p := ⟨w.heap.size, 8, none⟩) (show w.heap.size < _ by omega)).trans bx1_8_5; have h0_6 := h0_5.below (hb6.mono (by omega)); have h1_6 := h1_5.below (hb6.mono (by omega)); have t4_6 := t4_5.bel hb6; have t5_6 := t5.bel hb6; have u6 := o6)))
      clear x4 bx1_0_3 bx1_1_3 bx1_2_3 bx1_3_3 bx1_4_3 bx1_5_3 bx1_6_3 bx1_7_3 bx1_8_3 h0_3 h1_3 o4 v4 bx1_0_4 bx1_1_4 bx1_2_4 bx1_3_4 bx1_4_4 bx1_5_4 bx1_6_4 bx1_7_4 bx1_8_4 h0_4 h1_4 t4 o5 ve6 bx1_0_5 bx1_1_5 bx1_2_5 bx1_3_5 bx1_4_5 bx1_5_5 bx1_6_5 bx1_7_5 bx1_8_5 h0_5 h1_5 t4_5 t5 o6
      go_wp2_with fail
      refine (toLiftH_any _ _ _ xs0 _ _ (h0_6.more (by omega)) m0 r0.out).mono ?_
      rintro e w7 ⟨g7, y7, rfl, v7, o7, x7, hb7⟩
      have HH7 := Lib.hid x7
      clear x7
      have B7 := bel2 B6 hb7
      have S7 := hb7.size
      have bx1_0_7 := (hb7.cell (p := ⟨w.heap.size, 0, none⟩) (show w.heap.size < _ by omega)).trans bx1_0_6
      clear bx1_0_6
      have bx1_1_7 := (hb7.cell (p := ⟨w.heap.size, 1, none⟩) (show w.heap.size < _ by omega)).trans bx1_1_6
      clear bx1_1_6
      have bx1_2_7 := (hb7.cell (p := ⟨w.heap.size, 2, none⟩) (show w.heap.size < _ by omega)).trans bx1_2_6
      clear bx1_2_6
      have bx1_3_7 := (hb7.cell (p := ⟨w.heap.size, 3, none⟩) (show w.heap.size < _ by omega)).trans bx1_3_6
      clear bx1_3_6
      have bx1_4_7 := (hb7.cell (p := ⟨w.heap.size, 4, none⟩) (show w.heap.size < _ by omega)).trans bx1_4_6
      clear bx1_4_6
      have bx1_5_7 := (hb7.cell (p := ⟨w.heap.size, 5, none⟩) (show w.heap.size < _ by omega)).trans bx1_5_6
      clear bx1_5_6
      have bx1_6_7 := (hb7.cell (p := ⟨w.heap.size, 6, none⟩) (show w.heap.size < _ by omega)).trans bx1_6_6
      clear bx1_6_6
      have bx1_7_7 := (hb7.cell (p := ⟨w.heap.size, 7, none⟩) (show w.heap.size < _ by omega)).trans bx1_7_6
      clear bx1_7_6
      have bx1_8_7 := (hb7.cell (p := ⟨w.heap.size, 8, none⟩) (show w.heap.size < _ by omega)).trans bx1_8_6
      clear bx1_8_6
      have h0_7 := h0_6.below (hb7.mono (by omega))
      clear h0_6
      have h1_7 := h1_6.below (hb7.mono (by omega))
      clear h1_6
      clear t4_6
      clear t5_6
      have u6_7 := u6.below (hb7.mono (by omega))
      clear u6
      have t7 := o7
      clear o7
      have V7 := Lib.hid v7
      clear v7
      have L7 := Lib.hid (rows_len (t7.arr Lift.cs_len ic_len))
      have F7 := Lib.hid (recs_wf V7.out L7.out l0.out wf0)
      have R7 := Lib.hid (recs_rn V7.out L7.out l0.out r0.out)
      have TW7 : tot Lift.wide y7 ≤ 9437184 := (by rw [tot_wide V7.out]; exact T0)
      go_wp2_with fail
      refine (toLift_any a1 _ _ (h1_7.more (by omega)) m1).mono ?_
      rintro e w8 ⟨g8, rfl, o8, hb8⟩
      have B8 := bel2 B7 hb8
      have S8 := hb8.size
      have bx1_0_8 := (hb8.cell (p := ⟨w.heap.size, 0, none⟩) (show w.heap.size < _ by omega)).trans bx1_0_7
      clear bx1_0_7
      have bx1_1_8 := (hb8.cell (p := ⟨w.heap.size, 1, none⟩) (show w.heap.size < _ by omega)).trans bx1_1_7
      clear bx1_1_7
      have bx1_2_8 := (hb8.cell (p := ⟨w.heap.size, 2, none⟩) (show w.heap.size < _ by omega)).trans bx1_2_7
      clear bx1_2_7
      have bx1_3_8 := (hb8.cell (p := ⟨w.heap.size, 3, none⟩) (show w.heap.size < _ by omega)).trans bx1_3_7
      clear bx1_3_7
      have bx1_4_8 := (hb8.cell (p := ⟨w.heap.size, 4, none⟩) (show w.heap.size < _ by omega)).trans bx1_4_7
      clear bx1_4_7
      have bx1_5_8 := (hb8.cell (p := ⟨w.heap.size, 5, none⟩) (show w.heap.size < _ by omega)).trans bx1_5_7
      clear bx1_5_7
      have bx1_6_8 := (hb8.cell (p := ⟨w.heap.size, 6, none⟩) (show w.heap.size < _ by omega)).trans bx1_6_7
      clear bx1_6_7
      have bx1_7_8 := (hb8.cell (p := ⟨w.heap.size, 7, none⟩) (show w.heap.size < _ by omega)).trans bx1_7_7
      clear bx1_7_7
      have bx1_8_8 := (hb8.cell (p := ⟨w.heap.size, 8, none⟩) (show w.heap.size < _ by omega)).trans bx1_8_7
      clear bx1_8_7
      have h0_8 := h0_7.below (hb8.mono (by omega))
      clear h0_7
      have h1_8 := h1_7.below (hb8.mono (by omega))
      clear h1_7
      have u6_8 := u6_7.below (hb8.mono (by omega))
      clear u6_7
      have t7_8 := t7.bel hb8
      clear t7
      have t8 := o8
      clear o8
      have SX9_0 : w.heap.size < w8.heap.size := by omega
      go_wp2_with fail
      obtain ⟨w9, hw9⟩ : ∃ W : World, W = w8.alloc (.cells #[.string a1.v.name, .int .i64 a1.v.weight, .int .i64 a1.v.fx, .int .i64 a1.v.fy, .int .i64 a1.v.tx, .int .i64 a1.v.ty, .int .i64 a1.v.height, .int .i64 a1.v.deadline, .slice (some ⟨g8, 0, none⟩) a1.r.n a1.r.n] 36) := ⟨_, rfl⟩
      have hb9 : Below w8.heap.size w8 w9 := by rw [hw9]; exact (Below.refl _ _).alloc (Nat.le_refl _) _
      have SB9 : w8.heap.size < w9.heap.size := by rw [hw9]; simp
      have xb1_0 : w9.cell? ⟨w8.heap.size, 0, none⟩ = some (.string a1.v.name) := by rw [hw9]; simp
      have xb1_1 : w9.cell? ⟨w8.heap.size, 1, none⟩ = some (.int .i64 a1.v.weight) := by rw [hw9]; simp
      have xb1_2 : w9.cell? ⟨w8.heap.size, 2, none⟩ = some (.int .i64 a1.v.fx) := by rw [hw9]; simp
      have xb1_3 : w9.cell? ⟨w8.heap.size, 3, none⟩ = some (.int .i64 a1.v.fy) := by rw [hw9]; simp
      have xb1_4 : w9.cell? ⟨w8.heap.size, 4, none⟩ = some (.int .i64 a1.v.tx) := by rw [hw9]; simp
      have xb1_5 : w9.cell? ⟨w8.heap.size, 5, none⟩ = some (.int .i64 a1.v.ty) := by rw [hw9]; simp
      have xb1_6 : w9.cell? ⟨w8.heap.size, 6, none⟩ = some (.int .i64 a1.v.height) := by rw [hw9]; simp
      have xb1_7 : w9.cell? ⟨w8.heap.size, 7, none⟩ = some (.int .i64 a1.v.deadline) := by rw [hw9]; simp
      have xb1_8 : w9.cell? ⟨w8.heap.size, 8, none⟩ = some (.slice (some ⟨g8, 0, none⟩) a1.r.n a1.r.n) := by rw [hw9]; simp
      rw [← hw9]
      clear hw9
      have B9 := bel2 B8 hb9
      have S9 := hb9.size
      have bx1_0_9 := (hb9.cell (p := ⟨w.heap.size, 0, none⟩) (show w.heap.size < _ by omega)).trans bx1_0_8
      clear bx1_0_8
      have bx1_1_9 := (hb9.cell (p := ⟨w.heap.size, 1, none⟩) (show w.heap.size < _ by omega)).trans bx1_1_8
      clear bx1_1_8
      have bx1_2_9 := (hb9.cell (p := ⟨w.heap.size, 2, none⟩) (show w.heap.size < _ by omega)).trans bx1_2_8
      clear bx1_2_8
      have bx1_3_9 := (hb9.cell (p := ⟨w.heap.size, 3, none⟩) (show w.heap.size < _ by omega)).trans bx1_3_8
      clear bx1_3_8
      have bx1_4_9 := (hb9.cell (p := ⟨w.heap.size, 4, none⟩) (show w.heap.size < _ by omega)).trans bx1_4_8
      clear bx1_4_8
      have bx1_5_9 := (hb9.cell (p := ⟨w.heap.size, 5, none⟩) (show w.heap.size < _ by omega)).trans bx1_5_8
      clear bx1_5_8
      have bx1_6_9 := (hb9.cell (p := ⟨w.heap.size, 6, none⟩) (show w.heap.size < _ by omega)).trans bx1_6_8
      clear bx1_6_8
      have bx1_7_9 := (hb9.cell (p := ⟨w.heap.size, 7, none⟩) (show w.heap.size < _ by omega)).trans bx1_7_8
      clear bx1_7_8
      have bx1_8_9 := (hb9.cell (p := ⟨w.heap.size, 8, none⟩) (show w.heap.size < _ by omega)).trans bx1_8_8
      clear bx1_8_8
      have h0_9 := h0_8.below (hb9.mono (by omega))
      clear h0_8
      have h1_9 := h1_8.below (hb9.mono (by omega))
      clear h1_8
      have u6_9 := u6_8.below (hb9.mono (by omega))
      clear u6_8
      have t7_9 := t7_8.bel hb9
      clear t7_8
      have t8_9 := t8.bel hb9
      clear t8
      go_wp2_with fail
      refine (show Calls Try.prog _ _ _ (RetLW (alXs (xs0.map Lift.val) (a1.v, a1.r.xs)) (alCode (xs0.map Lift.val) (a1.v, a1.r.xs)) _) from addLift_any _ _ _ y7 (xs0.map Lift.val) V7.out (⟨a1.v, ⟨some ⟨g8, 0, none⟩, a1.r.n, a1.r.n, a1.r.xs⟩⟩ : Lift) _ _ _ ((t7_9.arr Lift.cs_len ic_len).more (by omega)) m0 (Nat.le_refl _) m0 F7.out R7.out ⟨wf1.v, wf1.n, trivial⟩ m1 ((t8_9.arr ic_len).more (by omega))).mono ?_
      rintro e w10 ⟨A10, c10, z10, rfl, ve10, pe10, o10, hb10⟩
      have V10 := Lib.hid ve10
      clear ve10
      have LL10 : Hid (z10.length = (alXs (xs0.map Lift.val) (a1.v, a1.r.xs)).length) := (by show _ = _; rw [← V10.out, List.length_map])
      have P10 := Lib.hid pe10
      clear pe10
      have RL10 := Lib.hid (rows_len (o10.arr Lift.cs_len ic_len))
      have TT10 : tot Lift.wide z10 ≤ 100000000 := (by rw [tot_wideV V10.out]; exact wid0.out)
      have B10 := bel2 B9 hb10
      have S10 := hb10.size
      have bx1_0_10 := (hb10.cell (p := ⟨w.heap.size, 0, none⟩) (show w.heap.size < _ by omega)).trans bx1_0_9
      clear bx1_0_9
      have bx1_1_10 := (hb10.cell (p := ⟨w.heap.size, 1, none⟩) (show w.heap.size < _ by omega)).trans bx1_1_9
      clear bx1_1_9
      have bx1_2_10 := (hb10.cell (p := ⟨w.heap.size, 2, none⟩) (show w.heap.size < _ by omega)).trans bx1_2_9
      clear bx1_2_9
      have bx1_3_10 := (hb10.cell (p := ⟨w.heap.size, 3, none⟩) (show w.heap.size < _ by omega)).trans bx1_3_9
      clear bx1_3_9
      have bx1_4_10 := (hb10.cell (p := ⟨w.heap.size, 4, none⟩) (show w.heap.size < _ by omega)).trans bx1_4_9
      clear bx1_4_9
      have bx1_5_10 := (hb10.cell (p := ⟨w.heap.size, 5, none⟩) (show w.heap.size < _ by omega)).trans bx1_5_9
      clear bx1_5_9
      have bx1_6_10 := (hb10.cell (p := ⟨w.heap.size, 6, none⟩) (show w.heap.size < _ by omega)).trans bx1_6_9
      clear bx1_6_9
      have bx1_7_10 := (hb10.cell (p := ⟨w.heap.size, 7, none⟩) (show w.heap.size < _ by omega)).trans bx1_7_9
      clear bx1_7_9
      have bx1_8_10 := (hb10.cell (p := ⟨w.heap.size, 8, none⟩) (show w.heap.size < _ by omega)).trans bx1_8_9
      clear bx1_8_9
      have xb1_0_10 := (hb10.cell (p := ⟨w8.heap.size, 0, none⟩) (show w8.heap.size < _ by omega)).trans xb1_0
      clear xb1_0
      have xb1_1_10 := (hb10.cell (p := ⟨w8.heap.size, 1, none⟩) (show w8.heap.size < _ by omega)).trans xb1_1
      clear xb1_1
      have xb1_2_10 := (hb10.cell (p := ⟨w8.heap.size, 2, none⟩) (show w8.heap.size < _ by omega)).trans xb1_2
      clear xb1_2
      have xb1_3_10 := (hb10.cell (p := ⟨w8.heap.size, 3, none⟩) (show w8.heap.size < _ by omega)).trans xb1_3
      clear xb1_3
      have xb1_4_10 := (hb10.cell (p := ⟨w8.heap.size, 4, none⟩) (show w8.heap.size < _ by omega)).trans xb1_4
      clear xb1_4
      have xb1_5_10 := (hb10.cell (p := ⟨w8.heap.size, 5, none⟩) (show w8.heap.size < _ by omega)).trans xb1_5
      clear xb1_5
      have xb1_6_10 := (hb10.cell (p := ⟨w8.heap.size, 6, none⟩) (show w8.heap.size < _ by omega)).trans xb1_6
      clear xb1_6
      have xb1_7_10 := (hb10.cell (p := ⟨w8.heap.size, 7, none⟩) (show w8.heap.size < _ by omega)).trans xb1_7
      clear xb1_7
      have xb1_8_10 := (hb10.cell (p := ⟨w8.heap.size, 8, none⟩) (show w8.heap.size < _ by omega)).trans xb1_8
      clear xb1_8
      have h0_10 := h0_9.below (hb10.mono (by omega))
      clear h0_9
      have h1_10 := h1_9.below (hb10.mono (by omega))
      clear h1_9
      have u6_10 := u6_9.below (hb10.mono (by omega))
      clear u6_9
      have t7_10 := t7_9.bel hb10
      clear t7_9
      have t8_10 := t8_9.bel hb10
      clear t8_9
      have g10 := o10
      clear o10
      go_wp2_with fail
      refine (eqLiftS_same _ _ _ _ _ z10 z6 _ _ _ (V10.out.trans V6.out.symm) ((g10.arr Lift.cs_len ic_len).more (by omega)) (u6_10.more (by omega)) (by omega) (fun r hr => by have h9 := P10.out r hr; omega)).mono ?_
      rintro e w11 ⟨rfl, hb11⟩
      have B11 := bel2 B10 hb11
      have S11 := hb11.size
      have bx1_0_11 := (hb11.cell (p := ⟨w.heap.size, 0, none⟩) (show w.heap.size < _ by omega)).trans bx1_0_10
      clear bx1_0_10
      have bx1_1_11 := (hb11.cell (p := ⟨w.heap.size, 1, none⟩) (show w.heap.size < _ by omega)).trans bx1_1_10
      clear bx1_1_10
      have bx1_2_11 := (hb11.cell (p := ⟨w.heap.size, 2, none⟩) (show w.heap.size < _ by omega)).trans bx1_2_10
      clear bx1_2_10
      have bx1_3_11 := (hb11.cell (p := ⟨w.heap.size, 3, none⟩) (show w.heap.size < _ by omega)).trans bx1_3_10
      clear bx1_3_10
      have bx1_4_11 := (hb11.cell (p := ⟨w.heap.size, 4, none⟩) (show w.heap.size < _ by omega)).trans bx1_4_10
      clear bx1_4_10
      have bx1_5_11 := (hb11.cell (p := ⟨w.heap.size, 5, none⟩) (show w.heap.size < _ by omega)).trans bx1_5_10
      clear bx1_5_10
      have bx1_6_11 := (hb11.cell (p := ⟨w.heap.size, 6, none⟩) (show w.heap.size < _ by omega)).trans bx1_6_10
      clear bx1_6_10
      have bx1_7_11 := (hb11.cell (p := ⟨w.heap.size, 7, none⟩) (show w.heap.size < _ by omega)).trans bx1_7_10
      clear bx1_7_10
      have bx1_8_11 := (hb11.cell (p := ⟨w.heap.size, 8, none⟩) (show w.heap.size < _ by omega)).trans bx1_8_10
      clear bx1_8_10
      have xb1_0_11 := (hb11.cell (p := ⟨w8.heap.size, 0, none⟩) (show w8.heap.size < _ by omega)).trans xb1_0_10
      clear xb1_0_10
      have xb1_1_11 := (hb11.cell (p := ⟨w8.heap.size, 1, none⟩) (show w8.heap.size < _ by omega)).trans xb1_1_10
      clear xb1_1_10
      have xb1_2_11 := (hb11.cell (p := ⟨w8.heap.size, 2, none⟩) (show w8.heap.size < _ by omega)).trans xb1_2_10
      clear xb1_2_10
      have xb1_3_11 := (hb11.cell (p := ⟨w8.heap.size, 3, none⟩) (show w8.heap.size < _ by omega)).trans xb1_3_10
      clear xb1_3_10
      have xb1_4_11 := (hb11.cell (p := ⟨w8.heap.size, 4, none⟩) (show w8.heap.size < _ by omega)).trans xb1_4_10
      clear xb1_4_10
      have xb1_5_11 := (hb11.cell (p := ⟨w8.heap.size, 5, none⟩) (show w8.heap.size < _ by omega)).trans xb1_5_10
      clear xb1_5_10
      have xb1_6_11 := (hb11.cell (p := ⟨w8.heap.size, 6, none⟩) (show w8.heap.size < _ by omega)).trans xb1_6_10
      clear xb1_6_10
      have xb1_7_11 := (hb11.cell (p := ⟨w8.heap.size, 7, none⟩) (show w8.heap.size < _ by omega)).trans xb1_7_10
      clear xb1_7_10
      have xb1_8_11 := (hb11.cell (p := ⟨w8.heap.size, 8, none⟩) (show w8.heap.size < _ by omega)).trans xb1_8_10
      clear xb1_8_10
      have h0_11 := h0_10.below (hb11.mono (by omega))
      clear h0_10
      have h1_11 := h1_10.below (hb11.mono (by omega))
      clear h1_10
      have u6_11 := u6_10.below (hb11.mono (by omega))
      clear u6_10
      have t7_11 := t7_10.bel hb11
      clear t7_10
      have t8_11 := t8_10.bel hb11
      clear t8_10
      have g10_11 := g10.bel hb11
      clear g10
      go_wp2_with fail
      refine (toLiftH_any _ _ _ xs0 _ _ (h0_11.more (by omega)) m0 r0.out).mono ?_
      rintro e w12 ⟨g12, y12, rfl, v12, o12, x12, hb12⟩
      have HH12 := Lib.hid x12
      clear x12
      have B12 := bel2 B11 hb12
      have S12 := hb12.size
      have bx1_0_12 := (hb12.cell (p := ⟨w.heap.size, 0, none⟩) (show w.heap.size < _ by omega)).trans bx1_0_11
      clear bx1_0_11
      have bx1_1_12 := (hb12.cell (p := ⟨w.heap.size, 1, none⟩) (show w.heap.size < _ by omega)).trans bx1_1_11
      clear bx1_1_11
      have bx1_2_12 := (hb12.cell (p := ⟨w.heap.size, 2, none⟩) (show w.heap.size < _ by omega)).trans bx1_2_11
      clear bx1_2_11
      have bx1_3_12 := (hb12.cell (p := ⟨w.heap.size, 3, none⟩) (show w.heap.size < _ by omega)).trans bx1_3_11
      clear bx1_3_11
      have bx1_4_12 := (hb12.cell (p := ⟨w.heap.size, 4, none⟩) (show w.heap.size < _ by omega)).trans bx1_4_11
      clear bx1_4_11
      have bx1_5_12 := (hb12.cell (p := ⟨w.heap.size, 5, none⟩) (show w.heap.size < _ by omega)).trans bx1_5_11
      clear bx1_5_11
      have bx1_6_12 := (hb12.cell (p := ⟨w.heap.size, 6, none⟩) (show w.heap.size < _ by omega)).trans bx1_6_11
      clear bx1_6_11
      have bx1_7_12 := (hb12.cell (p := ⟨w.heap.size, 7, none⟩) (show w.heap.size < _ by omega)).trans bx1_7_11
      clear bx1_7_11
      have bx1_8_12 := (hb12.cell (p := ⟨w.heap.size, 8, none⟩) (show w.heap.size < _ by omega)).trans bx1_8_11
      clear bx1_8_11
      have xb1_0_12 := (hb12.cell (p := ⟨w8.heap.size, 0, none⟩) (show w8.heap.size < _ by omega)).trans xb1_0_11
      clear xb1_0_11
      have xb1_1_12 := (hb12.cell (p := ⟨w8.heap.size, 1, none⟩) (show w8.heap.size < _ by omega)).trans xb1_1_11
      clear xb1_1_11
      have xb1_2_12 := (hb12.cell (p := ⟨w8.heap.size, 2, none⟩) (show w8.heap.size < _ by omega)).trans xb1_2_11
      clear xb1_2_11
      have xb1_3_12 := (hb12.cell (p := ⟨w8.heap.size, 3, none⟩) (show w8.heap.size < _ by omega)).trans xb1_3_11
      clear xb1_3_11
      have xb1_4_12 := (hb12.cell (p := ⟨w8.heap.size, 4, none⟩) (show w8.heap.size < _ by omega)).trans xb1_4_11
      clear xb1_4_11
      have xb1_5_12 := (hb12.cell (p := ⟨w8.heap.size, 5, none⟩) (show w8.heap.size < _ by omega)).trans xb1_5_11
      clear xb1_5_11
      have xb1_6_12 := (hb12.cell (p := ⟨w8.heap.size, 6, none⟩) (show w8.heap.size < _ by omega)).trans xb1_6_11
      clear xb1_6_11
      have xb1_7_12 := (hb12.cell (p := ⟨w8.heap.size, 7, none⟩) (show w8.heap.size < _ by omega)).trans xb1_7_11
      clear xb1_7_11
      have xb1_8_12 := (hb12.cell (p := ⟨w8.heap.size, 8, none⟩) (show w8.heap.size < _ by omega)).trans xb1_8_11
      clear xb1_8_11
      have h0_12 := h0_11.below (hb12.mono (by omega))
      clear h0_11
      have h1_12 := h1_11.below (hb12.mono (by omega))
      clear h1_11
      have u6_12 := u6_11.below (hb12.mono (by omega))
      clear u6_11
      have t7_12 := t7_11.bel hb12
      clear t7_11
      have t8_12 := t8_11.bel hb12
      clear t8_11
      have g10_12 := g10_11.bel hb12
      clear g10_11
      have t12 := o12
      clear o12
      have V12 := Lib.hid v12
      clear v12
      have L12 := Lib.hid (rows_len (t12.arr Lift.cs_len ic_len))
      have F12 := Lib.hid (recs_wf V12.out L12.out l0.out wf0)
      have R12 := Lib.hid (recs_rn V12.out L12.out l0.out r0.out)
      have TW12 : tot Lift.wide y12 ≤ 9437184 := (by rw [tot_wide V12.out]; exact T0)
      go_wp2_with fail
      refine (eqLiftS_same _ _ _ _ _ y7 y12 _ _ _ (V7.out.trans V12.out.symm) ((t7_12.arr Lift.cs_len ic_len).more (by omega)) ((t12.arr Lift.cs_len ic_len).more (by omega)) (by omega) (fun p hp => (F7.out p hp).n)).mono ?_
      rintro e w13 ⟨rfl, hb13⟩
      have B13 := bel2 B12 hb13
      have S13 := hb13.size
      have bx1_0_13 := (hb13.cell (p := ⟨w.heap.size, 0, none⟩) (show w.heap.size < _ by omega)).trans bx1_0_12
      clear bx1_0_12
      have bx1_1_13 := (hb13.cell (p := ⟨w.heap.size, 1, none⟩) (show w.heap.size < _ by omega)).trans bx1_1_12
      clear bx1_1_12
      have bx1_2_13 := (hb13.cell (p := ⟨w.heap.size, 2, none⟩) (show w.heap.size < _ by omega)).trans bx1_2_12
      clear bx1_2_12
      have bx1_3_13 := (hb13.cell (p := ⟨w.heap.size, 3, none⟩) (show w.heap.size < _ by omega)).trans bx1_3_12
      clear bx1_3_12
      have bx1_4_13 := (hb13.cell (p := ⟨w.heap.size, 4, none⟩) (show w.heap.size < _ by omega)).trans bx1_4_12
      clear bx1_4_12
      have bx1_5_13 := (hb13.cell (p := ⟨w.heap.size, 5, none⟩) (show w.heap.size < _ by omega)).trans bx1_5_12
      clear bx1_5_12
      have bx1_6_13 := (hb13.cell (p := ⟨w.heap.size, 6, none⟩) (show w.heap.size < _ by omega)).trans bx1_6_12
      clear bx1_6_12
      have bx1_7_13 := (hb13.cell (p := ⟨w.heap.size, 7, none⟩) (show w.heap.size < _ by omega)).trans bx1_7_12
      clear bx1_7_12
      have bx1_8_13 := (hb13.cell (p := ⟨w.heap.size, 8, none⟩) (show w.heap.size < _ by omega)).trans bx1_8_12
      clear bx1_8_12
      have xb1_0_13 := (hb13.cell (p := ⟨w8.heap.size, 0, none⟩) (show w8.heap.size < _ by omega)).trans xb1_0_12
      clear xb1_0_12
      have xb1_1_13 := (hb13.cell (p := ⟨w8.heap.size, 1, none⟩) (show w8.heap.size < _ by omega)).trans xb1_1_12
      clear xb1_1_12
      have xb1_2_13 := (hb13.cell (p := ⟨w8.heap.size, 2, none⟩) (show w8.heap.size < _ by omega)).trans xb1_2_12
      clear xb1_2_12
      have xb1_3_13 := (hb13.cell (p := ⟨w8.heap.size, 3, none⟩) (show w8.heap.size < _ by omega)).trans xb1_3_12
      clear xb1_3_12
      have xb1_4_13 := (hb13.cell (p := ⟨w8.heap.size, 4, none⟩) (show w8.heap.size < _ by omega)).trans xb1_4_12
      clear xb1_4_12
      have xb1_5_13 := (hb13.cell (p := ⟨w8.heap.size, 5, none⟩) (show w8.heap.size < _ by omega)).trans xb1_5_12
      clear xb1_5_12
      have xb1_6_13 := (hb13.cell (p := ⟨w8.heap.size, 6, none⟩) (show w8.heap.size < _ by omega)).trans xb1_6_12
      clear xb1_6_12
      have xb1_7_13 := (hb13.cell (p := ⟨w8.heap.size, 7, none⟩) (show w8.heap.size < _ by omega)).trans xb1_7_12
      clear xb1_7_12
      have xb1_8_13 := (hb13.cell (p := ⟨w8.heap.size, 8, none⟩) (show w8.heap.size < _ by omega)).trans xb1_8_12
      clear xb1_8_12
      have h0_13 := h0_12.below (hb13.mono (by omega))
      clear h0_12
      have h1_13 := h1_12.below (hb13.mono (by omega))
      clear h1_12
      have u6_13 := u6_12.below (hb13.mono (by omega))
      clear u6_12
      have t7_13 := t7_12.bel hb13
      clear t7_12
      have t8_13 := t8_12.bel hb13
      clear t8_12
      have g10_13 := g10_12.bel hb13
      clear g10_12
      clear t12
      go_wp2_with fail
      have hb14 : Below w13.heap.size w13 w13.drew := (Below.refl _ _).drew
      have B14 := bel2 B13 hb14
      have S14 := hb14.size
      have bx1_0_14 := (hb14.cell (p := ⟨w.heap.size, 0, none⟩) (show w.heap.size < _ by omega)).trans bx1_0_13
      clear bx1_0_13
      have bx1_1_14 := (hb14.cell (p := ⟨w.heap.size, 1, none⟩) (show w.heap.size < _ by omega)).trans bx1_1_13
      clear bx1_1_13
      have bx1_2_14 := (hb14.cell (p := ⟨w.heap.size, 2, none⟩) (show w.heap.size < _ by omega)).trans bx1_2_13
      clear bx1_2_13
      have bx1_3_14 := (hb14.cell (p := ⟨w.heap.size, 3, none⟩) (show w.heap.size < _ by omega)).trans bx1_3_13
      clear bx1_3_13
      have bx1_4_14 := (hb14.cell (p := ⟨w.heap.size, 4, none⟩) (show w.heap.size < _ by omega)).trans bx1_4_13
      clear bx1_4_13
      have bx1_5_14 := (hb14.cell (p := ⟨w.heap.size, 5, none⟩) (show w.heap.size < _ by omega)).trans bx1_5_13
      clear bx1_5_13
      have bx1_6_14 := (hb14.cell (p := ⟨w.heap.size, 6, none⟩) (show w.heap.size < _ by omega)).trans bx1_6_13
      clear bx1_6_13
      have bx1_7_14 := (hb14.cell (p := ⟨w.heap.size, 7, none⟩) (show w.heap.size < _ by omega)).trans bx1_7_13
      clear bx1_7_13
      have bx1_8_14 := (hb14.cell (p := ⟨w.heap.size, 8, none⟩) (show w.heap.size < _ by omega)).trans bx1_8_13
      clear bx1_8_13
      have xb1_0_14 := (hb14.cell (p := ⟨w8.heap.size, 0, none⟩) (show w8.heap.size < _ by omega)).trans xb1_0_13
      clear xb1_0_13
      have xb1_1_14 := (hb14.cell (p := ⟨w8.heap.size, 1, none⟩) (show w8.heap.size < _ by omega)).trans xb1_1_13
      clear xb1_1_13
      have xb1_2_14 := (hb14.cell (p := ⟨w8.heap.size, 2, none⟩) (show w8.heap.size < _ by omega)).trans xb1_2_13
      clear xb1_2_13
      have xb1_3_14 := (hb14.cell (p := ⟨w8.heap.size, 3, none⟩) (show w8.heap.size < _ by omega)).trans xb1_3_13
      clear xb1_3_13
      have xb1_4_14 := (hb14.cell (p := ⟨w8.heap.size, 4, none⟩) (show w8.heap.size < _ by omega)).trans xb1_4_13
      clear xb1_4_13
      have xb1_5_14 := (hb14.cell (p := ⟨w8.heap.size, 5, none⟩) (show w8.heap.size < _ by omega)).trans xb1_5_13
      clear xb1_5_13
      have xb1_6_14 := (hb14.cell (p := ⟨w8.heap.size, 6, none⟩) (show w8.heap.size < _ by omega)).trans xb1_6_13
      clear xb1_6_13
      have xb1_7_14 := (hb14.cell (p := ⟨w8.heap.size, 7, none⟩) (show w8.heap.size < _ by omega)).trans xb1_7_13
      clear xb1_7_13
      have xb1_8_14 := (hb14.cell (p := ⟨w8.heap.size, 8, none⟩) (show w8.heap.size < _ by omega)).trans xb1_8_13
      clear xb1_8_13
      have h0_14 := h0_13.below (hb14.mono (by omega))
      clear h0_13
      have h1_14 := h1_13.below (hb14.mono (by omega))
      clear h1_13
      have u6_14 := u6_13.below (hb14.mono (by omega))
      clear u6_13
      have t7_14 := t7_13.bel hb14
      clear t7_13
      have t8_14 := t8_13.bel hb14
      clear t8_13
      have g10_14 := g10_13.bel hb14
      clear g10_13
      go_region_held3 (fun w' => w'.cell? ⟨w.heap.size, 0, none⟩ = some (.string a1.v.name) ∧ w'.cell? ⟨w.heap.size, 1, none⟩ = some (.int .i64 a1.v.weight) ∧ w'.cell? ⟨w.heap.size, 2, none⟩ = some (.int .i64 a1.v.fx) ∧ w'.cell? ⟨w.heap.size, 3, none⟩ = some (.int .i64 a1.v.fy) ∧ w'.cell? ⟨w.heap.size, 4, none⟩ = some (.int .i64 a1.v.tx) ∧ w'.cell? ⟨w.heap.size, 5, none⟩ = some (.int .i64 a1.v.ty) ∧ w'.cell? ⟨w.heap.size, 6, none⟩ = some (.int .i64 a1.v.height) ∧ w'.cell? ⟨w.heap.size, 7, none⟩ = some (.int .i64 a1.v.deadline) ∧ w'.cell? ⟨w.heap.size, 8, none⟩ = some (.slice a1.r.a a1.r.n a1.r.cap) ∧ w'.cell? ⟨w8.heap.size, 0, none⟩ = some (.string a1.v.name) ∧ w'.cell? ⟨w8.heap.size, 1, none⟩ = some (.int .i64 a1.v.weight) ∧ w'.cell? ⟨w8.heap.size, 2, none⟩ = some (.int .i64 a1.v.fx) ∧ w'.cell? ⟨w8.heap.size, 3, none⟩ = some (.int .i64 a1.v.fy) ∧ w'.cell? ⟨w8.heap.size, 4, none⟩ = some (.int .i64 a1.v.tx) ∧ w'.cell? ⟨w8.heap.size, 5, none⟩ = some (.int .i64 a1.v.ty) ∧ w'.cell? ⟨w8.heap.size, 6, none⟩ = some (.int .i64 a1.v.height) ∧ w'.cell? ⟨w8.heap.size, 7, none⟩ = some (.int .i64 a1.v.deadline) ∧ w'.cell? ⟨w8.heap.size, 8, none⟩ = some (.slice (some ⟨g8, 0, none⟩) a1.r.n a1.r.n)) (first | exact ⟨bx1_0_14, bx1_1_14, bx1_2_14, bx1_3_14, bx1_4_14, bx1_5_14, bx1_6_14, bx1_7_14, bx1_8_14, xb1_0_14, xb1_1_14, xb1_2_14, xb1_3_14, xb1_4_14, xb1_5_14, xb1_6_14, xb1_7_14, xb1_8_14⟩ | exact ⟨bx1_0_15, bx1_1_15, bx1_2_15, bx1_3_15, bx1_4_15, bx1_5_15, bx1_6_15, bx1_7_15, bx1_8_15, xb1_0_15, xb1_1_15, xb1_2_15, xb1_3_15, xb1_4_15, xb1_5_15, xb1_6_15, xb1_7_15, xb1_8_15⟩ | exact ⟨bx1_0_16, bx1_1_16, bx1_2_16, bx1_3_16, bx1_4_16, bx1_5_16, bx1_6_16, bx1_7_16, bx1_8_16, xb1_0_16, xb1_1_16, xb1_2_16, xb1_3_16, xb1_4_16, xb1_5_16, xb1_6_16, xb1_7_16, xb1_8_16⟩ | go_keep) ((first | (go_at_call 18; refine (toLift_any a1 _ _ (h1_14.more (by omega)) m1).mono ?_; rintro e w15 ⟨g15, rfl, o15, hb15⟩; have B15 := bel2 B14 hb15; have S15 := hb15.size; have bx1_0_15 := (hb15.cell (p := ⟨w.heap.size, 0, none⟩) (show w.heap.size < _ by omega)).trans bx1_0_14; have bx1_1_15 := (hb15.cell (p := ⟨w.heap.size, 1, none⟩) (show w.heap.size < _ by omega)).trans bx1_1_14; have bx1_2_15 := (hb15.cell (p := ⟨w.heap.size, 2, none⟩) (show w.heap.size < _ by omega)).trans bx1_2_14; have bx1_3_15 := (hb15.cell (p := ⟨w.heap.size, 3, none⟩) (show w.heap.size < _ by omega)).trans bx1_3_14; have bx1_4_15 := (hb15.cell (p := ⟨w.heap.size, 4, none⟩) (show w.heap.size < _ by omega)).trans bx1_4_14; have bx1_5_15 := (hb15.cell (p := ⟨w.heap.size, 5, none⟩) (show w.heap.size < _ by omega)).trans bx1_5_14; have bx1_6_15 := (hb15.cell (p := ⟨w.heap.size, 6, none⟩) (show w.heap.size < _ by omega)).trans bx1_6_14; have bx1_7_15 := (hb15.cell (p := ⟨w.heap.size, 7, none⟩) (show w.heap.size < _ by omega)).trans bx1_7_14; have bx1_8_15 := (hb15.cell (p := ⟨w.heap.size, 8, none⟩) (show w.heap.size < _ by omega)).trans bx1_8_14; have xb1_0_15 := (hb15.cell (p := ⟨w8.heap.size, 0, none⟩) (show w8.heap.size < _ by omega)).trans xb1_0_14; have xb1_1_15 := (hb15.cell (p := ⟨w8.heap.size, 1, none⟩) (show w8.heap.size < _ by omega)).trans xb1_1_14; have xb1_2_15 := (hb15.cell (p := ⟨w8.heap.size, 2, none⟩) (show w8.heap.size < _ by omega)).trans xb1_2_14; have xb1_3_15 := (hb15.cell (p := ⟨w8.heap.size, 3, none⟩) (show w8.heap.size < _ by omega)).trans xb1_3_14; have xb1_4_15 := (hb15.cell (p := ⟨w8.heap.size, 4, none⟩) (show w8.heap.size < _ by omega)).trans xb1_4_14; have xb1_5_15 := (hb15.cell (p := ⟨w8.heap.size, 5, none⟩) (show w8.heap.size < _ by omega)).trans xb1_5_14; have xb1_6_15 := (hb15.cell (p := ⟨w8.heap.size, 6, none⟩) (show w8.heap.size < _ by omega)).trans xb1_6_14; have xb1_7_15 := (hb15.cell (p := ⟨w8.heap.size, 7, none⟩) (show w8.heap.size < _ by omega)).trans xb1_7_14; have xb1_8_15 := (hb15.cell (p := ⟨w8.heap.size, 8, none⟩) (show w8.heap.size < _ by omega)).trans xb1_8_14; have h0_15 := h0_14.below (hb15.mono (by omega)); have h1_15 := h1_14.below (hb15.mono (by omega)); have u6_15 := u6_14.below (hb15.mono (by omega)); have t7_15 := t7_14.bel hb15; have t8_15 := t8_14.bel hb15; have g10_15 := g10_14.bel hb15; have t15 := o15) | (go_at_call 21; refine (eqLift_same a1.v ⟨some ⟨g8, 0, none⟩, a1.r.n, a1.r.n, a1.r.xs⟩ ⟨some ⟨g15, 0, none⟩, a1.r.n, a1.r.n, a1.r.xs⟩ _ _ _ rfl ((t8_15.arr ic_len).more (by omega)) ((t15.arr ic_len).more (by omega)) (Nat.le_trans m1 (by decide))).mono ?_; rintro e w16 ⟨rfl, hb16⟩; have B16 := bel2 B15 hb16; have S16 := hb16.size; have bx1_0_16 := (hb16.cell (p := ⟨w.heap.size, 0, none⟩) (show w.heap.size < _ by omega)).trans bx1_0_15; have bx1_1_16 := (hb16.cell (p := ⟨w.heap.size, 1, none⟩) (show w.heap.size < _ by omega)).trans bx1_1_15; have bx1_2_16 := (hb16.cell (p := ⟨w.heap.size, 2, none⟩) (show w.heap.size < _ by omega)).trans bx1_2_15; have bx1_3_16 := (hb16.cell (p := ⟨w.heap.size, 3, none⟩) (show w.heap.size < _ by omega)).trans bx1_3_15; have bx1_4_16 := (hb16.cell (p := ⟨w.heap.size, 4, none⟩) (show w.heap.size < _ by omega)).trans bx1_4_15; have bx1_5_16 := (hb16.cell (p := ⟨w.heap.size, 5, none⟩) (show w.heap.size < _ by omega)).trans bx1_5_15; have bx1_6_16 := (hb16.cell (p := ⟨w.heap.size, 6, none⟩) (show w.heap.size < _ by omega)).trans bx1_6_15; have bx1_7_16 := (hb16.cell (p := ⟨w.heap.size, 7, none⟩) (show w.heap.size < _ by omega)).trans bx1_7_15; have bx1_8_16 := (hb16.cell (p := ⟨w.heap.size, 8, none⟩) (show w.heap.size < _ by omega)).trans bx1_8_15; have xb1_0_16 := (hb16.cell (p := ⟨w8.heap.size, 0, none⟩) (show w8.heap.size < _ by omega)).trans xb1_0_15; have xb1_1_16 := (hb16.cell (p := ⟨w8.heap.size, 1, none⟩) (show w8.heap.size < _ by omega)).trans xb1_1_15; have xb1_2_16 := (hb16.cell (p := ⟨w8.heap.size, 2, none⟩) (show w8.heap.size < _ by omega)).trans xb1_2_15; have xb1_3_16 := (hb16.cell (p := ⟨w8.heap.size, 3, none⟩) (show w8.heap.size < _ by omega)).trans xb1_3_15; have xb1_4_16 := (hb16.cell (p := ⟨w8.heap.size, 4, none⟩) (show w8.heap.size < _ by omega)).trans xb1_4_15; have xb1_5_16 := (hb16.cell (p := ⟨w8.heap.size, 5, none⟩) (show w8.heap.size < _ by omega)).trans xb1_5_15; have xb1_6_16 := (hb16.cell (p := ⟨w8.heap.size, 6, none⟩) (show w8.heap.size < _ by omega)).trans xb1_6_15; have xb1_7_16 := (hb16.cell (p := ⟨w8.heap.size, 7, none⟩) (show w8.heap.size < _ by omega)).trans xb1_7_15; have xb1_8_16 := (hb16.cell (p := ⟨w8.heap.size, 8, none⟩) (show w8.heap.size < _ by omega)).trans xb1_8_15; have h0_16 := h0_15.below (hb16.mono (by omega)); have h1_16 := h1_15.below (hb16.mono (by omega)); have u6_16 := u6_15.below (hb16.mono (by omega)); have t7_16 := t7_15.bel hb16; have t8_16 := t8_15.bel hb16; have g10_16 := g10_15.bel hb16)))
      clear bx1_0_14 bx1_1_14 bx1_2_14 bx1_3_14 bx1_4_14 bx1_5_14 bx1_6_14 bx1_7_14 bx1_8_14 xb1_0_14 xb1_1_14 xb1_2_14 xb1_3_14 xb1_4_14 xb1_5_14 xb1_6_14 xb1_7_14 xb1_8_14 h0_14 h1_14 u6_14 t7_14 t8_14 g10_14 o15 bx1_0_15 bx1_1_15 bx1_2_15 bx1_3_15 bx1_4_15 bx1_5_15 bx1_6_15 bx1_7_15 bx1_8_15 xb1_0_15 xb1_1_15 xb1_2_15 xb1_3_15 xb1_4_15 xb1_5_15 xb1_6_15 xb1_7_15 xb1_8_15 h0_15 h1_15 u6_15 t7_15 t8_15 g10_15 t15
      go_wp2_with fail
      refine (markLiftS_any _ _ _ _ _ _ _ _ t7_16 (by omega) R7.out (by omega) (by omega)).mono ?_
      rintro e w17 ⟨rfl, hw17, o17⟩
      have B17 := Below.within B16 hw17 (by omega) (by omega)
      have S17 := hw17.size
      have bx1_0_17 := (hw17.cell (p := ⟨w.heap.size, 0, none⟩) (show w.heap.size < _ by omega) (show w.heap.size < _ ∨ _ ≤ w.heap.size by omega)).trans bx1_0_16
      clear bx1_0_16
      have bx1_1_17 := (hw17.cell (p := ⟨w.heap.size, 1, none⟩) (show w.heap.size < _ by omega) (show w.heap.size < _ ∨ _ ≤ w.heap.size by omega)).trans bx1_1_16
      clear bx1_1_16
      have bx1_2_17 := (hw17.cell (p := ⟨w.heap.size, 2, none⟩) (show w.heap.size < _ by omega) (show w.heap.size < _ ∨ _ ≤ w.heap.size by omega)).trans bx1_2_16
      clear bx1_2_16
      have bx1_3_17 := (hw17.cell (p := ⟨w.heap.size, 3, none⟩) (show w.heap.size < _ by omega) (show w.heap.size < _ ∨ _ ≤ w.heap.size by omega)).trans bx1_3_16
      clear bx1_3_16
      have bx1_4_17 := (hw17.cell (p := ⟨w.heap.size, 4, none⟩) (show w.heap.size < _ by omega) (show w.heap.size < _ ∨ _ ≤ w.heap.size by omega)).trans bx1_4_16
      clear bx1_4_16
      have bx1_5_17 := (hw17.cell (p := ⟨w.heap.size, 5, none⟩) (show w.heap.size < _ by omega) (show w.heap.size < _ ∨ _ ≤ w.heap.size by omega)).trans bx1_5_16
      clear bx1_5_16
      have bx1_6_17 := (hw17.cell (p := ⟨w.heap.size, 6, none⟩) (show w.heap.size < _ by omega) (show w.heap.size < _ ∨ _ ≤ w.heap.size by omega)).trans bx1_6_16
      clear bx1_6_16
      have bx1_7_17 := (hw17.cell (p := ⟨w.heap.size, 7, none⟩) (show w.heap.size < _ by omega) (show w.heap.size < _ ∨ _ ≤ w.heap.size by omega)).trans bx1_7_16
      clear bx1_7_16
      have bx1_8_17 := (hw17.cell (p := ⟨w.heap.size, 8, none⟩) (show w.heap.size < _ by omega) (show w.heap.size < _ ∨ _ ≤ w.heap.size by omega)).trans bx1_8_16
      clear bx1_8_16
      have xb1_0_17 := (hw17.cell (p := ⟨w8.heap.size, 0, none⟩) (show w8.heap.size < _ by omega) (show w8.heap.size < _ ∨ _ ≤ w8.heap.size by omega)).trans xb1_0_16
      clear xb1_0_16
      have xb1_1_17 := (hw17.cell (p := ⟨w8.heap.size, 1, none⟩) (show w8.heap.size < _ by omega) (show w8.heap.size < _ ∨ _ ≤ w8.heap.size by omega)).trans xb1_1_16
      clear xb1_1_16
      have xb1_2_17 := (hw17.cell (p := ⟨w8.heap.size, 2, none⟩) (show w8.heap.size < _ by omega) (show w8.heap.size < _ ∨ _ ≤ w8.heap.size by omega)).trans xb1_2_16
      clear xb1_2_16
      have xb1_3_17 := (hw17.cell (p := ⟨w8.heap.size, 3, none⟩) (show w8.heap.size < _ by omega) (show w8.heap.size < _ ∨ _ ≤ w8.heap.size by omega)).trans xb1_3_16
      clear xb1_3_16
      have xb1_4_17 := (hw17.cell (p := ⟨w8.heap.size, 4, none⟩) (show w8.heap.size < _ by omega) (show w8.heap.size < _ ∨ _ ≤ w8.heap.size by omega)).trans xb1_4_16
      clear xb1_4_16
      have xb1_5_17 := (hw17.cell (p := ⟨w8.heap.size, 5, none⟩) (show w8.heap.size < _ by omega) (show w8.heap.size < _ ∨ _ ≤ w8.heap.size by omega)).trans xb1_5_16
      clear xb1_5_16
      have xb1_6_17 := (hw17.cell (p := ⟨w8.heap.size, 6, none⟩) (show w8.heap.size < _ by omega) (show w8.heap.size < _ ∨ _ ≤ w8.heap.size by omega)).trans xb1_6_16
      clear xb1_6_16
      have xb1_7_17 := (hw17.cell (p := ⟨w8.heap.size, 7, none⟩) (show w8.heap.size < _ by omega) (show w8.heap.size < _ ∨ _ ≤ w8.heap.size by omega)).trans xb1_7_16
      clear xb1_7_16
      have xb1_8_17 := (hw17.cell (p := ⟨w8.heap.size, 8, none⟩) (show w8.heap.size < _ by omega) (show w8.heap.size < _ ∨ _ ≤ w8.heap.size by omega)).trans xb1_8_16
      clear xb1_8_16
      have h0_17 := h0_16.within hw17 (by omega) (by omega)
      clear h0_16
      have h1_17 := h1_16.within hw17 (by omega) (by omega)
      clear h1_16
      have u6_17 := u6_16.within hw17 (by omega) (by omega)
      clear u6_16
      clear o17
      have t8_17 := t8_16.within hw17 (by omega)
      clear t8_16
      have g10_17 := g10_16.within hw17 (by omega)
      clear g10_16
      go_wp2_with fail
      refine (markLift_any a1.v _ _ _ _ _ _ _ _ t8_17 (by omega) (by omega) (by omega) (by omega)).mono ?_
      rintro e w18 ⟨rfl, hw18, o18⟩
      have B18 := Below.within B17 hw18 (by omega) (by omega)
      have S18 := hw18.size
      have bx1_0_18 := (hw18.cell (p := ⟨w.heap.size, 0, none⟩) (show w.heap.size < _ by omega) (show w.heap.size < _ ∨ _ ≤ w.heap.size by omega)).trans bx1_0_17
      clear bx1_0_17
      have bx1_1_18 := (hw18.cell (p := ⟨w.heap.size, 1, none⟩) (show w.heap.size < _ by omega) (show w.heap.size < _ ∨ _ ≤ w.heap.size by omega)).trans bx1_1_17
      clear bx1_1_17
      have bx1_2_18 := (hw18.cell (p := ⟨w.heap.size, 2, none⟩) (show w.heap.size < _ by omega) (show w.heap.size < _ ∨ _ ≤ w.heap.size by omega)).trans bx1_2_17
      clear bx1_2_17
      have bx1_3_18 := (hw18.cell (p := ⟨w.heap.size, 3, none⟩) (show w.heap.size < _ by omega) (show w.heap.size < _ ∨ _ ≤ w.heap.size by omega)).trans bx1_3_17
      clear bx1_3_17
      have bx1_4_18 := (hw18.cell (p := ⟨w.heap.size, 4, none⟩) (show w.heap.size < _ by omega) (show w.heap.size < _ ∨ _ ≤ w.heap.size by omega)).trans bx1_4_17
      clear bx1_4_17
      have bx1_5_18 := (hw18.cell (p := ⟨w.heap.size, 5, none⟩) (show w.heap.size < _ by omega) (show w.heap.size < _ ∨ _ ≤ w.heap.size by omega)).trans bx1_5_17
      clear bx1_5_17
      have bx1_6_18 := (hw18.cell (p := ⟨w.heap.size, 6, none⟩) (show w.heap.size < _ by omega) (show w.heap.size < _ ∨ _ ≤ w.heap.size by omega)).trans bx1_6_17
      clear bx1_6_17
      have bx1_7_18 := (hw18.cell (p := ⟨w.heap.size, 7, none⟩) (show w.heap.size < _ by omega) (show w.heap.size < _ ∨ _ ≤ w.heap.size by omega)).trans bx1_7_17
      clear bx1_7_17
      have bx1_8_18 := (hw18.cell (p := ⟨w.heap.size, 8, none⟩) (show w.heap.size < _ by omega) (show w.heap.size < _ ∨ _ ≤ w.heap.size by omega)).trans bx1_8_17
      clear bx1_8_17
      have xb1_0_18 := (hw18.cell (p := ⟨w8.heap.size, 0, none⟩) (show w8.heap.size < _ by omega) (show w8.heap.size < _ ∨ _ ≤ w8.heap.size by omega)).trans xb1_0_17
      clear xb1_0_17
      have xb1_1_18 := (hw18.cell (p := ⟨w8.heap.size, 1, none⟩) (show w8.heap.size < _ by omega) (show w8.heap.size < _ ∨ _ ≤ w8.heap.size by omega)).trans xb1_1_17
      clear xb1_1_17
      have xb1_2_18 := (hw18.cell (p := ⟨w8.heap.size, 2, none⟩) (show w8.heap.size < _ by omega) (show w8.heap.size < _ ∨ _ ≤ w8.heap.size by omega)).trans xb1_2_17
      clear xb1_2_17
      have xb1_3_18 := (hw18.cell (p := ⟨w8.heap.size, 3, none⟩) (show w8.heap.size < _ by omega) (show w8.heap.size < _ ∨ _ ≤ w8.heap.size by omega)).trans xb1_3_17
      clear xb1_3_17
      have xb1_4_18 := (hw18.cell (p := ⟨w8.heap.size, 4, none⟩) (show w8.heap.size < _ by omega) (show w8.heap.size < _ ∨ _ ≤ w8.heap.size by omega)).trans xb1_4_17
      clear xb1_4_17
      have xb1_5_18 := (hw18.cell (p := ⟨w8.heap.size, 5, none⟩) (show w8.heap.size < _ by omega) (show w8.heap.size < _ ∨ _ ≤ w8.heap.size by omega)).trans xb1_5_17
      clear xb1_5_17
      have xb1_6_18 := (hw18.cell (p := ⟨w8.heap.size, 6, none⟩) (show w8.heap.size < _ by omega) (show w8.heap.size < _ ∨ _ ≤ w8.heap.size by omega)).trans xb1_6_17
      clear xb1_6_17
      have xb1_7_18 := (hw18.cell (p := ⟨w8.heap.size, 7, none⟩) (show w8.heap.size < _ by omega) (show w8.heap.size < _ ∨ _ ≤ w8.heap.size by omega)).trans xb1_7_17
      clear xb1_7_17
      have xb1_8_18 := (hw18.cell (p := ⟨w8.heap.size, 8, none⟩) (show w8.heap.size < _ by omega) (show w8.heap.size < _ ∨ _ ≤ w8.heap.size by omega)).trans xb1_8_17
      clear xb1_8_17
      have h0_18 := h0_17.within hw18 (by omega) (by omega)
      clear h0_17
      have h1_18 := h1_17.within hw18 (by omega) (by omega)
      clear h1_17
      have u6_18 := u6_17.within hw18 (by omega) (by omega)
      clear u6_17
      clear o18
      have g10_18 := g10_17.within hw18 (by omega)
      clear g10_17
      clear xb1_0_18
      clear xb1_1_18
      clear xb1_2_18
      clear xb1_3_18
      clear xb1_4_18
      clear xb1_5_18
      clear xb1_6_18
      clear xb1_7_18
      clear xb1_8_18
      go_wp2_with fail
      refine (eqLiftS_same _ _ _ _ _ z10 z6 _ _ _ (V10.out.trans V6.out.symm) ((g10_18.arr Lift.cs_len ic_len).more (by omega)) (u6_18.more (by omega)) (by omega) (fun r hr => by have h9 := P10.out r hr; omega)).mono ?_
      rintro e w19 ⟨rfl, hb19⟩
      have B19 := bel2 B18 hb19
      have S19 := hb19.size
      have bx1_0_19 := (hb19.cell (p := ⟨w.heap.size, 0, none⟩) (show w.heap.size < _ by omega)).trans bx1_0_18
      clear bx1_0_18
      have bx1_1_19 := (hb19.cell (p := ⟨w.heap.size, 1, none⟩) (show w.heap.size < _ by omega)).trans bx1_1_18
      clear bx1_1_18
      have bx1_2_19 := (hb19.cell (p := ⟨w.heap.size, 2, none⟩) (show w.heap.size < _ by omega)).trans bx1_2_18
      clear bx1_2_18
      have bx1_3_19 := (hb19.cell (p := ⟨w.heap.size, 3, none⟩) (show w.heap.size < _ by omega)).trans bx1_3_18
      clear bx1_3_18
      have bx1_4_19 := (hb19.cell (p := ⟨w.heap.size, 4, none⟩) (show w.heap.size < _ by omega)).trans bx1_4_18
      clear bx1_4_18
      have bx1_5_19 := (hb19.cell (p := ⟨w.heap.size, 5, none⟩) (show w.heap.size < _ by omega)).trans bx1_5_18
      clear bx1_5_18
      have bx1_6_19 := (hb19.cell (p := ⟨w.heap.size, 6, none⟩) (show w.heap.size < _ by omega)).trans bx1_6_18
      clear bx1_6_18
      have bx1_7_19 := (hb19.cell (p := ⟨w.heap.size, 7, none⟩) (show w.heap.size < _ by omega)).trans bx1_7_18
      clear bx1_7_18
      have bx1_8_19 := (hb19.cell (p := ⟨w.heap.size, 8, none⟩) (show w.heap.size < _ by omega)).trans bx1_8_18
      clear bx1_8_18
      have h0_19 := h0_18.below (hb19.mono (by omega))
      clear h0_18
      have h1_19 := h1_18.below (hb19.mono (by omega))
      clear h1_18
      have u6_19 := u6_18.below (hb19.mono (by omega))
      clear u6_18
      have g10_19 := g10_18.bel hb19
      clear g10_18
      go_wp2_with fail
      refine (markLiftS_any _ _ _ z10 _ _ _ _ g10_19 (by omega) P10.out (by omega) (by omega)).mono ?_
      rintro e w20 ⟨rfl, hw20, o20⟩
      have B20 := Below.within B19 hw20 (by omega) (by omega)
      have S20 := hw20.size
      have bx1_0_20 := (hw20.cell (p := ⟨w.heap.size, 0, none⟩) (show w.heap.size < _ by omega) (show w.heap.size < _ ∨ _ ≤ w.heap.size by omega)).trans bx1_0_19
      clear bx1_0_19
      have bx1_1_20 := (hw20.cell (p := ⟨w.heap.size, 1, none⟩) (show w.heap.size < _ by omega) (show w.heap.size < _ ∨ _ ≤ w.heap.size by omega)).trans bx1_1_19
      clear bx1_1_19
      have bx1_2_20 := (hw20.cell (p := ⟨w.heap.size, 2, none⟩) (show w.heap.size < _ by omega) (show w.heap.size < _ ∨ _ ≤ w.heap.size by omega)).trans bx1_2_19
      clear bx1_2_19
      have bx1_3_20 := (hw20.cell (p := ⟨w.heap.size, 3, none⟩) (show w.heap.size < _ by omega) (show w.heap.size < _ ∨ _ ≤ w.heap.size by omega)).trans bx1_3_19
      clear bx1_3_19
      have bx1_4_20 := (hw20.cell (p := ⟨w.heap.size, 4, none⟩) (show w.heap.size < _ by omega) (show w.heap.size < _ ∨ _ ≤ w.heap.size by omega)).trans bx1_4_19
      clear bx1_4_19
      have bx1_5_20 := (hw20.cell (p := ⟨w.heap.size, 5, none⟩) (show w.heap.size < _ by omega) (show w.heap.size < _ ∨ _ ≤ w.heap.size by omega)).trans bx1_5_19
      clear bx1_5_19
      have bx1_6_20 := (hw20.cell (p := ⟨w.heap.size, 6, none⟩) (show w.heap.size < _ by omega) (show w.heap.size < _ ∨ _ ≤ w.heap.size by omega)).trans bx1_6_19
      clear bx1_6_19
      have bx1_7_20 := (hw20.cell (p := ⟨w.heap.size, 7, none⟩) (show w.heap.size < _ by omega) (show w.heap.size < _ ∨ _ ≤ w.heap.size by omega)).trans bx1_7_19
      clear bx1_7_19
      have bx1_8_20 := (hw20.cell (p := ⟨w.heap.size, 8, none⟩) (show w.heap.size < _ by omega) (show w.heap.size < _ ∨ _ ≤ w.heap.size by omega)).trans bx1_8_19
      clear bx1_8_19
      have h0_20 := h0_19.within hw20 (by omega) (by omega)
      clear h0_19
      have h1_20 := h1_19.within hw20 (by omega) (by omega)
      clear h1_19
      have u6_20 := u6_19.within hw20 (by omega) (by omega)
      clear u6_19
      go_wp2_with fail
      refine (heldLiftS_same _ _ _ z10 _ _ _ ((o20.arr Lift.cs_len ic_len).more (by omega)) (by omega) LL10.out RL10.out P10.out (by omega) (by omega)).mono ?_
      rintro e w21 ⟨rfl, hb21⟩
      have B21 := bel2 B20 hb21
      have S21 := hb21.size
      have bx1_0_21 := (hb21.cell (p := ⟨w.heap.size, 0, none⟩) (show w.heap.size < _ by omega)).trans bx1_0_20
      clear bx1_0_20
      have bx1_1_21 := (hb21.cell (p := ⟨w.heap.size, 1, none⟩) (show w.heap.size < _ by omega)).trans bx1_1_20
      clear bx1_1_20
      have bx1_2_21 := (hb21.cell (p := ⟨w.heap.size, 2, none⟩) (show w.heap.size < _ by omega)).trans bx1_2_20
      clear bx1_2_20
      have bx1_3_21 := (hb21.cell (p := ⟨w.heap.size, 3, none⟩) (show w.heap.size < _ by omega)).trans bx1_3_20
      clear bx1_3_20
      have bx1_4_21 := (hb21.cell (p := ⟨w.heap.size, 4, none⟩) (show w.heap.size < _ by omega)).trans bx1_4_20
      clear bx1_4_20
      have bx1_5_21 := (hb21.cell (p := ⟨w.heap.size, 5, none⟩) (show w.heap.size < _ by omega)).trans bx1_5_20
      clear bx1_5_20
      have bx1_6_21 := (hb21.cell (p := ⟨w.heap.size, 6, none⟩) (show w.heap.size < _ by omega)).trans bx1_6_20
      clear bx1_6_20
      have bx1_7_21 := (hb21.cell (p := ⟨w.heap.size, 7, none⟩) (show w.heap.size < _ by omega)).trans bx1_7_20
      clear bx1_7_20
      have bx1_8_21 := (hb21.cell (p := ⟨w.heap.size, 8, none⟩) (show w.heap.size < _ by omega)).trans bx1_8_20
      clear bx1_8_20
      have h0_21 := h0_20.below (hb21.mono (by omega))
      clear h0_20
      have h1_21 := h1_20.below (hb21.mono (by omega))
      clear h1_20
      have u6_21 := u6_20.below (hb21.mono (by omega))
      clear u6_20
      have g10_21 := o20.bel hb21
      clear o20
      go_wp2_with fail
      have hb22 : Below w21.heap.size w21 w21.drew := (Below.refl _ _).drew
      have B22 := bel2 B21 hb22
      have S22 := hb22.size
      have bx1_0_22 := (hb22.cell (p := ⟨w.heap.size, 0, none⟩) (show w.heap.size < _ by omega)).trans bx1_0_21
      clear bx1_0_21
      have bx1_1_22 := (hb22.cell (p := ⟨w.heap.size, 1, none⟩) (show w.heap.size < _ by omega)).trans bx1_1_21
      clear bx1_1_21
      have bx1_2_22 := (hb22.cell (p := ⟨w.heap.size, 2, none⟩) (show w.heap.size < _ by omega)).trans bx1_2_21
      clear bx1_2_21
      have bx1_3_22 := (hb22.cell (p := ⟨w.heap.size, 3, none⟩) (show w.heap.size < _ by omega)).trans bx1_3_21
      clear bx1_3_21
      have bx1_4_22 := (hb22.cell (p := ⟨w.heap.size, 4, none⟩) (show w.heap.size < _ by omega)).trans bx1_4_21
      clear bx1_4_21
      have bx1_5_22 := (hb22.cell (p := ⟨w.heap.size, 5, none⟩) (show w.heap.size < _ by omega)).trans bx1_5_21
      clear bx1_5_21
      have bx1_6_22 := (hb22.cell (p := ⟨w.heap.size, 6, none⟩) (show w.heap.size < _ by omega)).trans bx1_6_21
      clear bx1_6_21
      have bx1_7_22 := (hb22.cell (p := ⟨w.heap.size, 7, none⟩) (show w.heap.size < _ by omega)).trans bx1_7_21
      clear bx1_7_21
      have bx1_8_22 := (hb22.cell (p := ⟨w.heap.size, 8, none⟩) (show w.heap.size < _ by omega)).trans bx1_8_21
      clear bx1_8_21
      have h0_22 := h0_21.below (hb22.mono (by omega))
      clear h0_21
      have h1_22 := h1_21.below (hb22.mono (by omega))
      clear h1_21
      have u6_22 := u6_21.below (hb22.mono (by omega))
      clear u6_21
      have g10_22 := g10_21.bel hb22
      clear g10_21
      go_region_held3 (fun w' => w'.cell? ⟨w.heap.size, 0, none⟩ = some (.string a1.v.name) ∧ w'.cell? ⟨w.heap.size, 1, none⟩ = some (.int .i64 a1.v.weight) ∧ w'.cell? ⟨w.heap.size, 2, none⟩ = some (.int .i64 a1.v.fx) ∧ w'.cell? ⟨w.heap.size, 3, none⟩ = some (.int .i64 a1.v.fy) ∧ w'.cell? ⟨w.heap.size, 4, none⟩ = some (.int .i64 a1.v.tx) ∧ w'.cell? ⟨w.heap.size, 5, none⟩ = some (.int .i64 a1.v.ty) ∧ w'.cell? ⟨w.heap.size, 6, none⟩ = some (.int .i64 a1.v.height) ∧ w'.cell? ⟨w.heap.size, 7, none⟩ = some (.int .i64 a1.v.deadline) ∧ w'.cell? ⟨w.heap.size, 8, none⟩ = some (.slice a1.r.a a1.r.n a1.r.cap)) (first | exact ⟨bx1_0_22, bx1_1_22, bx1_2_22, bx1_3_22, bx1_4_22, bx1_5_22, bx1_6_22, bx1_7_22, bx1_8_22⟩ | exact ⟨bx1_0_23, bx1_1_23, bx1_2_23, bx1_3_23, bx1_4_23, bx1_5_23, bx1_6_23, bx1_7_23, bx1_8_23⟩ | exact ⟨bx1_0_24, bx1_1_24, bx1_2_24, bx1_3_24, bx1_4_24, bx1_5_24, bx1_6_24, bx1_7_24, bx1_8_24⟩ | exact ⟨bx1_0_25, bx1_1_25, bx1_2_25, bx1_3_25, bx1_4_25, bx1_5_25, bx1_6_25, bx1_7_25, bx1_8_25⟩ | go_keep) ((first | (go_at_call 17; refine (toLiftH_any _ _ _ xs0 _ _ (h0_22.more (by omega)) m0 r0.out).mono ?_; rintro e w23 ⟨g23, y23, rfl, v23, o23, x23, hb23⟩; have HH23 := Lib.hid x23; have B23 := bel2 B22 hb23; have S23 := hb23.size; have bx1_0_23 := (hb23.cell (p := ⟨w.heap.size, 0, none⟩) (show w.heap.size < _ by omega)).trans bx1_0_22; have bx1_1_23 := (hb23.cell (p := ⟨w.heap.size, 1, none⟩) (show w.heap.size < _ by omega)).trans bx1_1_22; have bx1_2_23 := (hb23.cell (p := ⟨w.heap.size, 2, none⟩) (show w.heap.size < _ by omega)).trans bx1_2_22; have bx1_3_23 := (hb23.cell (p := ⟨w.heap.size, 3, none⟩) (show w.heap.size < _ by omega)).trans bx1_3_22; have bx1_4_23 := (hb23.cell (p := ⟨w.heap.size, 4, none⟩) (show w.heap.size < _ by omega)).trans bx1_4_22; have bx1_5_23 := (hb23.cell (p := ⟨w.heap.size, 5, none⟩) (show w.heap.size < _ by omega)).trans bx1_5_22; have bx1_6_23 := (hb23.cell (p := ⟨w.heap.size, 6, none⟩) (show w.heap.size < _ by omega)).trans bx1_6_22; have bx1_7_23 := (hb23.cell (p := ⟨w.heap.size, 7, none⟩) (show w.heap.size < _ by omega)).trans bx1_7_22; have bx1_8_23 := (hb23.cell (p := ⟨w.heap.size, 8, none⟩) (show w.heap.size < _ by omega)).trans bx1_8_22; have h0_23 := h0_22.below (hb23.mono (by omega)); have h1_23 := h1_22.below (hb23.mono (by omega)); have u6_23 := u6_22.below (hb23.mono (by omega)); have g10_23 := g10_22.bel hb23; have t23 := o23; have V23 := Lib.hid v23; have L23 := Lib.hid (rows_len (t23.arr Lift.cs_len ic_len)); have F23 := Lib.hid (recs_wf V23.out L23.out l0.out wf0); have R23 := Lib.hid (recs_rn V23.out L23.out l0.out r0.out); have TW23 : tot Lift.wide y23 ≤ 9437184 := (by rw [tot_wide V23.out]; exact T0)) | (go_at_call 18; refine (toLift_any a1 _ _ (h1_23.more (by omega)) m1).mono ?_; rintro e w24 ⟨g24, rfl, o24, hb24⟩; have B24 := bel2 B23 hb24; have S24 := hb24.size; have bx1_0_24 := (hb24.cell (p := ⟨w.heap.size, 0, none⟩) (show w.heap.size < _ by omega)).trans bx1_0_23; have bx1_1_24 := (hb24.cell (p := ⟨w.heap.size, 1, none⟩) (show w.heap.size < _ by omega)).trans bx1_1_23; have bx1_2_24 := (hb24.cell (p := ⟨w.heap.size, 2, none⟩) (show w.heap.size < _ by omega)).trans bx1_2_23; have bx1_3_24 := (hb24.cell (p := ⟨w.heap.size, 3, none⟩) (show w.heap.size < _ by omega)).trans bx1_3_23; have bx1_4_24 := (hb24.cell (p := ⟨w.heap.size, 4, none⟩) (show w.heap.size < _ by omega)).trans bx1_4_23; have bx1_5_24 := (hb24.cell (p := ⟨w.heap.size, 5, none⟩) (show w.heap.size < _ by omega)).trans bx1_5_23; have bx1_6_24 := (hb24.cell (p := ⟨w.heap.size, 6, none⟩) (show w.heap.size < _ by omega)).trans bx1_6_23; have bx1_7_24 := (hb24.cell (p := ⟨w.heap.size, 7, none⟩) (show w.heap.size < _ by omega)).trans bx1_7_23; have bx1_8_24 := (hb24.cell (p := ⟨w.heap.size, 8, none⟩) (show w.heap.size < _ by omega)).trans bx1_8_23; have h0_24 := h0_23.below (hb24.mono (by omega)); have h1_24 := h1_23.below (hb24.mono (by omega)); have u6_24 := u6_23.below (hb24.mono (by omega)); have g10_24 := g10_23.bel hb24; have t23_24 := t23.bel hb24; have t24 := o24) | (go_at_call 19; refine (show Calls Try.prog _ _ _ (RetLW (alXs (xs0.map Lift.val) (a1.v, a1.r.xs)) (alCode (xs0.map Lift.val) (a1.v, a1.r.xs)) _) from addLift_any _ _ _ y23 (xs0.map Lift.val) V23.out (⟨a1.v, ⟨some ⟨g24, 0, none⟩, a1.r.n, a1.r.n, a1.r.xs⟩⟩ : Lift) _ _ _ ((t23_24.arr Lift.cs_len ic_len).more (by omega)) m0 (Nat.le_refl _) m0 F23.out R23.out ⟨wf1.v, wf1.n, trivial⟩ m1 ((t24.arr ic_len).more (by omega))).mono ?_; rintro e w25 ⟨A25, c25, z25, rfl, ve25, pe25, o25, hb25⟩; have V25 := Lib.hid ve25; have LL25 : Hid (z25.length = (alXs (xs0.map Lift.val) (a1.v, a1.r.xs)).length) := (by show _ = _; rw [← V25.out, List.length_map]); have P25 := Lib.hid pe25; have RL25 := Lib.hid (rows_len (o25.arr Lift.cs_len ic_len)); have TT25 : tot Lift.wide z25 ≤ 100000000 := (by rw [tot_wideV V25.out]; exact wid0.out); have B25 := bel2 B24 hb25; have S25 := hb25.size; have bx1_0_25 := (hb25.cell (p := ⟨w.heap.size, 0, none⟩) (show w.heap.size < _ by omega)).trans bx1_0_24; have bx1_1_25 := (hb25.cell (p := ⟨w.heap.size, 1, none⟩) (show w.heap.size < _ by omega)).trans bx1_1_24; have bx1_2_25 := (hb25.cell (p := ⟨w.heap.size, 2, none⟩) (show w.heap.size < _ by omega)).trans bx1_2_24; have bx1_3_25 := (hb25.cell (p := ⟨w.heap.size, 3, none⟩) (show w.heap.size < _ by omega)).trans bx1_3_24; have bx1_4_25 := (hb25.cell (p := ⟨w.heap.size, 4, none⟩) (show w.heap.size < _ by omega)).trans bx1_4_24; have bx1_5_25 := (hb25.cell (p := ⟨w.heap.size, 5, none⟩) (show w.heap.size < _ by omega)).trans bx1_5_24; have bx1_6_25 := (hb25.cell (p := ⟨w.heap.size, 6, none⟩) (show w.heap.size < _ by omega)).trans bx1_6_24; have bx1_7_25 := (hb25.cell (p := ⟨w.heap.size, 7, none⟩) (show w.heap.size < _ by omega)).trans bx1_7_24; have bx1_8_25 := (hb25.cell (p := ⟨w.heap.size, 8, none⟩) (show w.heap.size < _ by omega)).trans bx1_8_24; have h0_25 := h0_24.below (hb25.mono (by omega)); have h1_25 := h1_24.below (hb25.mono (by omega)); have u6_25 := u6_24.below (hb25.mono (by omega)); have g10_25 := g10_24.bel hb25; have v25 := o25)))
      clear x23 bx1_0_22 bx1_1_22 bx1_2_22 bx1_3_22 bx1_4_22 bx1_5_22 bx1_6_22 bx1_7_22 bx1_8_22 h0_22 h1_22 u6_22 g10_22 o23 v23 bx1_0_23 bx1_1_23 bx1_2_23 bx1_3_23 bx1_4_23 bx1_5_23 bx1_6_23 bx1_7_23 bx1_8_23 h0_23 h1_23 u6_23 g10_23 t23 o24 ve25 pe25 bx1_0_24 bx1_1_24 bx1_2_24 bx1_3_24 bx1_4_24 bx1_5_24 bx1_6_24 bx1_7_24 bx1_8_24 h0_24 h1_24 u6_24 g10_24 t23_24 t24 o25
      go_wp2_with fail
      refine (eqLiftS_same _ _ _ _ _ z25 z6 _ _ _ (V25.out.trans V6.out.symm) ((v25.arr Lift.cs_len ic_len).more (by omega)) (u6_25.more (by omega)) (by omega) (fun r hr => by have h9 := P25.out r hr; omega)).mono ?_
      rintro e w26 ⟨rfl, hb26⟩
      have B26 := bel2 B25 hb26
      have S26 := hb26.size
      have bx1_0_26 := (hb26.cell (p := ⟨w.heap.size, 0, none⟩) (show w.heap.size < _ by omega)).trans bx1_0_25
      clear bx1_0_25
      have bx1_1_26 := (hb26.cell (p := ⟨w.heap.size, 1, none⟩) (show w.heap.size < _ by omega)).trans bx1_1_25
      clear bx1_1_25
      have bx1_2_26 := (hb26.cell (p := ⟨w.heap.size, 2, none⟩) (show w.heap.size < _ by omega)).trans bx1_2_25
      clear bx1_2_25
      have bx1_3_26 := (hb26.cell (p := ⟨w.heap.size, 3, none⟩) (show w.heap.size < _ by omega)).trans bx1_3_25
      clear bx1_3_25
      have bx1_4_26 := (hb26.cell (p := ⟨w.heap.size, 4, none⟩) (show w.heap.size < _ by omega)).trans bx1_4_25
      clear bx1_4_25
      have bx1_5_26 := (hb26.cell (p := ⟨w.heap.size, 5, none⟩) (show w.heap.size < _ by omega)).trans bx1_5_25
      clear bx1_5_25
      have bx1_6_26 := (hb26.cell (p := ⟨w.heap.size, 6, none⟩) (show w.heap.size < _ by omega)).trans bx1_6_25
      clear bx1_6_25
      have bx1_7_26 := (hb26.cell (p := ⟨w.heap.size, 7, none⟩) (show w.heap.size < _ by omega)).trans bx1_7_25
      clear bx1_7_25
      have bx1_8_26 := (hb26.cell (p := ⟨w.heap.size, 8, none⟩) (show w.heap.size < _ by omega)).trans bx1_8_25
      clear bx1_8_25
      have h0_26 := h0_25.below (hb26.mono (by omega))
      clear h0_25
      have h1_26 := h1_25.below (hb26.mono (by omega))
      clear h1_25
      have u6_26 := u6_25.below (hb26.mono (by omega))
      clear u6_25
      have g10_26 := g10_25.bel hb26
      clear g10_25
      have v25_26 := v25.bel hb26
      clear v25
      go_wp2_with fail
      refine (heldLiftS_same _ _ _ z10 _ _ _ ((g10_26.arr Lift.cs_len ic_len).more (by omega)) (by omega) LL10.out RL10.out P10.out (by omega) (by omega)).mono ?_
      rintro e w27 ⟨rfl, hb27⟩
      have B27 := bel2 B26 hb27
      have S27 := hb27.size
      have bx1_0_27 := (hb27.cell (p := ⟨w.heap.size, 0, none⟩) (show w.heap.size < _ by omega)).trans bx1_0_26
      clear bx1_0_26
      have bx1_1_27 := (hb27.cell (p := ⟨w.heap.size, 1, none⟩) (show w.heap.size < _ by omega)).trans bx1_1_26
      clear bx1_1_26
      have bx1_2_27 := (hb27.cell (p := ⟨w.heap.size, 2, none⟩) (show w.heap.size < _ by omega)).trans bx1_2_26
      clear bx1_2_26
      have bx1_3_27 := (hb27.cell (p := ⟨w.heap.size, 3, none⟩) (show w.heap.size < _ by omega)).trans bx1_3_26
      clear bx1_3_26
      have bx1_4_27 := (hb27.cell (p := ⟨w.heap.size, 4, none⟩) (show w.heap.size < _ by omega)).trans bx1_4_26
      clear bx1_4_26
      have bx1_5_27 := (hb27.cell (p := ⟨w.heap.size, 5, none⟩) (show w.heap.size < _ by omega)).trans bx1_5_26
      clear bx1_5_26
      have bx1_6_27 := (hb27.cell (p := ⟨w.heap.size, 6, none⟩) (show w.heap.size < _ by omega)).trans bx1_6_26
      clear bx1_6_26
      have bx1_7_27 := (hb27.cell (p := ⟨w.heap.size, 7, none⟩) (show w.heap.size < _ by omega)).trans bx1_7_26
      clear bx1_7_26
      have bx1_8_27 := (hb27.cell (p := ⟨w.heap.size, 8, none⟩) (show w.heap.size < _ by omega)).trans bx1_8_26
      clear bx1_8_26
      have h0_27 := h0_26.below (hb27.mono (by omega))
      clear h0_26
      have h1_27 := h1_26.below (hb27.mono (by omega))
      clear h1_26
      clear u6_26
      have g10_27 := g10_26.bel hb27
      clear g10_26
      clear v25_26
      go_wp2
      go_ret
      exact ⟨rfl, B27⟩
    · go_enter Try.func3, Try.ntmps3
      go_wp2_with fail
      obtain ⟨wa, hwa⟩ : ∃ W, W = (World.alloc w (.cells #[.string a1.v.name, .int .i64 a1.v.weight, .int .i64 a1.v.fx, .int .i64 a1.v.fy, .int .i64 a1.v.tx, .int .i64 a1.v.ty, .int .i64 a1.v.height, .int .i64 a1.v.deadline, .slice a1.r.a a1.r.n a1.r.cap] 27)) := ⟨_, rfl⟩
      rw [← hwa]
      have B0 : Below w.heap.size w wa := by rw [hwa]; exact (Below.refl _ _).alloc (by simp) _
      have S0 : w.heap.size + 1 ≤ wa.heap.size := by rw [hwa]; simp
      have bx1_0 : wa.cell? ⟨w.heap.size, 0, none⟩ = some (.string a1.v.name) := by rw [hwa]; simp
      have bx1_1 : wa.cell? ⟨w.heap.size, 1, none⟩ = some (.int .i64 a1.v.weight) := by rw [hwa]; simp
      have bx1_2 : wa.cell? ⟨w.heap.size, 2, none⟩ = some (.int .i64 a1.v.fx) := by rw [hwa]; simp
      have bx1_3 : wa.cell? ⟨w.heap.size, 3, none⟩ = some (.int .i64 a1.v.fy) := by rw [hwa]; simp
      have bx1_4 : wa.cell? ⟨w.heap.size, 4, none⟩ = some (.int .i64 a1.v.tx) := by rw [hwa]; simp
      have bx1_5 : wa.cell? ⟨w.heap.size, 5, none⟩ = some (.int .i64 a1.v.ty) := by rw [hwa]; simp
      have bx1_6 : wa.cell? ⟨w.heap.size, 6, none⟩ = some (.int .i64 a1.v.height) := by rw [hwa]; simp
      have bx1_7 : wa.cell? ⟨w.heap.size, 7, none⟩ = some (.int .i64 a1.v.deadline) := by rw [hwa]; simp
      have bx1_8 : wa.cell? ⟨w.heap.size, 8, none⟩ = some (.slice a1.r.a a1.r.n a1.r.cap) := by rw [hwa]; simp
      have h0_0 := (h0.below B0).more (show w.heap.size ≤ w.heap.size from Nat.le_refl _)
      clear h0
      have h1_0 := (h1.below B0).more (show w.heap.size ≤ w.heap.size from Nat.le_refl _)
      clear h1
      clear hwa
      go_wp2_with fail
      refine (szLiftS_ok _ _ _ xs0 _ _ _ (h0_0.more (by omega)) hn0 wf0 (by omega) (by omega) (by omega)).mono ?_
      rintro e w1 ⟨rfl, hb1⟩
      have B1 := bel2 B0 hb1
      have S1 := hb1.size
      have bx1_0_1 := (hb1.cell (p := ⟨w.heap.size, 0, none⟩) (show w.heap.size < _ by omega)).trans bx1_0
      clear bx1_0
      have bx1_1_1 := (hb1.cell (p := ⟨w.heap.size, 1, none⟩) (show w.heap.size < _ by omega)).trans bx1_1
      clear bx1_1
      have bx1_2_1 := (hb1.cell (p := ⟨w.heap.size, 2, none⟩) (show w.heap.size < _ by omega)).trans bx1_2
      clear bx1_2
      have bx1_3_1 := (hb1.cell (p := ⟨w.heap.size, 3, none⟩) (show w.heap.size < _ by omega)).trans bx1_3
      clear bx1_3
      have bx1_4_1 := (hb1.cell (p := ⟨w.heap.size, 4, none⟩) (show w.heap.size < _ by omega)).trans bx1_4
      clear bx1_4
      have bx1_5_1 := (hb1.cell (p := ⟨w.heap.size, 5, none⟩) (show w.heap.size < _ by omega)).trans bx1_5
      clear bx1_5
      have bx1_6_1 := (hb1.cell (p := ⟨w.heap.size, 6, none⟩) (show w.heap.size < _ by omega)).trans bx1_6
      clear bx1_6
      have bx1_7_1 := (hb1.cell (p := ⟨w.heap.size, 7, none⟩) (show w.heap.size < _ by omega)).trans bx1_7
      clear bx1_7
      have bx1_8_1 := (hb1.cell (p := ⟨w.heap.size, 8, none⟩) (show w.heap.size < _ by omega)).trans bx1_8
      clear bx1_8
      have h0_1 := h0_0.below (hb1.mono (by omega))
      clear h0_0
      have h1_1 := h1_0.below (hb1.mono (by omega))
      clear h1_0
      go_wp2_with fail
      refine (szLift_no a1 _ _ wf1 (by omega) (by omega) (by omega)).mono ?_
      rintro e w2 ⟨rfl, hb2⟩
      have B2 := bel2 B1 hb2
      have S2 := hb2.size
      have bx1_0_2 := (hb2.cell (p := ⟨w.heap.size, 0, none⟩) (show w.heap.size < _ by omega)).trans bx1_0_1
      clear bx1_0_1
      have bx1_1_2 := (hb2.cell (p := ⟨w.heap.size, 1, none⟩) (show w.heap.size < _ by omega)).trans bx1_1_1
      clear bx1_1_1
      have bx1_2_2 := (hb2.cell (p := ⟨w.heap.size, 2, none⟩) (show w.heap.size < _ by omega)).trans bx1_2_1
      clear bx1_2_1
      have bx1_3_2 := (hb2.cell (p := ⟨w.heap.size, 3, none⟩) (show w.heap.size < _ by omega)).trans bx1_3_1
      clear bx1_3_1
      have bx1_4_2 := (hb2.cell (p := ⟨w.heap.size, 4, none⟩) (show w.heap.size < _ by omega)).trans bx1_4_1
      clear bx1_4_1
      have bx1_5_2 := (hb2.cell (p := ⟨w.heap.size, 5, none⟩) (show w.heap.size < _ by omega)).trans bx1_5_1
      clear bx1_5_1
      have bx1_6_2 := (hb2.cell (p := ⟨w.heap.size, 6, none⟩) (show w.heap.size < _ by omega)).trans bx1_6_1
      clear bx1_6_1
      have bx1_7_2 := (hb2.cell (p := ⟨w.heap.size, 7, none⟩) (show w.heap.size < _ by omega)).trans bx1_7_1
      clear bx1_7_1
      have bx1_8_2 := (hb2.cell (p := ⟨w.heap.size, 8, none⟩) (show w.heap.size < _ by omega)).trans bx1_8_1
      clear bx1_8_1
      have h0_2 := h0_1.below (hb2.mono (by omega))
      clear h0_1
      have h1_2 := h1_1.below (hb2.mono (by omega))
      clear h1_1
      go_wp2
      go_ret
      exact ⟨rfl, B2⟩
  · go_enter Try.func3, Try.ntmps3
    go_wp2_with fail
    obtain ⟨wa, hwa⟩ : ∃ W, W = (World.alloc w (.cells #[.string a1.v.name, .int .i64 a1.v.weight, .int .i64 a1.v.fx, .int .i64 a1.v.fy, .int .i64 a1.v.tx, .int .i64 a1.v.ty, .int .i64 a1.v.height, .int .i64 a1.v.deadline, .slice a1.r.a a1.r.n a1.r.cap] 27)) := ⟨_, rfl⟩
    rw [← hwa]
    have B0 : Below w.heap.size w wa := by rw [hwa]; exact (Below.refl _ _).alloc (by simp) _
    have S0 : w.heap.size + 1 ≤ wa.heap.size := by rw [hwa]; simp
    have bx1_0 : wa.cell? ⟨w.heap.size, 0, none⟩ = some (.string a1.v.name) := by rw [hwa]; simp
    have bx1_1 : wa.cell? ⟨w.heap.size, 1, none⟩ = some (.int .i64 a1.v.weight) := by rw [hwa]; simp
    have bx1_2 : wa.cell? ⟨w.heap.size, 2, none⟩ = some (.int .i64 a1.v.fx) := by rw [hwa]; simp
    have bx1_3 : wa.cell? ⟨w.heap.size, 3, none⟩ = some (.int .i64 a1.v.fy) := by rw [hwa]; simp
    have bx1_4 : wa.cell? ⟨w.heap.size, 4, none⟩ = some (.int .i64 a1.v.tx) := by rw [hwa]; simp
    have bx1_5 : wa.cell? ⟨w.heap.size, 5, none⟩ = some (.int .i64 a1.v.ty) := by rw [hwa]; simp
    have bx1_6 : wa.cell? ⟨w.heap.size, 6, none⟩ = some (.int .i64 a1.v.height) := by rw [hwa]; simp
    have bx1_7 : wa.cell? ⟨w.heap.size, 7, none⟩ = some (.int .i64 a1.v.deadline) := by rw [hwa]; simp
    have bx1_8 : wa.cell? ⟨w.heap.size, 8, none⟩ = some (.slice a1.r.a a1.r.n a1.r.cap) := by rw [hwa]; simp
    have h0_0 := (h0.below B0).more (show w.heap.size ≤ w.heap.size from Nat.le_refl _)
    clear h0
    have h1_0 := (h1.below B0).more (show w.heap.size ≤ w.heap.size from Nat.le_refl _)
    clear h1
    clear hwa
    go_wp2_with fail
    refine (szLiftS_no _ _ _ xs0 _ _ _ (h0_0.more (by omega)) hn0 wf0 (by omega) (by omega) (by omega)).mono ?_
    rintro e w1 ⟨rfl, hb1⟩
    have B1 := bel2 B0 hb1
    have S1 := hb1.size
    have bx1_0_1 := (hb1.cell (p := ⟨w.heap.size, 0, none⟩) (show w.heap.size < _ by omega)).trans bx1_0
    clear bx1_0
    have bx1_1_1 := (hb1.cell (p := ⟨w.heap.size, 1, none⟩) (show w.heap.size < _ by omega)).trans bx1_1
    clear bx1_1
    have bx1_2_1 := (hb1.cell (p := ⟨w.heap.size, 2, none⟩) (show w.heap.size < _ by omega)).trans bx1_2
    clear bx1_2
    have bx1_3_1 := (hb1.cell (p := ⟨w.heap.size, 3, none⟩) (show w.heap.size < _ by omega)).trans bx1_3
    clear bx1_3
    have bx1_4_1 := (hb1.cell (p := ⟨w.heap.size, 4, none⟩) (show w.heap.size < _ by omega)).trans bx1_4
    clear bx1_4
    have bx1_5_1 := (hb1.cell (p := ⟨w.heap.size, 5, none⟩) (show w.heap.size < _ by omega)).trans bx1_5
    clear bx1_5
    have bx1_6_1 := (hb1.cell (p := ⟨w.heap.size, 6, none⟩) (show w.heap.size < _ by omega)).trans bx1_6
    clear bx1_6
    have bx1_7_1 := (hb1.cell (p := ⟨w.heap.size, 7, none⟩) (show w.heap.size < _ by omega)).trans bx1_7
    clear bx1_7
    have bx1_8_1 := (hb1.cell (p := ⟨w.heap.size, 8, none⟩) (show w.heap.size < _ by omega)).trans bx1_8
    clear bx1_8
    have h0_1 := h0_0.below (hb1.mono (by omega))
    clear h0_0
    have h1_1 := h1_0.below (hb1.mono (by omega))
    clear h1_0
    go_wp2
    go_ret
    exact ⟨rfl, B1⟩
end Go.Proofs.Ytbklbhbjlbojdaa.lawAddLift
