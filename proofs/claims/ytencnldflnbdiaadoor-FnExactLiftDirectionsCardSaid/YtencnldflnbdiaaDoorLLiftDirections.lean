/- FnExactLiftDirections: the walk: the law returns true for every input. -/
import Derived.Test.YtencnldflnbdiaaDoorDirs
import Derived.Test.YtencnldflnbdiaaDoorOCrane
import Derived.Test.YtencnldflnbdiaaDoorOLift
import Derived.Test.YtencnldflnbdiaaDoorBoxes
import Derived.Deep.RegionHeld3
namespace Go.Proofs.YtencnldflnbdiaaDoor.lawLiftDirections
open Go.RowKit
set_option linter.unusedVariables false
attribute [local irreducible] dirN

set_option maxRecDepth 100000 in
set_option maxHeartbeats 6400000 in
theorem walk (a0 : Crane) (a1 : Lift) (w : World) (hi0 : a0.wf ∧ Arr ChartStep.cs 2 w 0 w.heap.size a0.r.a a0.r.n a0.r.xs) (hi1 : a1.wf ∧ Arr ic 1 w 0 w.heap.size a1.r.a a1.r.n a1.r.xs) (hqt : QtrW w) :
    Calls Tryd.prog 7 #[.agg #[.string a0.v.name, .int .i64 a0.v.ax, .int .i64 a0.v.ay, .int .i64 a0.v.height, .int .i64 a0.v.jib, .int .i64 a0.v.back, .slice a0.r.a a0.r.n a0.r.cap], .agg #[.string a1.v.name, .int .i64 a1.v.weight, .int .i64 a1.v.fx, .int .i64 a1.v.fy, .int .i64 a1.v.tx, .int .i64 a1.v.ty, .int .i64 a1.v.height, .int .i64 a1.v.deadline, .slice a1.r.a a1.r.n a1.r.cap]] w fun e w' => e = .returned (.bool true) ∧ Below w.heap.size w w' := by
  have HQT := Lib.hid hqt
  clear hqt
  obtain ⟨wf0, h0⟩ := hi0
  obtain ⟨wf1, h1⟩ := hi1
  have z0 : (0 : Int) ≤ (a0.sz : Int) := by omega
  have z1 : (0 : Int) ≤ (a1.sz : Int) := by omega
  obtain ⟨wa, hwa⟩ : ∃ W, W = (w.alloc (.cells #[.string a0.v.name, .int .i64 a0.v.ax, .int .i64 a0.v.ay, .int .i64 a0.v.height, .int .i64 a0.v.jib, .int .i64 a0.v.back, .slice a0.r.a a0.r.n a0.r.cap] 74)).alloc (.cells #[.string a1.v.name, .int .i64 a1.v.weight, .int .i64 a1.v.fx, .int .i64 a1.v.fy, .int .i64 a1.v.tx, .int .i64 a1.v.ty, .int .i64 a1.v.height, .int .i64 a1.v.deadline, .slice a1.r.a a1.r.n a1.r.cap] 76) := ⟨_, rfl⟩
  have B0 : Below w.heap.size w wa := by rw [hwa]; exact ((Below.refl _ _).alloc (Nat.le_refl _) _).alloc (by simp) _
  have S0 : w.heap.size + 1 < wa.heap.size := by rw [hwa]; simp
  have X0 : BoxCrane wa (w.heap.size) a0.v a0.r.a a0.r.n a0.r.cap := by rw [hwa]; exact BoxCrane.blk ((Blk.new _ _ _).alloc _)
  have Y0 : BoxLift wa (w.heap.size + 1) a1.v a1.r.a a1.r.n a1.r.cap := by rw [hwa]; exact BoxLift.blk (Blk.new_at rfl (by simp))
  have hA0 : Arr ChartStep.cs 2 wa 0 w.heap.size a0.r.a a0.r.n a0.r.xs := h0.below B0
  have hL0 : Arr ic 1 wa 0 w.heap.size a1.r.a a1.r.n a1.r.xs := h1.below B0
  clear h0 h1
  rcases Int.lt_or_le (1048576 : Int) (a0.sz : Int) with hs0 | hs0
  · go_enter Tryd.func7, Tryd.ntmps7
    go_wp2_with fail
    rw [← hwa]
    clear hwa
    have X0_ := X0
    obtain ⟨c0, c1, c2, c3, c4, c5, c6⟩ := X0_
    have Y0_ := Y0
    obtain ⟨d0, d1, d2, d3, d4, d5, d6, d7, d8⟩ := Y0_
    go_wp2_with fail
    refine (szCrane_no a0 _ _ (hA0.more (by omega)) wf0 (by omega) (by omega) (by omega)).mono ?_
    rintro e w1 ⟨rfl, hb1⟩
    go_wp2
    go_ret
    exact ⟨rfl, B0.trans (hb1.mono B0.size)⟩
  rcases Int.lt_or_le (1048576 - (a0.sz : Int)) (a1.sz : Int) with hs1 | hs1
  · go_enter Tryd.func7, Tryd.ntmps7
    go_wp2_with fail
    rw [← hwa]
    clear hwa
    have X0_ := X0
    obtain ⟨c0, c1, c2, c3, c4, c5, c6⟩ := X0_
    have Y0_ := Y0
    obtain ⟨d0, d1, d2, d3, d4, d5, d6, d7, d8⟩ := Y0_
    go_wp2_with fail
    refine (szCrane_ok a0 _ _ (hA0.more (by omega)) wf0 (by omega) (by omega) (by omega)).mono ?_
    rintro e w1 ⟨rfl, hb1⟩
    clear c0 c1 c2 c3 c4 c5 c6 d0 d1 d2 d3 d4 d5 d6 d7 d8
    have B1 := B0.trans (hb1.mono B0.size)
    have S1 : w.heap.size + 1 < w1.heap.size := Nat.lt_of_lt_of_le S0 hb1.size
    have X1 := X0.keep hb1 (show w.heap.size < _ by omega)
    have Y1 := Y0.keep hb1 (show w.heap.size + 1 < _ by omega)
    have hA1 := hA0.below (hb1.mono (show w.heap.size ≤ _ by omega))
    have hL1 := hL0.below (hb1.mono (show w.heap.size ≤ _ by omega))
    clear X0 Y0 hA0 hL0
    have X1_ := X1
    obtain ⟨c0, c1, c2, c3, c4, c5, c6⟩ := X1_
    have Y1_ := Y1
    obtain ⟨d0, d1, d2, d3, d4, d5, d6, d7, d8⟩ := Y1_
    go_wp2_with fail
    refine (szLift_no a1 _ _ wf1 (by omega) (by omega) (by omega)).mono ?_
    rintro e w2 ⟨rfl, hb2⟩
    go_wp2
    go_ret
    exact ⟨rfl, B1.trans (hb2.mono B1.size)⟩
  have m0 : a0.r.n ≤ 1048576 := by unfold Crane.sz at hs0; omega
  have m1 : a1.r.n ≤ 1048576 := by unfold Lift.sz at hs1; omega
  have j0 := Lib.hid wf0.v.name
  have j1 := Lib.hid wf1.v.name
  go_enter Tryd.func7, Tryd.ntmps7
  go_wp2_with fail
  rw [← hwa]
  clear hwa
  have X0_ := X0
  obtain ⟨c0, c1, c2, c3, c4, c5, c6⟩ := X0_
  have Y0_ := Y0
  obtain ⟨d0, d1, d2, d3, d4, d5, d6, d7, d8⟩ := Y0_
  go_wp2_with fail
  refine (szCrane_ok a0 _ _ (hA0.more (by omega)) wf0 (by omega) (by omega) (by omega)).mono ?_
  rintro e w1 ⟨rfl, hb1⟩
  clear c0 c1 c2 c3 c4 c5 c6 d0 d1 d2 d3 d4 d5 d6 d7 d8
  have B1 := B0.trans (hb1.mono B0.size)
  have S1 : w.heap.size + 1 < w1.heap.size := Nat.lt_of_lt_of_le S0 hb1.size
  have X1 := X0.keep hb1 (show w.heap.size < _ by omega)
  have Y1 := Y0.keep hb1 (show w.heap.size + 1 < _ by omega)
  have hA1 := hA0.below (hb1.mono (show w.heap.size ≤ _ by omega))
  have hL1 := hL0.below (hb1.mono (show w.heap.size ≤ _ by omega))
  clear X0 Y0 hA0 hL0
  have X1_ := X1
  obtain ⟨c0, c1, c2, c3, c4, c5, c6⟩ := X1_
  have Y1_ := Y1
  obtain ⟨d0, d1, d2, d3, d4, d5, d6, d7, d8⟩ := Y1_
  go_wp2_with fail
  refine (szLift_ok a1 _ _ wf1 (by omega) (by omega) (by omega)).mono ?_
  rintro e w2 ⟨rfl, hb2⟩
  clear c0 c1 c2 c3 c4 c5 c6 d0 d1 d2 d3 d4 d5 d6 d7 d8
  have B2 := B1.trans (hb2.mono B1.size)
  have S2 : w.heap.size + 1 < w2.heap.size := Nat.lt_of_lt_of_le S1 hb2.size
  have X2 := X1.keep hb2 (show w.heap.size < _ by omega)
  have Y2 := Y1.keep hb2 (show w.heap.size + 1 < _ by omega)
  have hA2 := hA1.below (hb2.mono (show w.heap.size ≤ _ by omega))
  have hL2 := hL1.below (hb2.mono (show w.heap.size ≤ _ by omega))
  clear X1 Y1 hA1 hL1
  have hz : ¬ (1048576 - (a0.sz : Int) - (a1.sz : Int) < 0) := by omega
  go_wp2_with fail
  have SD : w.heap.size + 1 < w2.drew.heap.size := S2
  have BD : Below w.heap.size w w2.drew := B2.drew
  have K2 : TwoCraneLift w2.drew (w.heap.size) (w.heap.size + 1) a0.v a1.v a0.r.a a1.r.a a0.r.n a0.r.cap a1.r.n a1.r.cap := TwoCraneLift.mk_ X2 Y2
  have HA2 := Lib.hid (show Arr ChartStep.cs 2 w2.drew 0 w.heap.size a0.r.a a0.r.n a0.r.xs from hA2.below ((Below.refl _ _).drew))
  have HL2 := Lib.hid (show Arr ic 1 w2.drew 0 w.heap.size a1.r.a a1.r.n a1.r.xs from hL2.below ((Below.refl _ _).drew))
  have HBD := Lib.hid BD
  clear BD B2 S2 X2 Y2 hA2 hL2
  go_region_held3 (fun w' => w'.cell? ⟨w.heap.size, 0, none⟩ = some (.string a0.v.name) ∧ w'.cell? ⟨w.heap.size, 1, none⟩ = some (.int .i64 a0.v.ax) ∧ w'.cell? ⟨w.heap.size, 2, none⟩ = some (.int .i64 a0.v.ay) ∧ w'.cell? ⟨w.heap.size, 3, none⟩ = some (.int .i64 a0.v.height) ∧ w'.cell? ⟨w.heap.size, 4, none⟩ = some (.int .i64 a0.v.jib) ∧ w'.cell? ⟨w.heap.size, 5, none⟩ = some (.int .i64 a0.v.back) ∧ w'.cell? ⟨w.heap.size, 6, none⟩ = some (.slice a0.r.a a0.r.n a0.r.cap) ∧ w'.cell? ⟨w.heap.size + 1, 0, none⟩ = some (.string a1.v.name) ∧ w'.cell? ⟨w.heap.size + 1, 1, none⟩ = some (.int .i64 a1.v.weight) ∧ w'.cell? ⟨w.heap.size + 1, 2, none⟩ = some (.int .i64 a1.v.fx) ∧ w'.cell? ⟨w.heap.size + 1, 3, none⟩ = some (.int .i64 a1.v.fy) ∧ w'.cell? ⟨w.heap.size + 1, 4, none⟩ = some (.int .i64 a1.v.tx) ∧ w'.cell? ⟨w.heap.size + 1, 5, none⟩ = some (.int .i64 a1.v.ty) ∧ w'.cell? ⟨w.heap.size + 1, 6, none⟩ = some (.int .i64 a1.v.height) ∧ w'.cell? ⟨w.heap.size + 1, 7, none⟩ = some (.int .i64 a1.v.deadline) ∧ w'.cell? ⟨w.heap.size + 1, 8, none⟩ = some (.slice a1.r.a a1.r.n a1.r.cap)) (first | exact K2 | exact K3 | exact K4 | exact K5 | go_keep) ((first | (go_at_call 38; refine (toCrane_any a0 _ 0 (HA2.out.more (by omega)) m0).mono ?_; rintro e w3 ⟨g3, rfl, o3, hb3⟩; have K3 := K2.keep hb3 (by omega) (by omega); have SE3 := hb3.size) | (go_at_call 39; refine (toLift_any a1 _ 0 ((HL2.out.below (hb3.mono (by omega))).more (by omega)) m1).mono ?_; rintro e w4 ⟨g4, rfl, o4, hb4⟩; have K4 := K3.keep hb4 (by omega) (by omega); have SE4 := hb4.size) | (go_at_call 37; refine (show Calls Tryd.prog _ _ _ (fun e w' => e = .returned (.tuple #[.int .i64 (ldA a0.val a1.v), .int .i64 (ldB a0.val a1.v), .int .i64 (lrCode a0.val a1.v)]) ∧ Below _ _ w') from specLiftDirections_any (⟨a0.v, ⟨some ⟨g3, 0, none⟩, a0.r.n, a0.r.n, a0.r.xs⟩⟩ : Crane) (⟨a1.v, ⟨some ⟨g4, 0, none⟩, a1.r.n, a1.r.n, a1.r.xs⟩⟩ : Lift) _ _ ((o3.bel hb4).arr ChartStep.cs_len |>.more (by omega)) (Nat.le_trans m0 (by decide)) j0.out j1.out).mono ?_; rintro e w5 ⟨rfl, hb5⟩; have K5 := K4.keep hb5 (by omega) (by omega); have SE5 := hb5.size)))
  have B5 := HBD.out.trans (((hb3.trans (hb4.mono hb3.size)).trans (hb5.mono (Nat.le_trans hb3.size hb4.size))).mono (by omega))
  have S5 : w.heap.size + 1 < w5.heap.size := by omega
  have hA5 := HA2.out.below (((hb3.trans (hb4.mono hb3.size)).trans (hb5.mono (Nat.le_trans hb3.size hb4.size))).mono (by omega))
  have hL5 := HL2.out.below (((hb3.trans (hb4.mono hb3.size)).trans (hb5.mono (Nat.le_trans hb3.size hb4.size))).mono (by omega))
  have X5 := K5.fst
  have Y5 := K5.snd
  clear K2 K3 K4 K5 o3 o4 hb3 hb4 hb5 SE3 SE4 SE5 SD HBD HA2 HL2
  have X5_ := X5
  obtain ⟨c0, c1, c2, c3, c4, c5, c6⟩ := X5_
  go_wp2_with fail
  refine (toCrane_any a0 _ 0 (hA5.more (by omega)) m0).mono ?_
  rintro e w6 ⟨g6, rfl, o6, hb6⟩
  clear c0 c1 c2 c3 c4 c5 c6
  have B6 := B5.trans (hb6.mono B5.size)
  have S6 : w.heap.size + 1 < w6.heap.size := Nat.lt_of_lt_of_le S5 hb6.size
  have X6 := X5.keep hb6 (show w.heap.size < _ by omega)
  have Y6 := Y5.keep hb6 (show w.heap.size + 1 < _ by omega)
  have hA6 := hA5.below (hb6.mono (show w.heap.size ≤ _ by omega))
  have hL6 := hL5.below (hb6.mono (show w.heap.size ≤ _ by omega))
  clear X5 Y5 hA5 hL5
  have Y6_ := Y6
  obtain ⟨d0, d1, d2, d3, d4, d5, d6, d7, d8⟩ := Y6_
  go_wp2_with fail
  obtain ⟨w7, hw7⟩ : ∃ W, W = w6.alloc (.cells #[.string a0.v.name, .int .i64 a0.v.ax, .int .i64 a0.v.ay, .int .i64 a0.v.height, .int .i64 a0.v.jib, .int .i64 a0.v.back, .slice (some ⟨g6, 0, none⟩) a0.r.n a0.r.n] 56) := ⟨_, rfl⟩
  have hb7 : Below w6.heap.size w6 w7 := by rw [hw7]; exact (Below.refl _ _).alloc (Nat.le_refl _) _
  have P7 : BoxCrane w7 w6.heap.size a0.v (some ⟨g6, 0, none⟩) a0.r.n a0.r.n := by rw [hw7]; exact BoxCrane.blk (Blk.new _ _ _)
  have SP7 : w6.heap.size < w7.heap.size := by rw [hw7]; simp
  rw [← hw7]
  clear hw7
  clear d0 d1 d2 d3 d4 d5 d6 d7 d8
  have B7 := B6.trans (hb7.mono B6.size)
  have S7 : w.heap.size + 1 < w7.heap.size := Nat.lt_of_lt_of_le S6 hb7.size
  have X7 := X6.keep hb7 (show w.heap.size < _ by omega)
  have Y7 := Y6.keep hb7 (show w.heap.size + 1 < _ by omega)
  have hA7 := hA6.below (hb7.mono (show w.heap.size ≤ _ by omega))
  have hL7 := hL6.below (hb7.mono (show w.heap.size ≤ _ by omega))
  clear X6 Y6 hA6 hL6
  have o7 := o6.bel hb7
  clear o6
  refine (toLift_any a1 _ 0 (hL7.more (by omega)) m1).mono ?_
  rintro e w8 ⟨g8, rfl, o8, hb8⟩
  have B8 := B7.trans (hb8.mono B7.size)
  have S8 : w.heap.size + 1 < w8.heap.size := Nat.lt_of_lt_of_le S7 hb8.size
  have X8 := X7.keep hb8 (show w.heap.size < _ by omega)
  have Y8 := Y7.keep hb8 (show w.heap.size + 1 < _ by omega)
  have hA8 := hA7.below (hb8.mono (show w.heap.size ≤ _ by omega))
  have hL8 := hL7.below (hb8.mono (show w.heap.size ≤ _ by omega))
  clear X7 Y7 hA7 hL7
  have P8 := P7.keep hb8 (by omega)
  have o8_0 := o7.bel hb8
  clear o7 P7
  have SP8 := hb8.size
  have SQ8 : w6.heap.size < w8.heap.size := by omega
  have P8_ := P8
  obtain ⟨c0, c1, c2, c3, c4, c5, c6⟩ := P8_
  go_wp2_with fail
  obtain ⟨w9, hw9⟩ : ∃ W, W = w8.alloc (.cells #[.string a1.v.name, .int .i64 a1.v.weight, .int .i64 a1.v.fx, .int .i64 a1.v.fy, .int .i64 a1.v.tx, .int .i64 a1.v.ty, .int .i64 a1.v.height, .int .i64 a1.v.deadline, .slice (some ⟨g8, 0, none⟩) a1.r.n a1.r.n] 59) := ⟨_, rfl⟩
  have hb9 : Below w8.heap.size w8 w9 := by rw [hw9]; exact (Below.refl _ _).alloc (Nat.le_refl _) _
  have Q9 : BoxLift w9 w8.heap.size a1.v (some ⟨g8, 0, none⟩) a1.r.n a1.r.n := by rw [hw9]; exact BoxLift.blk (Blk.new _ _ _)
  have SQ9 : w8.heap.size < w9.heap.size := by rw [hw9]; simp
  rw [← hw9]
  clear hw9
  clear c0 c1 c2 c3 c4 c5 c6
  have B9 := B8.trans (hb9.mono B8.size)
  have S9 : w.heap.size + 1 < w9.heap.size := Nat.lt_of_lt_of_le S8 hb9.size
  have X9 := X8.keep hb9 (show w.heap.size < _ by omega)
  have Y9 := Y8.keep hb9 (show w.heap.size + 1 < _ by omega)
  have hA9 := hA8.below (hb9.mono (show w.heap.size ≤ _ by omega))
  have hL9 := hL8.below (hb9.mono (show w.heap.size ≤ _ by omega))
  clear X8 Y8 hA8 hL8
  have P9 := P8.keep hb9 (by omega)
  have o9_0 := o8_0.bel hb9
  have o9_1 := o8.bel hb9
  clear P8 o8_0 o8
  refine (show Calls Tryd.prog _ _ _ (fun e w' => e = .returned (.tuple #[.int .i64 (ldA a0.val a1.v), .int .i64 (ldB a0.val a1.v), .int .i64 (lrCode a0.val a1.v)]) ∧ Below _ _ w') from liftDirections_any (⟨a0.v, ⟨some ⟨g6, 0, none⟩, a0.r.n, a0.r.n, a0.r.xs⟩⟩ : Crane) (⟨a1.v, ⟨some ⟨g8, 0, none⟩, a1.r.n, a1.r.n, a1.r.xs⟩⟩ : Lift) _ _ 0 ((o9_0.arr ChartStep.cs_len).more (by omega)) (Nat.le_trans m0 (by decide)) j0.out j1.out (HQT.out.bel B9)).mono ?_
  rintro e w10 ⟨rfl, hb10⟩
  have B10 := B9.trans (hb10.mono B9.size)
  have S10 : w.heap.size + 1 < w10.heap.size := Nat.lt_of_lt_of_le S9 hb10.size
  have X10 := X9.keep hb10 (show w.heap.size < _ by omega)
  have Y10 := Y9.keep hb10 (show w.heap.size + 1 < _ by omega)
  have hA10 := hA9.below (hb10.mono (show w.heap.size ≤ _ by omega))
  have hL10 := hL9.below (hb10.mono (show w.heap.size ≤ _ by omega))
  clear X9 Y9 hA9 hL9
  have P10 := P9.keep hb10 (by omega)
  have Q10 := Q9.keep hb10 (by omega)
  have o10_0 := o9_0.bel hb10
  have o10_1 := o9_1.bel hb10
  clear P9 Q9 o9_0 o9_1
  have SE10 := hb10.size
  clear hb6 hb7 hb8 hb9 hb10
  go_wp2_with fail
  have SD10 : w.heap.size + 1 < w10.drew.heap.size := S10
  have SG10 : w6.heap.size < w10.drew.heap.size := (show w6.heap.size < w10.heap.size by omega)
  have KA10 : TwoCraneCrane w10.drew (w6.heap.size) (w.heap.size) a0.v a0.v (some ⟨g6, 0, none⟩) a0.r.a a0.r.n a0.r.n a0.r.n a0.r.cap := TwoCraneCrane.mk_ P10 X10
  have HF10 := Lib.hid (show Arr ChartStep.cs 2 w10.drew 0 w.heap.size a0.r.a a0.r.n a0.r.xs from hA10.below ((Below.refl _ _).drew))
  have HO10 := Lib.hid (o10_0.bel ((Below.refl _ _).drew))
  go_region_held3 (fun w' => w'.cell? ⟨w6.heap.size, 0, none⟩ = some (.string a0.v.name) ∧ w'.cell? ⟨w6.heap.size, 1, none⟩ = some (.int .i64 a0.v.ax) ∧ w'.cell? ⟨w6.heap.size, 2, none⟩ = some (.int .i64 a0.v.ay) ∧ w'.cell? ⟨w6.heap.size, 3, none⟩ = some (.int .i64 a0.v.height) ∧ w'.cell? ⟨w6.heap.size, 4, none⟩ = some (.int .i64 a0.v.jib) ∧ w'.cell? ⟨w6.heap.size, 5, none⟩ = some (.int .i64 a0.v.back) ∧ w'.cell? ⟨w6.heap.size, 6, none⟩ = some (.slice (some ⟨g6, 0, none⟩) a0.r.n a0.r.n) ∧ w'.cell? ⟨w.heap.size, 0, none⟩ = some (.string a0.v.name) ∧ w'.cell? ⟨w.heap.size, 1, none⟩ = some (.int .i64 a0.v.ax) ∧ w'.cell? ⟨w.heap.size, 2, none⟩ = some (.int .i64 a0.v.ay) ∧ w'.cell? ⟨w.heap.size, 3, none⟩ = some (.int .i64 a0.v.height) ∧ w'.cell? ⟨w.heap.size, 4, none⟩ = some (.int .i64 a0.v.jib) ∧ w'.cell? ⟨w.heap.size, 5, none⟩ = some (.int .i64 a0.v.back) ∧ w'.cell? ⟨w.heap.size, 6, none⟩ = some (.slice a0.r.a a0.r.n a0.r.cap)) (first | exact KA10 | exact KB11 | exact KC12 | go_keep) ((first | (go_at_call 38; refine (toCrane_any a0 _ 0 (HF10.out.more (by omega)) m0).mono ?_; rintro e w11 ⟨g11, rfl, o11, hb11⟩; have KB11 := KA10.keep hb11 (by omega) (by omega); have SE11 := hb11.size) | (go_at_call 40; refine (eqCrane_same a0.v ⟨some ⟨g6, 0, none⟩, a0.r.n, a0.r.n, a0.r.xs⟩ ⟨some ⟨g11, 0, none⟩, a0.r.n, a0.r.n, a0.r.xs⟩ _ _ _ rfl (((HO10.out.bel hb11).arr ChartStep.cs_len).more (by omega)) ((o11.arr ChartStep.cs_len).more (by omega)) (Nat.le_trans m0 (by decide))).mono ?_; rintro e w12 ⟨rfl, hb12⟩; have KC12 := KB11.keep hb12 (by omega) (by omega); have SE12 := hb12.size)))
  have hbn12 := (hb11.trans (hb12.mono hb11.size))
  have B12 := (B10.drew).trans (hbn12.mono (show w.heap.size ≤ _ by omega))
  have S12 : w.heap.size + 1 < w12.heap.size := by omega
  have Y12 := (show BoxLift w10.drew _ _ _ _ _ from Y10).keep hbn12 (show w.heap.size + 1 < _ by omega)
  have Q12 := (show BoxLift w10.drew _ _ _ _ _ from Q10).keep hbn12 (show w8.heap.size < w10.heap.size by omega)
  have hL12 := (hL10.below ((Below.refl w.heap.size w10).drew)).below (hbn12.mono (show w.heap.size ≤ _ by omega))
  have o12_1 := (o10_1.bel ((Below.refl _ w10).drew)).bel hbn12
  have SQ12 : w8.heap.size < w12.heap.size := Nat.lt_of_lt_of_le (show w8.heap.size < w10.heap.size by omega) hbn12.size
  clear KA10 KB11 KC12 HF10 HO10 o11 X10 Y10 P10 Q10 hA10 hL10 o10_0 o10_1 hb11 hb12 hbn12
  go_wp2_with fail
  have SD12 : w.heap.size + 1 < w12.drew.heap.size := S12
  have SG12 : w8.heap.size < w12.drew.heap.size := (show w8.heap.size < w12.heap.size by omega)
  have KA12 : TwoLiftLift w12.drew (w8.heap.size) (w.heap.size + 1) a1.v a1.v (some ⟨g8, 0, none⟩) a1.r.a a1.r.n a1.r.n a1.r.n a1.r.cap := TwoLiftLift.mk_ Q12 Y12
  have HF12 := Lib.hid (show Arr ic 1 w12.drew 0 w.heap.size a1.r.a a1.r.n a1.r.xs from hL12.below ((Below.refl _ _).drew))
  have HO12 := Lib.hid (o12_1.bel ((Below.refl _ _).drew))
  go_region_held3 (fun w' => w'.cell? ⟨w8.heap.size, 0, none⟩ = some (.string a1.v.name) ∧ w'.cell? ⟨w8.heap.size, 1, none⟩ = some (.int .i64 a1.v.weight) ∧ w'.cell? ⟨w8.heap.size, 2, none⟩ = some (.int .i64 a1.v.fx) ∧ w'.cell? ⟨w8.heap.size, 3, none⟩ = some (.int .i64 a1.v.fy) ∧ w'.cell? ⟨w8.heap.size, 4, none⟩ = some (.int .i64 a1.v.tx) ∧ w'.cell? ⟨w8.heap.size, 5, none⟩ = some (.int .i64 a1.v.ty) ∧ w'.cell? ⟨w8.heap.size, 6, none⟩ = some (.int .i64 a1.v.height) ∧ w'.cell? ⟨w8.heap.size, 7, none⟩ = some (.int .i64 a1.v.deadline) ∧ w'.cell? ⟨w8.heap.size, 8, none⟩ = some (.slice (some ⟨g8, 0, none⟩) a1.r.n a1.r.n) ∧ w'.cell? ⟨w.heap.size + 1, 0, none⟩ = some (.string a1.v.name) ∧ w'.cell? ⟨w.heap.size + 1, 1, none⟩ = some (.int .i64 a1.v.weight) ∧ w'.cell? ⟨w.heap.size + 1, 2, none⟩ = some (.int .i64 a1.v.fx) ∧ w'.cell? ⟨w.heap.size + 1, 3, none⟩ = some (.int .i64 a1.v.fy) ∧ w'.cell? ⟨w.heap.size + 1, 4, none⟩ = some (.int .i64 a1.v.tx) ∧ w'.cell? ⟨w.heap.size + 1, 5, none⟩ = some (.int .i64 a1.v.ty) ∧ w'.cell? ⟨w.heap.size + 1, 6, none⟩ = some (.int .i64 a1.v.height) ∧ w'.cell? ⟨w.heap.size + 1, 7, none⟩ = some (.int .i64 a1.v.deadline) ∧ w'.cell? ⟨w.heap.size + 1, 8, none⟩ = some (.slice a1.r.a a1.r.n a1.r.cap)) (first | exact KA12 | exact KB13 | exact KC14 | go_keep) ((first | (go_at_call 39; refine (toLift_any a1 _ 0 (HF12.out.more (by omega)) m1).mono ?_; rintro e w13 ⟨g13, rfl, o13, hb13⟩; have KB13 := KA12.keep hb13 (by omega) (by omega); have SE13 := hb13.size) | (go_at_call 41; refine (eqLift_same a1.v ⟨some ⟨g8, 0, none⟩, a1.r.n, a1.r.n, a1.r.xs⟩ ⟨some ⟨g13, 0, none⟩, a1.r.n, a1.r.n, a1.r.xs⟩ _ _ _ rfl (((HO12.out.bel hb13).arr ic_len).more (by omega)) ((o13.arr ic_len).more (by omega)) (Nat.le_trans m1 (by decide))).mono ?_; rintro e w14 ⟨rfl, hb14⟩; have KC14 := KB13.keep hb14 (by omega) (by omega); have SE14 := hb14.size)))
  have hbn14 := (hb13.trans (hb14.mono hb13.size))
  go_wp2
  go_ret
  exact ⟨rfl, (B12.drew).trans (hbn14.mono (by have := B12.size; omega))⟩
end Go.Proofs.YtencnldflnbdiaaDoor.lawLiftDirections
