/- FnExactFreeJibDirections: the walk: the law returns true for every input. -/
import Derived.Test.YtdhobglhjdgboaaDoorFj5
import Derived.Test.YtdhobglhjdgboaaDoorMZone
import Derived.Test.YtdhobglhjdgboaaDoorMCrane1
import Derived.Test.YtdhobglhjdgboaaDoorOCrane
import Derived.Test.YtdhobglhjdgboaaDoorOZone
import Derived.Test.YtdhobglhjdgboaaDoorZRows
import Derived.Deep.RegionHeld3
namespace Go.Proofs.YtdhobglhjdgboaaDoor.lawFreeJibDirections
open Go.RowKit
set_option linter.unusedVariables false

set_option maxRecDepth 100000 in
set_option maxHeartbeats 3200000 in
theorem walk (a0 : Crane) (A1 : Option Addr) (n1 c1 : Nat) (xs1 : List Zone) (w : World) (hi0 : a0.wf ∧ Arr ChartStep.cs 2 w 0 w.heap.size a0.r.a a0.r.n a0.r.xs) (hn1 : n1 ≤ 9223372036854775807) (ha1 : Zones w 0 w.heap.size A1 n1 xs1 ∧ ∀ p ∈ xs1, Zone.wf p) (hqt : QtrW w) :
    Calls Tryd.prog 4 #[.agg #[.string a0.v.name, .int .i64 a0.v.ax, .int .i64 a0.v.ay, .int .i64 a0.v.height, .int .i64 a0.v.jib, .int .i64 a0.v.back, .slice a0.r.a a0.r.n a0.r.cap], .slice A1 n1 c1] w fun e w' => e = .returned (.bool true) ∧ Below w.heap.size w w' := by
  have HQT := Lib.hid hqt
  clear hqt
  obtain ⟨wf0, h0⟩ := hi0
  have hj0 := wf0.v.name
  have q0 := Lib.hid h0.1
  obtain ⟨h1, wf1⟩ := ha1
  have q1 := Lib.hid h1.len
  have l1 := Lib.hid (zrows_len h1)
  have z0 : 0 ≤ (a0.sz : Int) := by omega
  have z1 : 0 ≤ szZoneS n1 xs1 := by unfold szZoneS; omega
  by_cases hs0 : (a0.sz : Int) ≤ 1048576
  · by_cases hs1 : szZoneS n1 xs1 ≤ 1048576 - (a0.sz : Int)
    · go_enter Tryd.func4, Tryd.ntmps4
      go_wp2_with fail
      obtain ⟨wa, hwa⟩ : ∃ W, W = (World.alloc w (.cells #[.string a0.v.name, .int .i64 a0.v.ax, .int .i64 a0.v.ay, .int .i64 a0.v.height, .int .i64 a0.v.jib, .int .i64 a0.v.back, .slice a0.r.a a0.r.n a0.r.cap] 34)) := ⟨_, rfl⟩
      rw [← hwa]
      have B0 : Below w.heap.size w wa := by rw [hwa]; exact (Below.refl _ _).alloc (by simp) _
      have S0 : w.heap.size + 1 ≤ wa.heap.size := by rw [hwa]; simp
      have bx0_0 : wa.cell? ⟨w.heap.size, 0, none⟩ = some (.string a0.v.name) := by rw [hwa]; simp
      have bx0_1 : wa.cell? ⟨w.heap.size, 1, none⟩ = some (.int .i64 a0.v.ax) := by rw [hwa]; simp
      have bx0_2 : wa.cell? ⟨w.heap.size, 2, none⟩ = some (.int .i64 a0.v.ay) := by rw [hwa]; simp
      have bx0_3 : wa.cell? ⟨w.heap.size, 3, none⟩ = some (.int .i64 a0.v.height) := by rw [hwa]; simp
      have bx0_4 : wa.cell? ⟨w.heap.size, 4, none⟩ = some (.int .i64 a0.v.jib) := by rw [hwa]; simp
      have bx0_5 : wa.cell? ⟨w.heap.size, 5, none⟩ = some (.int .i64 a0.v.back) := by rw [hwa]; simp
      have bx0_6 : wa.cell? ⟨w.heap.size, 6, none⟩ = some (.slice a0.r.a a0.r.n a0.r.cap) := by rw [hwa]; simp
      have h0_0 := (h0.below B0).more (show w.heap.size ≤ w.heap.size from Nat.le_refl _)
      clear h0
      have h1_0 := (h1.below B0).more (show w.heap.size ≤ w.heap.size from Nat.le_refl _)
      clear h1
      clear hwa
      go_wp2_with fail
      refine (szCrane_ok a0 _ _ (h0_0.more (by omega)) wf0 (by omega) (by omega) (by omega)).mono ?_
      rintro e w1 ⟨rfl, hb1⟩
      have B1 := bel2 B0 hb1
      have S1 := hb1.size
      have bx0_0_1 := (hb1.cell (p := ⟨w.heap.size, 0, none⟩) (show w.heap.size < _ by omega)).trans bx0_0
      clear bx0_0
      have bx0_1_1 := (hb1.cell (p := ⟨w.heap.size, 1, none⟩) (show w.heap.size < _ by omega)).trans bx0_1
      clear bx0_1
      have bx0_2_1 := (hb1.cell (p := ⟨w.heap.size, 2, none⟩) (show w.heap.size < _ by omega)).trans bx0_2
      clear bx0_2
      have bx0_3_1 := (hb1.cell (p := ⟨w.heap.size, 3, none⟩) (show w.heap.size < _ by omega)).trans bx0_3
      clear bx0_3
      have bx0_4_1 := (hb1.cell (p := ⟨w.heap.size, 4, none⟩) (show w.heap.size < _ by omega)).trans bx0_4
      clear bx0_4
      have bx0_5_1 := (hb1.cell (p := ⟨w.heap.size, 5, none⟩) (show w.heap.size < _ by omega)).trans bx0_5
      clear bx0_5
      have bx0_6_1 := (hb1.cell (p := ⟨w.heap.size, 6, none⟩) (show w.heap.size < _ by omega)).trans bx0_6
      clear bx0_6
      have h0_1 := h0_0.below (hb1.mono (by omega))
      clear h0_0
      have h1_1 := h1_0.below (hb1.mono (by omega))
      clear h1_0
      go_wp2_with fail
      refine (szZoneS_ok _ _ _ xs1 _ _ _ (h1_1.more (by omega)) hn1 wf1 (by omega) (by omega) (by omega)).mono ?_
      rintro e w2 ⟨rfl, hb2⟩
      have B2 := bel2 B1 hb2
      have S2 := hb2.size
      have bx0_0_2 := (hb2.cell (p := ⟨w.heap.size, 0, none⟩) (show w.heap.size < _ by omega)).trans bx0_0_1
      clear bx0_0_1
      have bx0_1_2 := (hb2.cell (p := ⟨w.heap.size, 1, none⟩) (show w.heap.size < _ by omega)).trans bx0_1_1
      clear bx0_1_1
      have bx0_2_2 := (hb2.cell (p := ⟨w.heap.size, 2, none⟩) (show w.heap.size < _ by omega)).trans bx0_2_1
      clear bx0_2_1
      have bx0_3_2 := (hb2.cell (p := ⟨w.heap.size, 3, none⟩) (show w.heap.size < _ by omega)).trans bx0_3_1
      clear bx0_3_1
      have bx0_4_2 := (hb2.cell (p := ⟨w.heap.size, 4, none⟩) (show w.heap.size < _ by omega)).trans bx0_4_1
      clear bx0_4_1
      have bx0_5_2 := (hb2.cell (p := ⟨w.heap.size, 5, none⟩) (show w.heap.size < _ by omega)).trans bx0_5_1
      clear bx0_5_1
      have bx0_6_2 := (hb2.cell (p := ⟨w.heap.size, 6, none⟩) (show w.heap.size < _ by omega)).trans bx0_6_1
      clear bx0_6_1
      have h0_2 := h0_1.below (hb2.mono (by omega))
      clear h0_1
      have h1_2 := h1_1.below (hb2.mono (by omega))
      clear h1_1
      have m0 : a0.r.n ≤ 1048576 := by unfold Crane.sz at hs0; omega
      have m1 : n1 ≤ 1048576 := by unfold szZoneS at hs1; omega
      have r1 := Lib.hid (zrows_le (show (tot Zone.sz xs1 : Nat) ≤ 1048576 by unfold szZoneS at hs1; omega))
      have T1 : tot Zone.wide xs1 ≤ 5242880 := by have h9 := tot_wideZone_le l1.out; rw [q1.out] at h9; unfold szZoneS at hs1; omega
      go_wp2_with fail
      refine (toCrane_any a0 _ _ (h0_2.more (by omega)) m0).mono ?_
      rintro e w3 ⟨g3, rfl, o3, hb3⟩
      have B3 := bel2 B2 hb3
      have S3 := hb3.size
      have bx0_0_3 := (hb3.cell (p := ⟨w.heap.size, 0, none⟩) (show w.heap.size < _ by omega)).trans bx0_0_2
      clear bx0_0_2
      have bx0_1_3 := (hb3.cell (p := ⟨w.heap.size, 1, none⟩) (show w.heap.size < _ by omega)).trans bx0_1_2
      clear bx0_1_2
      have bx0_2_3 := (hb3.cell (p := ⟨w.heap.size, 2, none⟩) (show w.heap.size < _ by omega)).trans bx0_2_2
      clear bx0_2_2
      have bx0_3_3 := (hb3.cell (p := ⟨w.heap.size, 3, none⟩) (show w.heap.size < _ by omega)).trans bx0_3_2
      clear bx0_3_2
      have bx0_4_3 := (hb3.cell (p := ⟨w.heap.size, 4, none⟩) (show w.heap.size < _ by omega)).trans bx0_4_2
      clear bx0_4_2
      have bx0_5_3 := (hb3.cell (p := ⟨w.heap.size, 5, none⟩) (show w.heap.size < _ by omega)).trans bx0_5_2
      clear bx0_5_2
      have bx0_6_3 := (hb3.cell (p := ⟨w.heap.size, 6, none⟩) (show w.heap.size < _ by omega)).trans bx0_6_2
      clear bx0_6_2
      have h0_3 := h0_2.below (hb3.mono (by omega))
      clear h0_2
      have h1_3 := h1_2.below (hb3.mono (by omega))
      clear h1_2
      have t3 := o3
      clear o3
      go_wp2_with fail
      refine (toZoneS_any _ _ _ xs1 _ _ (h1_3.more (by omega)) m1 r1.out).mono ?_
      rintro e w4 ⟨g4, y4, rfl, v4, o4, hb4⟩
      have B4 := bel2 B3 hb4
      have S4 := hb4.size
      have bx0_0_4 := (hb4.cell (p := ⟨w.heap.size, 0, none⟩) (show w.heap.size < _ by omega)).trans bx0_0_3
      clear bx0_0_3
      have bx0_1_4 := (hb4.cell (p := ⟨w.heap.size, 1, none⟩) (show w.heap.size < _ by omega)).trans bx0_1_3
      clear bx0_1_3
      have bx0_2_4 := (hb4.cell (p := ⟨w.heap.size, 2, none⟩) (show w.heap.size < _ by omega)).trans bx0_2_3
      clear bx0_2_3
      have bx0_3_4 := (hb4.cell (p := ⟨w.heap.size, 3, none⟩) (show w.heap.size < _ by omega)).trans bx0_3_3
      clear bx0_3_3
      have bx0_4_4 := (hb4.cell (p := ⟨w.heap.size, 4, none⟩) (show w.heap.size < _ by omega)).trans bx0_4_3
      clear bx0_4_3
      have bx0_5_4 := (hb4.cell (p := ⟨w.heap.size, 5, none⟩) (show w.heap.size < _ by omega)).trans bx0_5_3
      clear bx0_5_3
      have bx0_6_4 := (hb4.cell (p := ⟨w.heap.size, 6, none⟩) (show w.heap.size < _ by omega)).trans bx0_6_3
      clear bx0_6_3
      have h0_4 := h0_3.below (hb4.mono (by omega))
      clear h0_3
      have h1_4 := h1_3.below (hb4.mono (by omega))
      clear h1_3
      have t3_4 := t3.bel hb4
      clear t3
      have t4 := o4
      clear o4
      have V4 := Lib.hid v4
      clear v4
      have L4 := Lib.hid (zrows_len (t4.arr Zone.cs_len Pnt.cs_len))
      have F4 := Lib.hid (zrecs_wf V4.out L4.out l1.out wf1)
      have R4 := Lib.hid (zrecs_rn V4.out L4.out l1.out r1.out)
      have TW4 : tot Zone.wide y4 ≤ 5242880 := (by rw [tot_wideZone V4.out]; exact T1)
      go_wp2_with fail
      refine (specFreeJib_v (⟨a0.v, ⟨some ⟨g3, 0, none⟩, a0.r.n, a0.r.n, a0.r.xs⟩⟩ : Crane) _ _ _ y4 (xs1.map Zone.val) V4.out a0.val rfl _ _ _ ((t3_4.arr ChartStep.cs_len).more (by omega)) (Nat.le_trans m0 (by decide)) hj0 ((t4.arr Zone.cs_len Pnt.cs_len).more (by omega)) m1 R4.out).mono ?_
      rintro e w5 ⟨A5, c5, rfl, o5, hb5⟩
      have B5 := bel2 B4 hb5
      have S5 := hb5.size
      have bx0_0_5 := (hb5.cell (p := ⟨w.heap.size, 0, none⟩) (show w.heap.size < _ by omega)).trans bx0_0_4
      clear bx0_0_4
      have bx0_1_5 := (hb5.cell (p := ⟨w.heap.size, 1, none⟩) (show w.heap.size < _ by omega)).trans bx0_1_4
      clear bx0_1_4
      have bx0_2_5 := (hb5.cell (p := ⟨w.heap.size, 2, none⟩) (show w.heap.size < _ by omega)).trans bx0_2_4
      clear bx0_2_4
      have bx0_3_5 := (hb5.cell (p := ⟨w.heap.size, 3, none⟩) (show w.heap.size < _ by omega)).trans bx0_3_4
      clear bx0_3_4
      have bx0_4_5 := (hb5.cell (p := ⟨w.heap.size, 4, none⟩) (show w.heap.size < _ by omega)).trans bx0_4_4
      clear bx0_4_4
      have bx0_5_5 := (hb5.cell (p := ⟨w.heap.size, 5, none⟩) (show w.heap.size < _ by omega)).trans bx0_5_4
      clear bx0_5_4
      have bx0_6_5 := (hb5.cell (p := ⟨w.heap.size, 6, none⟩) (show w.heap.size < _ by omega)).trans bx0_6_4
      clear bx0_6_4
      have h0_5 := h0_4.below (hb5.mono (by omega))
      clear h0_4
      have h1_5 := h1_4.below (hb5.mono (by omega))
      clear h1_4
      have t3_5 := t3_4.bel hb5
      clear t3_4
      have t4_5 := t4.bel hb5
      clear t4
      have u5 := o5
      clear o5
      go_wp2_with fail
      refine (toCrane_any a0 _ _ (h0_5.more (by omega)) m0).mono ?_
      rintro e w6 ⟨g6, rfl, o6, hb6⟩
      have B6 := bel2 B5 hb6
      have S6 := hb6.size
      have bx0_0_6 := (hb6.cell (p := ⟨w.heap.size, 0, none⟩) (show w.heap.size < _ by omega)).trans bx0_0_5
      clear bx0_0_5
      have bx0_1_6 := (hb6.cell (p := ⟨w.heap.size, 1, none⟩) (show w.heap.size < _ by omega)).trans bx0_1_5
      clear bx0_1_5
      have bx0_2_6 := (hb6.cell (p := ⟨w.heap.size, 2, none⟩) (show w.heap.size < _ by omega)).trans bx0_2_5
      clear bx0_2_5
      have bx0_3_6 := (hb6.cell (p := ⟨w.heap.size, 3, none⟩) (show w.heap.size < _ by omega)).trans bx0_3_5
      clear bx0_3_5
      have bx0_4_6 := (hb6.cell (p := ⟨w.heap.size, 4, none⟩) (show w.heap.size < _ by omega)).trans bx0_4_5
      clear bx0_4_5
      have bx0_5_6 := (hb6.cell (p := ⟨w.heap.size, 5, none⟩) (show w.heap.size < _ by omega)).trans bx0_5_5
      clear bx0_5_5
      have bx0_6_6 := (hb6.cell (p := ⟨w.heap.size, 6, none⟩) (show w.heap.size < _ by omega)).trans bx0_6_5
      clear bx0_6_5
      have h0_6 := h0_5.below (hb6.mono (by omega))
      clear h0_5
      have h1_6 := h1_5.below (hb6.mono (by omega))
      clear h1_5
      clear t3_5
      clear t4_5
      have u5_6 := u5.bel hb6
      clear u5
      have t6 := o6
      clear o6
      have SX7_0 : w.heap.size < w6.heap.size := by omega
      go_wp2_with fail
      obtain ⟨w7, hw7⟩ : ∃ W : World, W = w6.alloc (.cells #[.string a0.v.name, .int .i64 a0.v.ax, .int .i64 a0.v.ay, .int .i64 a0.v.height, .int .i64 a0.v.jib, .int .i64 a0.v.back, .slice (some ⟨g6, 0, none⟩) a0.r.n a0.r.n] 44) := ⟨_, rfl⟩
      have hb7 : Below w6.heap.size w6 w7 := by rw [hw7]; exact (Below.refl _ _).alloc (Nat.le_refl _) _
      have SB7 : w6.heap.size < w7.heap.size := by rw [hw7]; simp
      have xb0_0 : w7.cell? ⟨w6.heap.size, 0, none⟩ = some (.string a0.v.name) := by rw [hw7]; simp
      have xb0_1 : w7.cell? ⟨w6.heap.size, 1, none⟩ = some (.int .i64 a0.v.ax) := by rw [hw7]; simp
      have xb0_2 : w7.cell? ⟨w6.heap.size, 2, none⟩ = some (.int .i64 a0.v.ay) := by rw [hw7]; simp
      have xb0_3 : w7.cell? ⟨w6.heap.size, 3, none⟩ = some (.int .i64 a0.v.height) := by rw [hw7]; simp
      have xb0_4 : w7.cell? ⟨w6.heap.size, 4, none⟩ = some (.int .i64 a0.v.jib) := by rw [hw7]; simp
      have xb0_5 : w7.cell? ⟨w6.heap.size, 5, none⟩ = some (.int .i64 a0.v.back) := by rw [hw7]; simp
      have xb0_6 : w7.cell? ⟨w6.heap.size, 6, none⟩ = some (.slice (some ⟨g6, 0, none⟩) a0.r.n a0.r.n) := by rw [hw7]; simp
      rw [← hw7]
      clear hw7
      have B7 := bel2 B6 hb7
      have S7 := hb7.size
      have bx0_0_7 := (hb7.cell (p := ⟨w.heap.size, 0, none⟩) (show w.heap.size < _ by omega)).trans bx0_0_6
      clear bx0_0_6
      have bx0_1_7 := (hb7.cell (p := ⟨w.heap.size, 1, none⟩) (show w.heap.size < _ by omega)).trans bx0_1_6
      clear bx0_1_6
      have bx0_2_7 := (hb7.cell (p := ⟨w.heap.size, 2, none⟩) (show w.heap.size < _ by omega)).trans bx0_2_6
      clear bx0_2_6
      have bx0_3_7 := (hb7.cell (p := ⟨w.heap.size, 3, none⟩) (show w.heap.size < _ by omega)).trans bx0_3_6
      clear bx0_3_6
      have bx0_4_7 := (hb7.cell (p := ⟨w.heap.size, 4, none⟩) (show w.heap.size < _ by omega)).trans bx0_4_6
      clear bx0_4_6
      have bx0_5_7 := (hb7.cell (p := ⟨w.heap.size, 5, none⟩) (show w.heap.size < _ by omega)).trans bx0_5_6
      clear bx0_5_6
      have bx0_6_7 := (hb7.cell (p := ⟨w.heap.size, 6, none⟩) (show w.heap.size < _ by omega)).trans bx0_6_6
      clear bx0_6_6
      have h0_7 := h0_6.below (hb7.mono (by omega))
      clear h0_6
      have h1_7 := h1_6.below (hb7.mono (by omega))
      clear h1_6
      have u5_7 := u5_6.bel hb7
      clear u5_6
      have t6_7 := t6.bel hb7
      clear t6
      go_wp2_with fail
      refine (toZoneS_any _ _ _ xs1 _ _ (h1_7.more (by omega)) m1 r1.out).mono ?_
      rintro e w8 ⟨g8, y8, rfl, v8, o8, hb8⟩
      have B8 := bel2 B7 hb8
      have S8 := hb8.size
      have bx0_0_8 := (hb8.cell (p := ⟨w.heap.size, 0, none⟩) (show w.heap.size < _ by omega)).trans bx0_0_7
      clear bx0_0_7
      have bx0_1_8 := (hb8.cell (p := ⟨w.heap.size, 1, none⟩) (show w.heap.size < _ by omega)).trans bx0_1_7
      clear bx0_1_7
      have bx0_2_8 := (hb8.cell (p := ⟨w.heap.size, 2, none⟩) (show w.heap.size < _ by omega)).trans bx0_2_7
      clear bx0_2_7
      have bx0_3_8 := (hb8.cell (p := ⟨w.heap.size, 3, none⟩) (show w.heap.size < _ by omega)).trans bx0_3_7
      clear bx0_3_7
      have bx0_4_8 := (hb8.cell (p := ⟨w.heap.size, 4, none⟩) (show w.heap.size < _ by omega)).trans bx0_4_7
      clear bx0_4_7
      have bx0_5_8 := (hb8.cell (p := ⟨w.heap.size, 5, none⟩) (show w.heap.size < _ by omega)).trans bx0_5_7
      clear bx0_5_7
      have bx0_6_8 := (hb8.cell (p := ⟨w.heap.size, 6, none⟩) (show w.heap.size < _ by omega)).trans bx0_6_7
      clear bx0_6_7
      have xb0_0_8 := (hb8.cell (p := ⟨w6.heap.size, 0, none⟩) (show w6.heap.size < _ by omega)).trans xb0_0
      clear xb0_0
      have xb0_1_8 := (hb8.cell (p := ⟨w6.heap.size, 1, none⟩) (show w6.heap.size < _ by omega)).trans xb0_1
      clear xb0_1
      have xb0_2_8 := (hb8.cell (p := ⟨w6.heap.size, 2, none⟩) (show w6.heap.size < _ by omega)).trans xb0_2
      clear xb0_2
      have xb0_3_8 := (hb8.cell (p := ⟨w6.heap.size, 3, none⟩) (show w6.heap.size < _ by omega)).trans xb0_3
      clear xb0_3
      have xb0_4_8 := (hb8.cell (p := ⟨w6.heap.size, 4, none⟩) (show w6.heap.size < _ by omega)).trans xb0_4
      clear xb0_4
      have xb0_5_8 := (hb8.cell (p := ⟨w6.heap.size, 5, none⟩) (show w6.heap.size < _ by omega)).trans xb0_5
      clear xb0_5
      have xb0_6_8 := (hb8.cell (p := ⟨w6.heap.size, 6, none⟩) (show w6.heap.size < _ by omega)).trans xb0_6
      clear xb0_6
      have h0_8 := h0_7.below (hb8.mono (by omega))
      clear h0_7
      have h1_8 := h1_7.below (hb8.mono (by omega))
      clear h1_7
      have u5_8 := u5_7.bel hb8
      clear u5_7
      have t6_8 := t6_7.bel hb8
      clear t6_7
      have t8 := o8
      clear o8
      have V8 := Lib.hid v8
      clear v8
      have L8 := Lib.hid (zrows_len (t8.arr Zone.cs_len Pnt.cs_len))
      have F8 := Lib.hid (zrecs_wf V8.out L8.out l1.out wf1)
      have R8 := Lib.hid (zrecs_rn V8.out L8.out l1.out r1.out)
      have TW8 : tot Zone.wide y8 ≤ 5242880 := (by rw [tot_wideZone V8.out]; exact T1)
      go_wp2_with fail
      refine (freeJib_v (⟨a0.v, ⟨some ⟨g6, 0, none⟩, a0.r.n, a0.r.n, a0.r.xs⟩⟩ : Crane) _ _ _ y8 (xs1.map Zone.val) V8.out a0.val rfl _ _ _ ((t6_8.arr ChartStep.cs_len).more (by omega)) (Nat.le_trans m0 (by decide)) hj0 ((t8.arr Zone.cs_len Pnt.cs_len).more (by omega)) m1 R8.out (HQT.out.bel B8)).mono ?_
      rintro e w9 ⟨A9, c9, rfl, o9, hb9⟩
      have B9 := bel2 B8 hb9
      have S9 := hb9.size
      have bx0_0_9 := (hb9.cell (p := ⟨w.heap.size, 0, none⟩) (show w.heap.size < _ by omega)).trans bx0_0_8
      clear bx0_0_8
      have bx0_1_9 := (hb9.cell (p := ⟨w.heap.size, 1, none⟩) (show w.heap.size < _ by omega)).trans bx0_1_8
      clear bx0_1_8
      have bx0_2_9 := (hb9.cell (p := ⟨w.heap.size, 2, none⟩) (show w.heap.size < _ by omega)).trans bx0_2_8
      clear bx0_2_8
      have bx0_3_9 := (hb9.cell (p := ⟨w.heap.size, 3, none⟩) (show w.heap.size < _ by omega)).trans bx0_3_8
      clear bx0_3_8
      have bx0_4_9 := (hb9.cell (p := ⟨w.heap.size, 4, none⟩) (show w.heap.size < _ by omega)).trans bx0_4_8
      clear bx0_4_8
      have bx0_5_9 := (hb9.cell (p := ⟨w.heap.size, 5, none⟩) (show w.heap.size < _ by omega)).trans bx0_5_8
      clear bx0_5_8
      have bx0_6_9 := (hb9.cell (p := ⟨w.heap.size, 6, none⟩) (show w.heap.size < _ by omega)).trans bx0_6_8
      clear bx0_6_8
      have xb0_0_9 := (hb9.cell (p := ⟨w6.heap.size, 0, none⟩) (show w6.heap.size < _ by omega)).trans xb0_0_8
      clear xb0_0_8
      have xb0_1_9 := (hb9.cell (p := ⟨w6.heap.size, 1, none⟩) (show w6.heap.size < _ by omega)).trans xb0_1_8
      clear xb0_1_8
      have xb0_2_9 := (hb9.cell (p := ⟨w6.heap.size, 2, none⟩) (show w6.heap.size < _ by omega)).trans xb0_2_8
      clear xb0_2_8
      have xb0_3_9 := (hb9.cell (p := ⟨w6.heap.size, 3, none⟩) (show w6.heap.size < _ by omega)).trans xb0_3_8
      clear xb0_3_8
      have xb0_4_9 := (hb9.cell (p := ⟨w6.heap.size, 4, none⟩) (show w6.heap.size < _ by omega)).trans xb0_4_8
      clear xb0_4_8
      have xb0_5_9 := (hb9.cell (p := ⟨w6.heap.size, 5, none⟩) (show w6.heap.size < _ by omega)).trans xb0_5_8
      clear xb0_5_8
      have xb0_6_9 := (hb9.cell (p := ⟨w6.heap.size, 6, none⟩) (show w6.heap.size < _ by omega)).trans xb0_6_8
      clear xb0_6_8
      have h0_9 := h0_8.below (hb9.mono (by omega))
      clear h0_8
      have h1_9 := h1_8.below (hb9.mono (by omega))
      clear h1_8
      have u5_9 := u5_8.bel hb9
      clear u5_8
      have t6_9 := t6_8.bel hb9
      clear t6_8
      have t8_9 := t8.bel hb9
      clear t8
      have g9 := o9
      clear o9
      have len0 : (fjXs a0.val (xs1.map Zone.val)).length ≤ 1048576 := by have := fjXs_len a0.val (xs1.map Zone.val); omega
      go_wp2_with fail
      refine (eqInt64S_same _ _ _ _ _ (fjXs a0.val (xs1.map Zone.val)) _ _ _ ((g9.arr ic_len).more (by omega)) ((u5_9.arr ic_len).more (by omega)) (by omega)).mono ?_
      rintro e w10 ⟨rfl, hb10⟩
      have B10 := bel2 B9 hb10
      have S10 := hb10.size
      have bx0_0_10 := (hb10.cell (p := ⟨w.heap.size, 0, none⟩) (show w.heap.size < _ by omega)).trans bx0_0_9
      clear bx0_0_9
      have bx0_1_10 := (hb10.cell (p := ⟨w.heap.size, 1, none⟩) (show w.heap.size < _ by omega)).trans bx0_1_9
      clear bx0_1_9
      have bx0_2_10 := (hb10.cell (p := ⟨w.heap.size, 2, none⟩) (show w.heap.size < _ by omega)).trans bx0_2_9
      clear bx0_2_9
      have bx0_3_10 := (hb10.cell (p := ⟨w.heap.size, 3, none⟩) (show w.heap.size < _ by omega)).trans bx0_3_9
      clear bx0_3_9
      have bx0_4_10 := (hb10.cell (p := ⟨w.heap.size, 4, none⟩) (show w.heap.size < _ by omega)).trans bx0_4_9
      clear bx0_4_9
      have bx0_5_10 := (hb10.cell (p := ⟨w.heap.size, 5, none⟩) (show w.heap.size < _ by omega)).trans bx0_5_9
      clear bx0_5_9
      have bx0_6_10 := (hb10.cell (p := ⟨w.heap.size, 6, none⟩) (show w.heap.size < _ by omega)).trans bx0_6_9
      clear bx0_6_9
      have xb0_0_10 := (hb10.cell (p := ⟨w6.heap.size, 0, none⟩) (show w6.heap.size < _ by omega)).trans xb0_0_9
      clear xb0_0_9
      have xb0_1_10 := (hb10.cell (p := ⟨w6.heap.size, 1, none⟩) (show w6.heap.size < _ by omega)).trans xb0_1_9
      clear xb0_1_9
      have xb0_2_10 := (hb10.cell (p := ⟨w6.heap.size, 2, none⟩) (show w6.heap.size < _ by omega)).trans xb0_2_9
      clear xb0_2_9
      have xb0_3_10 := (hb10.cell (p := ⟨w6.heap.size, 3, none⟩) (show w6.heap.size < _ by omega)).trans xb0_3_9
      clear xb0_3_9
      have xb0_4_10 := (hb10.cell (p := ⟨w6.heap.size, 4, none⟩) (show w6.heap.size < _ by omega)).trans xb0_4_9
      clear xb0_4_9
      have xb0_5_10 := (hb10.cell (p := ⟨w6.heap.size, 5, none⟩) (show w6.heap.size < _ by omega)).trans xb0_5_9
      clear xb0_5_9
      have xb0_6_10 := (hb10.cell (p := ⟨w6.heap.size, 6, none⟩) (show w6.heap.size < _ by omega)).trans xb0_6_9
      clear xb0_6_9
      have h0_10 := h0_9.below (hb10.mono (by omega))
      clear h0_9
      have h1_10 := h1_9.below (hb10.mono (by omega))
      clear h1_9
      have u5_10 := u5_9.bel hb10
      clear u5_9
      have t6_10 := t6_9.bel hb10
      clear t6_9
      have t8_10 := t8_9.bel hb10
      clear t8_9
      have g9_10 := g9.bel hb10
      clear g9
      go_wp2_with fail
      have hb11 : Below w10.heap.size w10 w10.drew := (Below.refl _ _).drew
      have B11 := bel2 B10 hb11
      have S11 := hb11.size
      have bx0_0_11 := (hb11.cell (p := ⟨w.heap.size, 0, none⟩) (show w.heap.size < _ by omega)).trans bx0_0_10
      clear bx0_0_10
      have bx0_1_11 := (hb11.cell (p := ⟨w.heap.size, 1, none⟩) (show w.heap.size < _ by omega)).trans bx0_1_10
      clear bx0_1_10
      have bx0_2_11 := (hb11.cell (p := ⟨w.heap.size, 2, none⟩) (show w.heap.size < _ by omega)).trans bx0_2_10
      clear bx0_2_10
      have bx0_3_11 := (hb11.cell (p := ⟨w.heap.size, 3, none⟩) (show w.heap.size < _ by omega)).trans bx0_3_10
      clear bx0_3_10
      have bx0_4_11 := (hb11.cell (p := ⟨w.heap.size, 4, none⟩) (show w.heap.size < _ by omega)).trans bx0_4_10
      clear bx0_4_10
      have bx0_5_11 := (hb11.cell (p := ⟨w.heap.size, 5, none⟩) (show w.heap.size < _ by omega)).trans bx0_5_10
      clear bx0_5_10
      have bx0_6_11 := (hb11.cell (p := ⟨w.heap.size, 6, none⟩) (show w.heap.size < _ by omega)).trans bx0_6_10
      clear bx0_6_10
      have xb0_0_11 := (hb11.cell (p := ⟨w6.heap.size, 0, none⟩) (show w6.heap.size < _ by omega)).trans xb0_0_10
      clear xb0_0_10
      have xb0_1_11 := (hb11.cell (p := ⟨w6.heap.size, 1, none⟩) (show w6.heap.size < _ by omega)).trans xb0_1_10
      clear xb0_1_10
      have xb0_2_11 := (hb11.cell (p := ⟨w6.heap.size, 2, none⟩) (show w6.heap.size < _ by omega)).trans xb0_2_10
      clear xb0_2_10
      have xb0_3_11 := (hb11.cell (p := ⟨w6.heap.size, 3, none⟩) (show w6.heap.size < _ by omega)).trans xb0_3_10
      clear xb0_3_10
      have xb0_4_11 := (hb11.cell (p := ⟨w6.heap.size, 4, none⟩) (show w6.heap.size < _ by omega)).trans xb0_4_10
      clear xb0_4_10
      have xb0_5_11 := (hb11.cell (p := ⟨w6.heap.size, 5, none⟩) (show w6.heap.size < _ by omega)).trans xb0_5_10
      clear xb0_5_10
      have xb0_6_11 := (hb11.cell (p := ⟨w6.heap.size, 6, none⟩) (show w6.heap.size < _ by omega)).trans xb0_6_10
      clear xb0_6_10
      have h0_11 := h0_10.below (hb11.mono (by omega))
      clear h0_10
      have h1_11 := h1_10.below (hb11.mono (by omega))
      clear h1_10
      have u5_11 := u5_10.bel hb11
      clear u5_10
      have t6_11 := t6_10.bel hb11
      clear t6_10
      have t8_11 := t8_10.bel hb11
      clear t8_10
      have g9_11 := g9_10.bel hb11
      clear g9_10
      go_region_held3 (fun w' => w'.cell? ⟨w.heap.size, 0, none⟩ = some (.string a0.v.name) ∧ w'.cell? ⟨w.heap.size, 1, none⟩ = some (.int .i64 a0.v.ax) ∧ w'.cell? ⟨w.heap.size, 2, none⟩ = some (.int .i64 a0.v.ay) ∧ w'.cell? ⟨w.heap.size, 3, none⟩ = some (.int .i64 a0.v.height) ∧ w'.cell? ⟨w.heap.size, 4, none⟩ = some (.int .i64 a0.v.jib) ∧ w'.cell? ⟨w.heap.size, 5, none⟩ = some (.int .i64 a0.v.back) ∧ w'.cell? ⟨w.heap.size, 6, none⟩ = some (.slice a0.r.a a0.r.n a0.r.cap) ∧ w'.cell? ⟨w6.heap.size, 0, none⟩ = some (.string a0.v.name) ∧ w'.cell? ⟨w6.heap.size, 1, none⟩ = some (.int .i64 a0.v.ax) ∧ w'.cell? ⟨w6.heap.size, 2, none⟩ = some (.int .i64 a0.v.ay) ∧ w'.cell? ⟨w6.heap.size, 3, none⟩ = some (.int .i64 a0.v.height) ∧ w'.cell? ⟨w6.heap.size, 4, none⟩ = some (.int .i64 a0.v.jib) ∧ w'.cell? ⟨w6.heap.size, 5, none⟩ = some (.int .i64 a0.v.back) ∧ w'.cell? ⟨w6.heap.size, 6, none⟩ = some (.slice (some ⟨g6, 0, none⟩) a0.r.n a0.r.n)) (first | exact ⟨bx0_0_11, bx0_1_11, bx0_2_11, bx0_3_11, bx0_4_11, bx0_5_11, bx0_6_11, xb0_0_11, xb0_1_11, xb0_2_11, xb0_3_11, xb0_4_11, xb0_5_11, xb0_6_11⟩ | exact ⟨bx0_0_12, bx0_1_12, bx0_2_12, bx0_3_12, bx0_4_12, bx0_5_12, bx0_6_12, xb0_0_12, xb0_1_12, xb0_2_12, xb0_3_12, xb0_4_12, xb0_5_12, xb0_6_12⟩ | exact ⟨bx0_0_13, bx0_1_13, bx0_2_13, bx0_3_13, bx0_4_13, bx0_5_13, bx0_6_13, xb0_0_13, xb0_1_13, xb0_2_13, xb0_3_13, xb0_4_13, xb0_5_13, xb0_6_13⟩ | go_keep) ((first | (go_at_call 18; refine (toCrane_any a0 _ _ (h0_11.more (by omega)) m0).mono ?_; rintro e w12 ⟨g12, rfl, o12, hb12⟩; have B12 := bel2 B11 hb12; have S12 := hb12.size; have bx0_0_12 := (hb12.cell (p := ⟨w.heap.size, 0, none⟩) (show w.heap.size < _ by omega)).trans bx0_0_11; have bx0_1_12 := (hb12.cell (p := ⟨w.heap.size, 1, none⟩) (show w.heap.size < _ by omega)).trans bx0_1_11; have bx0_2_12 := (hb12.cell (p := ⟨w.heap.size, 2, none⟩) (show w.heap.size < _ by omega)).trans bx0_2_11; have bx0_3_12 := (hb12.cell (p := ⟨w.heap.size, 3, none⟩) (show w.heap.size < _ by omega)).trans bx0_3_11; have bx0_4_12 := (hb12.cell (p := ⟨w.heap.size, 4, none⟩) (show w.heap.size < _ by omega)).trans bx0_4_11; have bx0_5_12 := (hb12.cell (p := ⟨w.heap.size, 5, none⟩) (show w.heap.size < _ by omega)).trans bx0_5_11; have bx0_6_12 := (hb12.cell (p := ⟨w.heap.size, 6, none⟩) (show w.heap.size < _ by omega)).trans bx0_6_11; have xb0_0_12 := (hb12.cell (p := ⟨w6.heap.size, 0, none⟩) (show w6.heap.size < _ by omega)).trans xb0_0_11; have xb0_1_12 := (hb12.cell (p := ⟨w6.heap.size, 1, none⟩) (show w6.heap.size < _ by omega)).trans xb0_1_11; have xb0_2_12 := (hb12.cell (p := ⟨w6.heap.size, 2, none⟩) (show w6.heap.size < _ by omega)).trans xb0_2_11; have xb0_3_12 := (hb12.cell (p := ⟨w6.heap.size, 3, none⟩) (show w6.heap.size < _ by omega)).trans xb0_3_11; have xb0_4_12 := (hb12.cell (p := ⟨w6.heap.size, 4, none⟩) (show w6.heap.size < _ by omega)).trans xb0_4_11; have xb0_5_12 := (hb12.cell (p := ⟨w6.heap.size, 5, none⟩) (show w6.heap.size < _ by omega)).trans xb0_5_11; have xb0_6_12 := (hb12.cell (p := ⟨w6.heap.size, 6, none⟩) (show w6.heap.size < _ by omega)).trans xb0_6_11; have h0_12 := h0_11.below (hb12.mono (by omega)); have h1_12 := h1_11.below (hb12.mono (by omega)); have u5_12 := u5_11.bel hb12; have t6_12 := t6_11.bel hb12; have t8_12 := t8_11.bel hb12; have g9_12 := g9_11.bel hb12; have t12 := o12) | (go_at_call 22; refine (eqCrane_same a0.v ⟨some ⟨g6, 0, none⟩, a0.r.n, a0.r.n, a0.r.xs⟩ ⟨some ⟨g12, 0, none⟩, a0.r.n, a0.r.n, a0.r.xs⟩ _ _ _ rfl ((t6_12.arr ChartStep.cs_len).more (by omega)) ((t12.arr ChartStep.cs_len).more (by omega)) (Nat.le_trans m0 (by decide))).mono ?_; rintro e w13 ⟨rfl, hb13⟩; have B13 := bel2 B12 hb13; have S13 := hb13.size; have bx0_0_13 := (hb13.cell (p := ⟨w.heap.size, 0, none⟩) (show w.heap.size < _ by omega)).trans bx0_0_12; have bx0_1_13 := (hb13.cell (p := ⟨w.heap.size, 1, none⟩) (show w.heap.size < _ by omega)).trans bx0_1_12; have bx0_2_13 := (hb13.cell (p := ⟨w.heap.size, 2, none⟩) (show w.heap.size < _ by omega)).trans bx0_2_12; have bx0_3_13 := (hb13.cell (p := ⟨w.heap.size, 3, none⟩) (show w.heap.size < _ by omega)).trans bx0_3_12; have bx0_4_13 := (hb13.cell (p := ⟨w.heap.size, 4, none⟩) (show w.heap.size < _ by omega)).trans bx0_4_12; have bx0_5_13 := (hb13.cell (p := ⟨w.heap.size, 5, none⟩) (show w.heap.size < _ by omega)).trans bx0_5_12; have bx0_6_13 := (hb13.cell (p := ⟨w.heap.size, 6, none⟩) (show w.heap.size < _ by omega)).trans bx0_6_12; have xb0_0_13 := (hb13.cell (p := ⟨w6.heap.size, 0, none⟩) (show w6.heap.size < _ by omega)).trans xb0_0_12; have xb0_1_13 := (hb13.cell (p := ⟨w6.heap.size, 1, none⟩) (show w6.heap.size < _ by omega)).trans xb0_1_12; have xb0_2_13 := (hb13.cell (p := ⟨w6.heap.size, 2, none⟩) (show w6.heap.size < _ by omega)).trans xb0_2_12; have xb0_3_13 := (hb13.cell (p := ⟨w6.heap.size, 3, none⟩) (show w6.heap.size < _ by omega)).trans xb0_3_12; have xb0_4_13 := (hb13.cell (p := ⟨w6.heap.size, 4, none⟩) (show w6.heap.size < _ by omega)).trans xb0_4_12; have xb0_5_13 := (hb13.cell (p := ⟨w6.heap.size, 5, none⟩) (show w6.heap.size < _ by omega)).trans xb0_5_12; have xb0_6_13 := (hb13.cell (p := ⟨w6.heap.size, 6, none⟩) (show w6.heap.size < _ by omega)).trans xb0_6_12; have h0_13 := h0_12.below (hb13.mono (by omega)); have h1_13 := h1_12.below (hb13.mono (by omega)); have u5_13 := u5_12.bel hb13; have t6_13 := t6_12.bel hb13; have t8_13 := t8_12.bel hb13; have g9_13 := g9_12.bel hb13)))
      clear bx0_0_11 bx0_1_11 bx0_2_11 bx0_3_11 bx0_4_11 bx0_5_11 bx0_6_11 xb0_0_11 xb0_1_11 xb0_2_11 xb0_3_11 xb0_4_11 xb0_5_11 xb0_6_11 h0_11 h1_11 u5_11 t6_11 t8_11 g9_11 o12 bx0_0_12 bx0_1_12 bx0_2_12 bx0_3_12 bx0_4_12 bx0_5_12 bx0_6_12 xb0_0_12 xb0_1_12 xb0_2_12 xb0_3_12 xb0_4_12 xb0_5_12 xb0_6_12 h0_12 h1_12 u5_12 t6_12 t8_12 g9_12 t12
      go_wp2_with fail
      refine (toZoneS_any _ _ _ xs1 _ _ (h1_13.more (by omega)) m1 r1.out).mono ?_
      rintro e w14 ⟨g14, y14, rfl, v14, o14, hb14⟩
      have B14 := bel2 B13 hb14
      have S14 := hb14.size
      have bx0_0_14 := (hb14.cell (p := ⟨w.heap.size, 0, none⟩) (show w.heap.size < _ by omega)).trans bx0_0_13
      clear bx0_0_13
      have bx0_1_14 := (hb14.cell (p := ⟨w.heap.size, 1, none⟩) (show w.heap.size < _ by omega)).trans bx0_1_13
      clear bx0_1_13
      have bx0_2_14 := (hb14.cell (p := ⟨w.heap.size, 2, none⟩) (show w.heap.size < _ by omega)).trans bx0_2_13
      clear bx0_2_13
      have bx0_3_14 := (hb14.cell (p := ⟨w.heap.size, 3, none⟩) (show w.heap.size < _ by omega)).trans bx0_3_13
      clear bx0_3_13
      have bx0_4_14 := (hb14.cell (p := ⟨w.heap.size, 4, none⟩) (show w.heap.size < _ by omega)).trans bx0_4_13
      clear bx0_4_13
      have bx0_5_14 := (hb14.cell (p := ⟨w.heap.size, 5, none⟩) (show w.heap.size < _ by omega)).trans bx0_5_13
      clear bx0_5_13
      have bx0_6_14 := (hb14.cell (p := ⟨w.heap.size, 6, none⟩) (show w.heap.size < _ by omega)).trans bx0_6_13
      clear bx0_6_13
      have xb0_0_14 := (hb14.cell (p := ⟨w6.heap.size, 0, none⟩) (show w6.heap.size < _ by omega)).trans xb0_0_13
      clear xb0_0_13
      have xb0_1_14 := (hb14.cell (p := ⟨w6.heap.size, 1, none⟩) (show w6.heap.size < _ by omega)).trans xb0_1_13
      clear xb0_1_13
      have xb0_2_14 := (hb14.cell (p := ⟨w6.heap.size, 2, none⟩) (show w6.heap.size < _ by omega)).trans xb0_2_13
      clear xb0_2_13
      have xb0_3_14 := (hb14.cell (p := ⟨w6.heap.size, 3, none⟩) (show w6.heap.size < _ by omega)).trans xb0_3_13
      clear xb0_3_13
      have xb0_4_14 := (hb14.cell (p := ⟨w6.heap.size, 4, none⟩) (show w6.heap.size < _ by omega)).trans xb0_4_13
      clear xb0_4_13
      have xb0_5_14 := (hb14.cell (p := ⟨w6.heap.size, 5, none⟩) (show w6.heap.size < _ by omega)).trans xb0_5_13
      clear xb0_5_13
      have xb0_6_14 := (hb14.cell (p := ⟨w6.heap.size, 6, none⟩) (show w6.heap.size < _ by omega)).trans xb0_6_13
      clear xb0_6_13
      have h0_14 := h0_13.below (hb14.mono (by omega))
      clear h0_13
      have h1_14 := h1_13.below (hb14.mono (by omega))
      clear h1_13
      have u5_14 := u5_13.bel hb14
      clear u5_13
      have t6_14 := t6_13.bel hb14
      clear t6_13
      have t8_14 := t8_13.bel hb14
      clear t8_13
      have g9_14 := g9_13.bel hb14
      clear g9_13
      have t14 := o14
      clear o14
      have V14 := Lib.hid v14
      clear v14
      have L14 := Lib.hid (zrows_len (t14.arr Zone.cs_len Pnt.cs_len))
      have F14 := Lib.hid (zrecs_wf V14.out L14.out l1.out wf1)
      have R14 := Lib.hid (zrecs_rn V14.out L14.out l1.out r1.out)
      have TW14 : tot Zone.wide y14 ≤ 5242880 := (by rw [tot_wideZone V14.out]; exact T1)
      go_wp2_with fail
      refine (eqZoneS_same _ _ _ _ _ y8 y14 _ _ _ (V8.out.trans V14.out.symm) ((t8_14.arr Zone.cs_len Pnt.cs_len).more (by omega)) ((t14.arr Zone.cs_len Pnt.cs_len).more (by omega)) (by omega) (fun p hp => (F8.out p hp).n)).mono ?_
      rintro e w15 ⟨rfl, hb15⟩
      have B15 := bel2 B14 hb15
      have S15 := hb15.size
      have bx0_0_15 := (hb15.cell (p := ⟨w.heap.size, 0, none⟩) (show w.heap.size < _ by omega)).trans bx0_0_14
      clear bx0_0_14
      have bx0_1_15 := (hb15.cell (p := ⟨w.heap.size, 1, none⟩) (show w.heap.size < _ by omega)).trans bx0_1_14
      clear bx0_1_14
      have bx0_2_15 := (hb15.cell (p := ⟨w.heap.size, 2, none⟩) (show w.heap.size < _ by omega)).trans bx0_2_14
      clear bx0_2_14
      have bx0_3_15 := (hb15.cell (p := ⟨w.heap.size, 3, none⟩) (show w.heap.size < _ by omega)).trans bx0_3_14
      clear bx0_3_14
      have bx0_4_15 := (hb15.cell (p := ⟨w.heap.size, 4, none⟩) (show w.heap.size < _ by omega)).trans bx0_4_14
      clear bx0_4_14
      have bx0_5_15 := (hb15.cell (p := ⟨w.heap.size, 5, none⟩) (show w.heap.size < _ by omega)).trans bx0_5_14
      clear bx0_5_14
      have bx0_6_15 := (hb15.cell (p := ⟨w.heap.size, 6, none⟩) (show w.heap.size < _ by omega)).trans bx0_6_14
      clear bx0_6_14
      have xb0_0_15 := (hb15.cell (p := ⟨w6.heap.size, 0, none⟩) (show w6.heap.size < _ by omega)).trans xb0_0_14
      clear xb0_0_14
      have xb0_1_15 := (hb15.cell (p := ⟨w6.heap.size, 1, none⟩) (show w6.heap.size < _ by omega)).trans xb0_1_14
      clear xb0_1_14
      have xb0_2_15 := (hb15.cell (p := ⟨w6.heap.size, 2, none⟩) (show w6.heap.size < _ by omega)).trans xb0_2_14
      clear xb0_2_14
      have xb0_3_15 := (hb15.cell (p := ⟨w6.heap.size, 3, none⟩) (show w6.heap.size < _ by omega)).trans xb0_3_14
      clear xb0_3_14
      have xb0_4_15 := (hb15.cell (p := ⟨w6.heap.size, 4, none⟩) (show w6.heap.size < _ by omega)).trans xb0_4_14
      clear xb0_4_14
      have xb0_5_15 := (hb15.cell (p := ⟨w6.heap.size, 5, none⟩) (show w6.heap.size < _ by omega)).trans xb0_5_14
      clear xb0_5_14
      have xb0_6_15 := (hb15.cell (p := ⟨w6.heap.size, 6, none⟩) (show w6.heap.size < _ by omega)).trans xb0_6_14
      clear xb0_6_14
      have h0_15 := h0_14.below (hb15.mono (by omega))
      clear h0_14
      have h1_15 := h1_14.below (hb15.mono (by omega))
      clear h1_14
      have u5_15 := u5_14.bel hb15
      clear u5_14
      have t6_15 := t6_14.bel hb15
      clear t6_14
      have t8_15 := t8_14.bel hb15
      clear t8_14
      have g9_15 := g9_14.bel hb15
      clear g9_14
      clear t14
      go_wp2_with fail
      refine (markCrane_any a0.v _ _ _ _ _ _ _ _ t6_15 (by omega) (by omega) (by omega) (by omega)).mono ?_
      rintro e w16 ⟨rfl, hw16, o16⟩
      have B16 := Below.within B15 hw16 (by omega) (by omega)
      have S16 := hw16.size
      have bx0_0_16 := (hw16.cell (p := ⟨w.heap.size, 0, none⟩) (show w.heap.size < _ by omega) (show w.heap.size < _ ∨ _ ≤ w.heap.size by omega)).trans bx0_0_15
      clear bx0_0_15
      have bx0_1_16 := (hw16.cell (p := ⟨w.heap.size, 1, none⟩) (show w.heap.size < _ by omega) (show w.heap.size < _ ∨ _ ≤ w.heap.size by omega)).trans bx0_1_15
      clear bx0_1_15
      have bx0_2_16 := (hw16.cell (p := ⟨w.heap.size, 2, none⟩) (show w.heap.size < _ by omega) (show w.heap.size < _ ∨ _ ≤ w.heap.size by omega)).trans bx0_2_15
      clear bx0_2_15
      have bx0_3_16 := (hw16.cell (p := ⟨w.heap.size, 3, none⟩) (show w.heap.size < _ by omega) (show w.heap.size < _ ∨ _ ≤ w.heap.size by omega)).trans bx0_3_15
      clear bx0_3_15
      have bx0_4_16 := (hw16.cell (p := ⟨w.heap.size, 4, none⟩) (show w.heap.size < _ by omega) (show w.heap.size < _ ∨ _ ≤ w.heap.size by omega)).trans bx0_4_15
      clear bx0_4_15
      have bx0_5_16 := (hw16.cell (p := ⟨w.heap.size, 5, none⟩) (show w.heap.size < _ by omega) (show w.heap.size < _ ∨ _ ≤ w.heap.size by omega)).trans bx0_5_15
      clear bx0_5_15
      have bx0_6_16 := (hw16.cell (p := ⟨w.heap.size, 6, none⟩) (show w.heap.size < _ by omega) (show w.heap.size < _ ∨ _ ≤ w.heap.size by omega)).trans bx0_6_15
      clear bx0_6_15
      have xb0_0_16 := (hw16.cell (p := ⟨w6.heap.size, 0, none⟩) (show w6.heap.size < _ by omega) (show w6.heap.size < _ ∨ _ ≤ w6.heap.size by omega)).trans xb0_0_15
      clear xb0_0_15
      have xb0_1_16 := (hw16.cell (p := ⟨w6.heap.size, 1, none⟩) (show w6.heap.size < _ by omega) (show w6.heap.size < _ ∨ _ ≤ w6.heap.size by omega)).trans xb0_1_15
      clear xb0_1_15
      have xb0_2_16 := (hw16.cell (p := ⟨w6.heap.size, 2, none⟩) (show w6.heap.size < _ by omega) (show w6.heap.size < _ ∨ _ ≤ w6.heap.size by omega)).trans xb0_2_15
      clear xb0_2_15
      have xb0_3_16 := (hw16.cell (p := ⟨w6.heap.size, 3, none⟩) (show w6.heap.size < _ by omega) (show w6.heap.size < _ ∨ _ ≤ w6.heap.size by omega)).trans xb0_3_15
      clear xb0_3_15
      have xb0_4_16 := (hw16.cell (p := ⟨w6.heap.size, 4, none⟩) (show w6.heap.size < _ by omega) (show w6.heap.size < _ ∨ _ ≤ w6.heap.size by omega)).trans xb0_4_15
      clear xb0_4_15
      have xb0_5_16 := (hw16.cell (p := ⟨w6.heap.size, 5, none⟩) (show w6.heap.size < _ by omega) (show w6.heap.size < _ ∨ _ ≤ w6.heap.size by omega)).trans xb0_5_15
      clear xb0_5_15
      have xb0_6_16 := (hw16.cell (p := ⟨w6.heap.size, 6, none⟩) (show w6.heap.size < _ by omega) (show w6.heap.size < _ ∨ _ ≤ w6.heap.size by omega)).trans xb0_6_15
      clear xb0_6_15
      have h0_16 := h0_15.within hw16 (by omega) (by omega)
      clear h0_15
      have h1_16 := h1_15.within hw16 (by omega) (by omega)
      clear h1_15
      have u5_16 := u5_15.within hw16 (by omega)
      clear u5_15
      clear o16
      have t8_16 := t8_15.within hw16 (by omega)
      clear t8_15
      have g9_16 := g9_15.within hw16 (by omega)
      clear g9_15
      go_wp2_with fail
      refine (markZoneS_any _ _ _ _ _ _ _ _ t8_16 (by omega) R8.out (by omega) (by omega)).mono ?_
      rintro e w17 ⟨rfl, hw17, o17⟩
      have B17 := Below.within B16 hw17 (by omega) (by omega)
      have S17 := hw17.size
      have bx0_0_17 := (hw17.cell (p := ⟨w.heap.size, 0, none⟩) (show w.heap.size < _ by omega) (show w.heap.size < _ ∨ _ ≤ w.heap.size by omega)).trans bx0_0_16
      clear bx0_0_16
      have bx0_1_17 := (hw17.cell (p := ⟨w.heap.size, 1, none⟩) (show w.heap.size < _ by omega) (show w.heap.size < _ ∨ _ ≤ w.heap.size by omega)).trans bx0_1_16
      clear bx0_1_16
      have bx0_2_17 := (hw17.cell (p := ⟨w.heap.size, 2, none⟩) (show w.heap.size < _ by omega) (show w.heap.size < _ ∨ _ ≤ w.heap.size by omega)).trans bx0_2_16
      clear bx0_2_16
      have bx0_3_17 := (hw17.cell (p := ⟨w.heap.size, 3, none⟩) (show w.heap.size < _ by omega) (show w.heap.size < _ ∨ _ ≤ w.heap.size by omega)).trans bx0_3_16
      clear bx0_3_16
      have bx0_4_17 := (hw17.cell (p := ⟨w.heap.size, 4, none⟩) (show w.heap.size < _ by omega) (show w.heap.size < _ ∨ _ ≤ w.heap.size by omega)).trans bx0_4_16
      clear bx0_4_16
      have bx0_5_17 := (hw17.cell (p := ⟨w.heap.size, 5, none⟩) (show w.heap.size < _ by omega) (show w.heap.size < _ ∨ _ ≤ w.heap.size by omega)).trans bx0_5_16
      clear bx0_5_16
      have bx0_6_17 := (hw17.cell (p := ⟨w.heap.size, 6, none⟩) (show w.heap.size < _ by omega) (show w.heap.size < _ ∨ _ ≤ w.heap.size by omega)).trans bx0_6_16
      clear bx0_6_16
      have xb0_0_17 := (hw17.cell (p := ⟨w6.heap.size, 0, none⟩) (show w6.heap.size < _ by omega) (show w6.heap.size < _ ∨ _ ≤ w6.heap.size by omega)).trans xb0_0_16
      clear xb0_0_16
      have xb0_1_17 := (hw17.cell (p := ⟨w6.heap.size, 1, none⟩) (show w6.heap.size < _ by omega) (show w6.heap.size < _ ∨ _ ≤ w6.heap.size by omega)).trans xb0_1_16
      clear xb0_1_16
      have xb0_2_17 := (hw17.cell (p := ⟨w6.heap.size, 2, none⟩) (show w6.heap.size < _ by omega) (show w6.heap.size < _ ∨ _ ≤ w6.heap.size by omega)).trans xb0_2_16
      clear xb0_2_16
      have xb0_3_17 := (hw17.cell (p := ⟨w6.heap.size, 3, none⟩) (show w6.heap.size < _ by omega) (show w6.heap.size < _ ∨ _ ≤ w6.heap.size by omega)).trans xb0_3_16
      clear xb0_3_16
      have xb0_4_17 := (hw17.cell (p := ⟨w6.heap.size, 4, none⟩) (show w6.heap.size < _ by omega) (show w6.heap.size < _ ∨ _ ≤ w6.heap.size by omega)).trans xb0_4_16
      clear xb0_4_16
      have xb0_5_17 := (hw17.cell (p := ⟨w6.heap.size, 5, none⟩) (show w6.heap.size < _ by omega) (show w6.heap.size < _ ∨ _ ≤ w6.heap.size by omega)).trans xb0_5_16
      clear xb0_5_16
      have xb0_6_17 := (hw17.cell (p := ⟨w6.heap.size, 6, none⟩) (show w6.heap.size < _ by omega) (show w6.heap.size < _ ∨ _ ≤ w6.heap.size by omega)).trans xb0_6_16
      clear xb0_6_16
      have h0_17 := h0_16.within hw17 (by omega) (by omega)
      clear h0_16
      have h1_17 := h1_16.within hw17 (by omega) (by omega)
      clear h1_16
      have u5_17 := u5_16.within hw17 (by omega)
      clear u5_16
      clear o17
      have g9_17 := g9_16.within hw17 (by omega)
      clear g9_16
      clear xb0_0_17
      clear xb0_1_17
      clear xb0_2_17
      clear xb0_3_17
      clear xb0_4_17
      clear xb0_5_17
      clear xb0_6_17
      go_wp2_with fail
      refine (eqInt64S_same _ _ _ _ _ (fjXs a0.val (xs1.map Zone.val)) _ _ _ ((g9_17.arr ic_len).more (by omega)) ((u5_17.arr ic_len).more (by omega)) (by omega)).mono ?_
      rintro e w18 ⟨rfl, hb18⟩
      have B18 := bel2 B17 hb18
      have S18 := hb18.size
      have bx0_0_18 := (hb18.cell (p := ⟨w.heap.size, 0, none⟩) (show w.heap.size < _ by omega)).trans bx0_0_17
      clear bx0_0_17
      have bx0_1_18 := (hb18.cell (p := ⟨w.heap.size, 1, none⟩) (show w.heap.size < _ by omega)).trans bx0_1_17
      clear bx0_1_17
      have bx0_2_18 := (hb18.cell (p := ⟨w.heap.size, 2, none⟩) (show w.heap.size < _ by omega)).trans bx0_2_17
      clear bx0_2_17
      have bx0_3_18 := (hb18.cell (p := ⟨w.heap.size, 3, none⟩) (show w.heap.size < _ by omega)).trans bx0_3_17
      clear bx0_3_17
      have bx0_4_18 := (hb18.cell (p := ⟨w.heap.size, 4, none⟩) (show w.heap.size < _ by omega)).trans bx0_4_17
      clear bx0_4_17
      have bx0_5_18 := (hb18.cell (p := ⟨w.heap.size, 5, none⟩) (show w.heap.size < _ by omega)).trans bx0_5_17
      clear bx0_5_17
      have bx0_6_18 := (hb18.cell (p := ⟨w.heap.size, 6, none⟩) (show w.heap.size < _ by omega)).trans bx0_6_17
      clear bx0_6_17
      have h0_18 := h0_17.below (hb18.mono (by omega))
      clear h0_17
      have h1_18 := h1_17.below (hb18.mono (by omega))
      clear h1_17
      have u5_18 := u5_17.bel hb18
      clear u5_17
      have g9_18 := g9_17.bel hb18
      clear g9_17
      go_wp2_with fail
      refine (markInt64S_any _ _ _ _ _ _ _ _ g9_18 (by omega) (by omega) (by omega)).mono ?_
      rintro e w19 ⟨rfl, hw19, o19⟩
      have B19 := Below.within B18 hw19 (by omega) (by omega)
      have S19 := hw19.size
      have bx0_0_19 := (hw19.cell (p := ⟨w.heap.size, 0, none⟩) (show w.heap.size < _ by omega) (show w.heap.size < _ ∨ _ ≤ w.heap.size by omega)).trans bx0_0_18
      clear bx0_0_18
      have bx0_1_19 := (hw19.cell (p := ⟨w.heap.size, 1, none⟩) (show w.heap.size < _ by omega) (show w.heap.size < _ ∨ _ ≤ w.heap.size by omega)).trans bx0_1_18
      clear bx0_1_18
      have bx0_2_19 := (hw19.cell (p := ⟨w.heap.size, 2, none⟩) (show w.heap.size < _ by omega) (show w.heap.size < _ ∨ _ ≤ w.heap.size by omega)).trans bx0_2_18
      clear bx0_2_18
      have bx0_3_19 := (hw19.cell (p := ⟨w.heap.size, 3, none⟩) (show w.heap.size < _ by omega) (show w.heap.size < _ ∨ _ ≤ w.heap.size by omega)).trans bx0_3_18
      clear bx0_3_18
      have bx0_4_19 := (hw19.cell (p := ⟨w.heap.size, 4, none⟩) (show w.heap.size < _ by omega) (show w.heap.size < _ ∨ _ ≤ w.heap.size by omega)).trans bx0_4_18
      clear bx0_4_18
      have bx0_5_19 := (hw19.cell (p := ⟨w.heap.size, 5, none⟩) (show w.heap.size < _ by omega) (show w.heap.size < _ ∨ _ ≤ w.heap.size by omega)).trans bx0_5_18
      clear bx0_5_18
      have bx0_6_19 := (hw19.cell (p := ⟨w.heap.size, 6, none⟩) (show w.heap.size < _ by omega) (show w.heap.size < _ ∨ _ ≤ w.heap.size by omega)).trans bx0_6_18
      clear bx0_6_18
      have h0_19 := h0_18.within hw19 (by omega) (by omega)
      clear h0_18
      have h1_19 := h1_18.within hw19 (by omega) (by omega)
      clear h1_18
      have u5_19 := u5_18.within hw19 (by omega)
      clear u5_18
      go_wp2_with fail
      refine (heldInt64S_same _ _ _ _ _ _ ((o19.arr ic_len).more (by omega)) (by omega) (by omega) (by omega)).mono ?_
      rintro e w20 ⟨rfl, hb20⟩
      have B20 := bel2 B19 hb20
      have S20 := hb20.size
      have bx0_0_20 := (hb20.cell (p := ⟨w.heap.size, 0, none⟩) (show w.heap.size < _ by omega)).trans bx0_0_19
      clear bx0_0_19
      have bx0_1_20 := (hb20.cell (p := ⟨w.heap.size, 1, none⟩) (show w.heap.size < _ by omega)).trans bx0_1_19
      clear bx0_1_19
      have bx0_2_20 := (hb20.cell (p := ⟨w.heap.size, 2, none⟩) (show w.heap.size < _ by omega)).trans bx0_2_19
      clear bx0_2_19
      have bx0_3_20 := (hb20.cell (p := ⟨w.heap.size, 3, none⟩) (show w.heap.size < _ by omega)).trans bx0_3_19
      clear bx0_3_19
      have bx0_4_20 := (hb20.cell (p := ⟨w.heap.size, 4, none⟩) (show w.heap.size < _ by omega)).trans bx0_4_19
      clear bx0_4_19
      have bx0_5_20 := (hb20.cell (p := ⟨w.heap.size, 5, none⟩) (show w.heap.size < _ by omega)).trans bx0_5_19
      clear bx0_5_19
      have bx0_6_20 := (hb20.cell (p := ⟨w.heap.size, 6, none⟩) (show w.heap.size < _ by omega)).trans bx0_6_19
      clear bx0_6_19
      have h0_20 := h0_19.below (hb20.mono (by omega))
      clear h0_19
      have h1_20 := h1_19.below (hb20.mono (by omega))
      clear h1_19
      have u5_20 := u5_19.bel hb20
      clear u5_19
      have g9_20 := o19.bel hb20
      clear o19
      go_wp2_with fail
      refine (toCrane_any a0 _ _ (h0_20.more (by omega)) m0).mono ?_
      rintro e w21 ⟨g21, rfl, o21, hb21⟩
      have B21 := bel2 B20 hb21
      have S21 := hb21.size
      have bx0_0_21 := (hb21.cell (p := ⟨w.heap.size, 0, none⟩) (show w.heap.size < _ by omega)).trans bx0_0_20
      clear bx0_0_20
      have bx0_1_21 := (hb21.cell (p := ⟨w.heap.size, 1, none⟩) (show w.heap.size < _ by omega)).trans bx0_1_20
      clear bx0_1_20
      have bx0_2_21 := (hb21.cell (p := ⟨w.heap.size, 2, none⟩) (show w.heap.size < _ by omega)).trans bx0_2_20
      clear bx0_2_20
      have bx0_3_21 := (hb21.cell (p := ⟨w.heap.size, 3, none⟩) (show w.heap.size < _ by omega)).trans bx0_3_20
      clear bx0_3_20
      have bx0_4_21 := (hb21.cell (p := ⟨w.heap.size, 4, none⟩) (show w.heap.size < _ by omega)).trans bx0_4_20
      clear bx0_4_20
      have bx0_5_21 := (hb21.cell (p := ⟨w.heap.size, 5, none⟩) (show w.heap.size < _ by omega)).trans bx0_5_20
      clear bx0_5_20
      have bx0_6_21 := (hb21.cell (p := ⟨w.heap.size, 6, none⟩) (show w.heap.size < _ by omega)).trans bx0_6_20
      clear bx0_6_20
      have h0_21 := h0_20.below (hb21.mono (by omega))
      clear h0_20
      have h1_21 := h1_20.below (hb21.mono (by omega))
      clear h1_20
      have u5_21 := u5_20.bel hb21
      clear u5_20
      have g9_21 := g9_20.bel hb21
      clear g9_20
      have t21 := o21
      clear o21
      go_wp2_with fail
      refine (toZoneS_any _ _ _ xs1 _ _ (h1_21.more (by omega)) m1 r1.out).mono ?_
      rintro e w22 ⟨g22, y22, rfl, v22, o22, hb22⟩
      have B22 := bel2 B21 hb22
      have S22 := hb22.size
      have bx0_0_22 := (hb22.cell (p := ⟨w.heap.size, 0, none⟩) (show w.heap.size < _ by omega)).trans bx0_0_21
      clear bx0_0_21
      have bx0_1_22 := (hb22.cell (p := ⟨w.heap.size, 1, none⟩) (show w.heap.size < _ by omega)).trans bx0_1_21
      clear bx0_1_21
      have bx0_2_22 := (hb22.cell (p := ⟨w.heap.size, 2, none⟩) (show w.heap.size < _ by omega)).trans bx0_2_21
      clear bx0_2_21
      have bx0_3_22 := (hb22.cell (p := ⟨w.heap.size, 3, none⟩) (show w.heap.size < _ by omega)).trans bx0_3_21
      clear bx0_3_21
      have bx0_4_22 := (hb22.cell (p := ⟨w.heap.size, 4, none⟩) (show w.heap.size < _ by omega)).trans bx0_4_21
      clear bx0_4_21
      have bx0_5_22 := (hb22.cell (p := ⟨w.heap.size, 5, none⟩) (show w.heap.size < _ by omega)).trans bx0_5_21
      clear bx0_5_21
      have bx0_6_22 := (hb22.cell (p := ⟨w.heap.size, 6, none⟩) (show w.heap.size < _ by omega)).trans bx0_6_21
      clear bx0_6_21
      have h0_22 := h0_21.below (hb22.mono (by omega))
      clear h0_21
      have h1_22 := h1_21.below (hb22.mono (by omega))
      clear h1_21
      have u5_22 := u5_21.bel hb22
      clear u5_21
      have g9_22 := g9_21.bel hb22
      clear g9_21
      have t21_22 := t21.bel hb22
      clear t21
      have t22 := o22
      clear o22
      have V22 := Lib.hid v22
      clear v22
      have L22 := Lib.hid (zrows_len (t22.arr Zone.cs_len Pnt.cs_len))
      have F22 := Lib.hid (zrecs_wf V22.out L22.out l1.out wf1)
      have R22 := Lib.hid (zrecs_rn V22.out L22.out l1.out r1.out)
      have TW22 : tot Zone.wide y22 ≤ 5242880 := (by rw [tot_wideZone V22.out]; exact T1)
      go_wp2_with fail
      refine (freeJib_v (⟨a0.v, ⟨some ⟨g21, 0, none⟩, a0.r.n, a0.r.n, a0.r.xs⟩⟩ : Crane) _ _ _ y22 (xs1.map Zone.val) V22.out a0.val rfl _ _ _ ((t21_22.arr ChartStep.cs_len).more (by omega)) (Nat.le_trans m0 (by decide)) hj0 ((t22.arr Zone.cs_len Pnt.cs_len).more (by omega)) m1 R22.out (HQT.out.bel B22)).mono ?_
      rintro e w23 ⟨A23, c23, rfl, o23, hb23⟩
      have B23 := bel2 B22 hb23
      have S23 := hb23.size
      have bx0_0_23 := (hb23.cell (p := ⟨w.heap.size, 0, none⟩) (show w.heap.size < _ by omega)).trans bx0_0_22
      clear bx0_0_22
      have bx0_1_23 := (hb23.cell (p := ⟨w.heap.size, 1, none⟩) (show w.heap.size < _ by omega)).trans bx0_1_22
      clear bx0_1_22
      have bx0_2_23 := (hb23.cell (p := ⟨w.heap.size, 2, none⟩) (show w.heap.size < _ by omega)).trans bx0_2_22
      clear bx0_2_22
      have bx0_3_23 := (hb23.cell (p := ⟨w.heap.size, 3, none⟩) (show w.heap.size < _ by omega)).trans bx0_3_22
      clear bx0_3_22
      have bx0_4_23 := (hb23.cell (p := ⟨w.heap.size, 4, none⟩) (show w.heap.size < _ by omega)).trans bx0_4_22
      clear bx0_4_22
      have bx0_5_23 := (hb23.cell (p := ⟨w.heap.size, 5, none⟩) (show w.heap.size < _ by omega)).trans bx0_5_22
      clear bx0_5_22
      have bx0_6_23 := (hb23.cell (p := ⟨w.heap.size, 6, none⟩) (show w.heap.size < _ by omega)).trans bx0_6_22
      clear bx0_6_22
      have h0_23 := h0_22.below (hb23.mono (by omega))
      clear h0_22
      have h1_23 := h1_22.below (hb23.mono (by omega))
      clear h1_22
      have u5_23 := u5_22.bel hb23
      clear u5_22
      have g9_23 := g9_22.bel hb23
      clear g9_22
      clear t21_22
      clear t22
      have v23 := o23
      clear o23
      go_wp2_with fail
      refine (eqInt64S_same _ _ _ _ _ (fjXs a0.val (xs1.map Zone.val)) _ _ _ ((v23.arr ic_len).more (by omega)) ((u5_23.arr ic_len).more (by omega)) (by omega)).mono ?_
      rintro e w24 ⟨rfl, hb24⟩
      have B24 := bel2 B23 hb24
      have S24 := hb24.size
      have bx0_0_24 := (hb24.cell (p := ⟨w.heap.size, 0, none⟩) (show w.heap.size < _ by omega)).trans bx0_0_23
      clear bx0_0_23
      have bx0_1_24 := (hb24.cell (p := ⟨w.heap.size, 1, none⟩) (show w.heap.size < _ by omega)).trans bx0_1_23
      clear bx0_1_23
      have bx0_2_24 := (hb24.cell (p := ⟨w.heap.size, 2, none⟩) (show w.heap.size < _ by omega)).trans bx0_2_23
      clear bx0_2_23
      have bx0_3_24 := (hb24.cell (p := ⟨w.heap.size, 3, none⟩) (show w.heap.size < _ by omega)).trans bx0_3_23
      clear bx0_3_23
      have bx0_4_24 := (hb24.cell (p := ⟨w.heap.size, 4, none⟩) (show w.heap.size < _ by omega)).trans bx0_4_23
      clear bx0_4_23
      have bx0_5_24 := (hb24.cell (p := ⟨w.heap.size, 5, none⟩) (show w.heap.size < _ by omega)).trans bx0_5_23
      clear bx0_5_23
      have bx0_6_24 := (hb24.cell (p := ⟨w.heap.size, 6, none⟩) (show w.heap.size < _ by omega)).trans bx0_6_23
      clear bx0_6_23
      have h0_24 := h0_23.below (hb24.mono (by omega))
      clear h0_23
      have h1_24 := h1_23.below (hb24.mono (by omega))
      clear h1_23
      have u5_24 := u5_23.bel hb24
      clear u5_23
      have g9_24 := g9_23.bel hb24
      clear g9_23
      have v23_24 := v23.bel hb24
      clear v23
      go_wp2_with fail
      refine (heldInt64S_same _ _ _ _ _ _ ((g9_24.arr ic_len).more (by omega)) (by omega) (by omega) (by omega)).mono ?_
      rintro e w25 ⟨rfl, hb25⟩
      have B25 := bel2 B24 hb25
      have S25 := hb25.size
      have bx0_0_25 := (hb25.cell (p := ⟨w.heap.size, 0, none⟩) (show w.heap.size < _ by omega)).trans bx0_0_24
      clear bx0_0_24
      have bx0_1_25 := (hb25.cell (p := ⟨w.heap.size, 1, none⟩) (show w.heap.size < _ by omega)).trans bx0_1_24
      clear bx0_1_24
      have bx0_2_25 := (hb25.cell (p := ⟨w.heap.size, 2, none⟩) (show w.heap.size < _ by omega)).trans bx0_2_24
      clear bx0_2_24
      have bx0_3_25 := (hb25.cell (p := ⟨w.heap.size, 3, none⟩) (show w.heap.size < _ by omega)).trans bx0_3_24
      clear bx0_3_24
      have bx0_4_25 := (hb25.cell (p := ⟨w.heap.size, 4, none⟩) (show w.heap.size < _ by omega)).trans bx0_4_24
      clear bx0_4_24
      have bx0_5_25 := (hb25.cell (p := ⟨w.heap.size, 5, none⟩) (show w.heap.size < _ by omega)).trans bx0_5_24
      clear bx0_5_24
      have bx0_6_25 := (hb25.cell (p := ⟨w.heap.size, 6, none⟩) (show w.heap.size < _ by omega)).trans bx0_6_24
      clear bx0_6_24
      have h0_25 := h0_24.below (hb25.mono (by omega))
      clear h0_24
      have h1_25 := h1_24.below (hb25.mono (by omega))
      clear h1_24
      clear u5_24
      have g9_25 := g9_24.bel hb25
      clear g9_24
      clear v23_24
      go_wp2
      go_ret
      exact ⟨rfl, B25⟩
    · go_enter Tryd.func4, Tryd.ntmps4
      go_wp2_with fail
      obtain ⟨wa, hwa⟩ : ∃ W, W = (World.alloc w (.cells #[.string a0.v.name, .int .i64 a0.v.ax, .int .i64 a0.v.ay, .int .i64 a0.v.height, .int .i64 a0.v.jib, .int .i64 a0.v.back, .slice a0.r.a a0.r.n a0.r.cap] 34)) := ⟨_, rfl⟩
      rw [← hwa]
      have B0 : Below w.heap.size w wa := by rw [hwa]; exact (Below.refl _ _).alloc (by simp) _
      have S0 : w.heap.size + 1 ≤ wa.heap.size := by rw [hwa]; simp
      have bx0_0 : wa.cell? ⟨w.heap.size, 0, none⟩ = some (.string a0.v.name) := by rw [hwa]; simp
      have bx0_1 : wa.cell? ⟨w.heap.size, 1, none⟩ = some (.int .i64 a0.v.ax) := by rw [hwa]; simp
      have bx0_2 : wa.cell? ⟨w.heap.size, 2, none⟩ = some (.int .i64 a0.v.ay) := by rw [hwa]; simp
      have bx0_3 : wa.cell? ⟨w.heap.size, 3, none⟩ = some (.int .i64 a0.v.height) := by rw [hwa]; simp
      have bx0_4 : wa.cell? ⟨w.heap.size, 4, none⟩ = some (.int .i64 a0.v.jib) := by rw [hwa]; simp
      have bx0_5 : wa.cell? ⟨w.heap.size, 5, none⟩ = some (.int .i64 a0.v.back) := by rw [hwa]; simp
      have bx0_6 : wa.cell? ⟨w.heap.size, 6, none⟩ = some (.slice a0.r.a a0.r.n a0.r.cap) := by rw [hwa]; simp
      have h0_0 := (h0.below B0).more (show w.heap.size ≤ w.heap.size from Nat.le_refl _)
      clear h0
      have h1_0 := (h1.below B0).more (show w.heap.size ≤ w.heap.size from Nat.le_refl _)
      clear h1
      clear hwa
      go_wp2_with fail
      refine (szCrane_ok a0 _ _ (h0_0.more (by omega)) wf0 (by omega) (by omega) (by omega)).mono ?_
      rintro e w1 ⟨rfl, hb1⟩
      have B1 := bel2 B0 hb1
      have S1 := hb1.size
      have bx0_0_1 := (hb1.cell (p := ⟨w.heap.size, 0, none⟩) (show w.heap.size < _ by omega)).trans bx0_0
      clear bx0_0
      have bx0_1_1 := (hb1.cell (p := ⟨w.heap.size, 1, none⟩) (show w.heap.size < _ by omega)).trans bx0_1
      clear bx0_1
      have bx0_2_1 := (hb1.cell (p := ⟨w.heap.size, 2, none⟩) (show w.heap.size < _ by omega)).trans bx0_2
      clear bx0_2
      have bx0_3_1 := (hb1.cell (p := ⟨w.heap.size, 3, none⟩) (show w.heap.size < _ by omega)).trans bx0_3
      clear bx0_3
      have bx0_4_1 := (hb1.cell (p := ⟨w.heap.size, 4, none⟩) (show w.heap.size < _ by omega)).trans bx0_4
      clear bx0_4
      have bx0_5_1 := (hb1.cell (p := ⟨w.heap.size, 5, none⟩) (show w.heap.size < _ by omega)).trans bx0_5
      clear bx0_5
      have bx0_6_1 := (hb1.cell (p := ⟨w.heap.size, 6, none⟩) (show w.heap.size < _ by omega)).trans bx0_6
      clear bx0_6
      have h0_1 := h0_0.below (hb1.mono (by omega))
      clear h0_0
      have h1_1 := h1_0.below (hb1.mono (by omega))
      clear h1_0
      go_wp2_with fail
      refine (szZoneS_no _ _ _ xs1 _ _ _ (h1_1.more (by omega)) hn1 wf1 (by omega) (by omega) (by omega)).mono ?_
      rintro e w2 ⟨rfl, hb2⟩
      have B2 := bel2 B1 hb2
      have S2 := hb2.size
      have bx0_0_2 := (hb2.cell (p := ⟨w.heap.size, 0, none⟩) (show w.heap.size < _ by omega)).trans bx0_0_1
      clear bx0_0_1
      have bx0_1_2 := (hb2.cell (p := ⟨w.heap.size, 1, none⟩) (show w.heap.size < _ by omega)).trans bx0_1_1
      clear bx0_1_1
      have bx0_2_2 := (hb2.cell (p := ⟨w.heap.size, 2, none⟩) (show w.heap.size < _ by omega)).trans bx0_2_1
      clear bx0_2_1
      have bx0_3_2 := (hb2.cell (p := ⟨w.heap.size, 3, none⟩) (show w.heap.size < _ by omega)).trans bx0_3_1
      clear bx0_3_1
      have bx0_4_2 := (hb2.cell (p := ⟨w.heap.size, 4, none⟩) (show w.heap.size < _ by omega)).trans bx0_4_1
      clear bx0_4_1
      have bx0_5_2 := (hb2.cell (p := ⟨w.heap.size, 5, none⟩) (show w.heap.size < _ by omega)).trans bx0_5_1
      clear bx0_5_1
      have bx0_6_2 := (hb2.cell (p := ⟨w.heap.size, 6, none⟩) (show w.heap.size < _ by omega)).trans bx0_6_1
      clear bx0_6_1
      have h0_2 := h0_1.below (hb2.mono (by omega))
      clear h0_1
      have h1_2 := h1_1.below (hb2.mono (by omega))
      clear h1_1
      go_wp2
      go_ret
      exact ⟨rfl, B2⟩
  · go_enter Tryd.func4, Tryd.ntmps4
    go_wp2_with fail
    obtain ⟨wa, hwa⟩ : ∃ W, W = (World.alloc w (.cells #[.string a0.v.name, .int .i64 a0.v.ax, .int .i64 a0.v.ay, .int .i64 a0.v.height, .int .i64 a0.v.jib, .int .i64 a0.v.back, .slice a0.r.a a0.r.n a0.r.cap] 34)) := ⟨_, rfl⟩
    rw [← hwa]
    have B0 : Below w.heap.size w wa := by rw [hwa]; exact (Below.refl _ _).alloc (by simp) _
    have S0 : w.heap.size + 1 ≤ wa.heap.size := by rw [hwa]; simp
    have bx0_0 : wa.cell? ⟨w.heap.size, 0, none⟩ = some (.string a0.v.name) := by rw [hwa]; simp
    have bx0_1 : wa.cell? ⟨w.heap.size, 1, none⟩ = some (.int .i64 a0.v.ax) := by rw [hwa]; simp
    have bx0_2 : wa.cell? ⟨w.heap.size, 2, none⟩ = some (.int .i64 a0.v.ay) := by rw [hwa]; simp
    have bx0_3 : wa.cell? ⟨w.heap.size, 3, none⟩ = some (.int .i64 a0.v.height) := by rw [hwa]; simp
    have bx0_4 : wa.cell? ⟨w.heap.size, 4, none⟩ = some (.int .i64 a0.v.jib) := by rw [hwa]; simp
    have bx0_5 : wa.cell? ⟨w.heap.size, 5, none⟩ = some (.int .i64 a0.v.back) := by rw [hwa]; simp
    have bx0_6 : wa.cell? ⟨w.heap.size, 6, none⟩ = some (.slice a0.r.a a0.r.n a0.r.cap) := by rw [hwa]; simp
    have h0_0 := (h0.below B0).more (show w.heap.size ≤ w.heap.size from Nat.le_refl _)
    clear h0
    have h1_0 := (h1.below B0).more (show w.heap.size ≤ w.heap.size from Nat.le_refl _)
    clear h1
    clear hwa
    go_wp2_with fail
    refine (szCrane_no a0 _ _ (h0_0.more (by omega)) wf0 (by omega) (by omega) (by omega)).mono ?_
    rintro e w1 ⟨rfl, hb1⟩
    have B1 := bel2 B0 hb1
    have S1 := hb1.size
    have bx0_0_1 := (hb1.cell (p := ⟨w.heap.size, 0, none⟩) (show w.heap.size < _ by omega)).trans bx0_0
    clear bx0_0
    have bx0_1_1 := (hb1.cell (p := ⟨w.heap.size, 1, none⟩) (show w.heap.size < _ by omega)).trans bx0_1
    clear bx0_1
    have bx0_2_1 := (hb1.cell (p := ⟨w.heap.size, 2, none⟩) (show w.heap.size < _ by omega)).trans bx0_2
    clear bx0_2
    have bx0_3_1 := (hb1.cell (p := ⟨w.heap.size, 3, none⟩) (show w.heap.size < _ by omega)).trans bx0_3
    clear bx0_3
    have bx0_4_1 := (hb1.cell (p := ⟨w.heap.size, 4, none⟩) (show w.heap.size < _ by omega)).trans bx0_4
    clear bx0_4
    have bx0_5_1 := (hb1.cell (p := ⟨w.heap.size, 5, none⟩) (show w.heap.size < _ by omega)).trans bx0_5
    clear bx0_5
    have bx0_6_1 := (hb1.cell (p := ⟨w.heap.size, 6, none⟩) (show w.heap.size < _ by omega)).trans bx0_6
    clear bx0_6
    have h0_1 := h0_0.below (hb1.mono (by omega))
    clear h0_0
    have h1_1 := h1_0.below (hb1.mono (by omega))
    clear h1_0
    go_wp2
    go_ret
    exact ⟨rfl, B1⟩
end Go.Proofs.YtdhobglhjdgboaaDoor.lawFreeJibDirections
