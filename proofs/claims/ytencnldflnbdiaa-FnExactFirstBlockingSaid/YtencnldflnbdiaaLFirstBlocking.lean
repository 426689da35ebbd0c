/- FnExactFirstBlocking: the walk: the law returns true for every input. -/
import Derived.Test.YtencnldflnbdiaaZoneB2
import Derived.Test.YtencnldflnbdiaaZoneB3
import Derived.Test.YtencnldflnbdiaaZRows
import Derived.Test.YtencnldflnbdiaaOZone
import Derived.Deep.RegionHeld3
namespace Go.Proofs.Ytencnldflnbdiaa.lawFirstBlocking
open Go.RowKit
set_option linter.unusedVariables false

set_option maxRecDepth 100000 in
set_option maxHeartbeats 3200000 in
theorem walk (A0 : Option Addr) (n0 c0 : Nat) (xs0 : List Zone) (a1 : Pnt) (a2 : Pnt) (a3 : Int) (w : World) (hn0 : n0 ≤ 9223372036854775807) (ha0 : Zones w 0 w.heap.size A0 n0 xs0 ∧ ∀ p ∈ xs0, Zone.wf p) (hi1 : a1.wf) (hi2 : a2.wf) (hi3 : (Lit.int .i64 a3).wf = true) :
    Calls Try.prog 5 #[.slice A0 n0 c0, .agg #[.int .i64 a1.x, .int .i64 a1.y], .agg #[.int .i64 a2.x, .int .i64 a2.y], .int .i64 a3] w fun e w' => e = .returned (.bool true) ∧ Below w.heap.size w w' := by
  obtain ⟨h0, wf0⟩ := ha0
  have q0 := Lib.hid h0.len
  have l0 := Lib.hid (zrows_len h0)
  have hi3 := wf_bounds hi3
  have z0 : 0 ≤ szZoneS n0 xs0 := by unfold szZoneS; omega
  by_cases hs0 : szZoneS n0 xs0 ≤ 1048576
  · go_enter Try.func5, Try.ntmps5
    go_wp2_with fail
    obtain ⟨wa, hwa⟩ : ∃ W, W = (World.alloc (World.alloc w (.cells #[.int .i64 a1.x, .int .i64 a1.y] 42)) (.cells #[.int .i64 a2.x, .int .i64 a2.y] 42)) := ⟨_, rfl⟩
    rw [← hwa]
    have B0 : Below w.heap.size w wa := by rw [hwa]; exact ((Below.refl _ _).alloc (by simp) _).alloc (by simp) _
    have S0 : w.heap.size + 2 ≤ wa.heap.size := by rw [hwa]; simp
    have bx1_0 : wa.cell? ⟨w.heap.size, 0, none⟩ = some (.int .i64 a1.x) := by rw [hwa]; rw [World.cell?_alloc_lt _ _ _ (by first | (simp; done) | (simp; omega))]; simp
    have bx1_1 : wa.cell? ⟨w.heap.size, 1, none⟩ = some (.int .i64 a1.y) := by rw [hwa]; rw [World.cell?_alloc_lt _ _ _ (by first | (simp; done) | (simp; omega))]; simp
    have bx2_0 : wa.cell? ⟨w.heap.size + 1, 0, none⟩ = some (.int .i64 a2.x) := by rw [hwa]; simp
    have bx2_1 : wa.cell? ⟨w.heap.size + 1, 1, none⟩ = some (.int .i64 a2.y) := by rw [hwa]; simp
    have h0_0 := (h0.below B0).more (show w.heap.size ≤ w.heap.size from Nat.le_refl _)
    clear h0
    clear hwa
    go_wp2_with fail
    refine (szZoneS_ok _ _ _ xs0 _ _ _ (h0_0.more (by omega)) hn0 wf0 (by omega) (by omega) (by omega)).mono ?_
    rintro e w1 ⟨rfl, hb1⟩
    have B1 := bel2 B0 hb1
    have S1 := hb1.size
    have bx1_0_1 := (hb1.cell (p := ⟨w.heap.size, 0, none⟩) (show w.heap.size < _ by omega)).trans bx1_0
    clear bx1_0
    have bx1_1_1 := (hb1.cell (p := ⟨w.heap.size, 1, none⟩) (show w.heap.size < _ by omega)).trans bx1_1
    clear bx1_1
    have bx2_0_1 := (hb1.cell (p := ⟨w.heap.size + 1, 0, none⟩) (show w.heap.size + 1 < _ by omega)).trans bx2_0
    clear bx2_0
    have bx2_1_1 := (hb1.cell (p := ⟨w.heap.size + 1, 1, none⟩) (show w.heap.size + 1 < _ by omega)).trans bx2_1
    clear bx2_1
    have h0_1 := h0_0.below (hb1.mono (by omega))
    clear h0_0
    have m0 : n0 ≤ 1048576 := by unfold szZoneS at hs0; omega
    have r0 := Lib.hid (zrows_le (show (tot Zone.sz xs0 : Nat) ≤ 1048576 by unfold szZoneS at hs0; omega))
    go_wp2_with fail
    have hb2 : Below w1.heap.size w1 w1.drew := (Below.refl _ _).drew
    have B2 := bel2 B1 hb2
    have S2 := hb2.size
    have bx1_0_2 := (hb2.cell (p := ⟨w.heap.size, 0, none⟩) (show w.heap.size < _ by omega)).trans bx1_0_1
    clear bx1_0_1
    have bx1_1_2 := (hb2.cell (p := ⟨w.heap.size, 1, none⟩) (show w.heap.size < _ by omega)).trans bx1_1_1
    clear bx1_1_1
    have bx2_0_2 := (hb2.cell (p := ⟨w.heap.size + 1, 0, none⟩) (show w.heap.size + 1 < _ by omega)).trans bx2_0_1
    clear bx2_0_1
    have bx2_1_2 := (hb2.cell (p := ⟨w.heap.size + 1, 1, none⟩) (show w.heap.size + 1 < _ by omega)).trans bx2_1_1
    clear bx2_1_1
    have h0_2 := h0_1.below (hb2.mono (by omega))
    clear h0_1
    go_region_held3 (fun w' => w'.cell? ⟨w.heap.size, 0, none⟩ = some (.int .i64 a1.x) ∧ w'.cell? ⟨w.heap.size, 1, none⟩ = some (.int .i64 a1.y) ∧ w'.cell? ⟨w.heap.size + 1, 0, none⟩ = some (.int .i64 a2.x) ∧ w'.cell? ⟨w.heap.size + 1, 1, none⟩ = some (.int .i64 a2.y)) (first | exact ⟨bx1_0_2, bx1_1_2, bx2_0_2, bx2_1_2⟩ | exact ⟨bx1_0_3, bx1_1_3, bx2_0_3, bx2_1_3⟩ | exact ⟨bx1_0_4, bx1_1_4, bx2_0_4, bx2_1_4⟩ | exact ⟨bx1_0_5, bx1_1_5, bx2_0_5, bx2_1_5⟩ | exact ⟨bx1_0_6, bx1_1_6, bx2_0_6, bx2_1_6⟩ | go_keep) ((first | (go_at_call 24; refine (toZoneS_any _ _ _ xs0 _ _ (h0_2.more (by omega)) m0 r0.out).mono ?_; rintro e w3 ⟨g3, y3, rfl, v3, o3, hb3⟩; have B3 := bel2 B2 hb3; have S3 := hb3.size; have bx1_0_3 := (hb3.cell (p := ⟨w.heap.size, 0, none⟩) (show w.heap.size < _ by omega)).trans bx1_0_2; have bx1_1_3 := (hb3.cell (p := ⟨w.heap.size, 1, none⟩) (show w.heap.size < _ by omega)).trans bx1_1_2; have bx2_0_3 := (hb3.cell (p := ⟨w.heap.size + 1, 0, none⟩) (show w.heap.size + 1 < _ by omega)).trans bx2_0_2; have bx2_1_3 := (hb3.cell (p := ⟨w.heap.size + 1, 1, none⟩) (show w.heap.size + 1 < _ by omega)).trans bx2_1_2; have h0_3 := h0_2.below (hb3.mono (by omega)); have t3 := o3; have V3 := Lib.hid v3; have L3 := Lib.hid (zrows_len (t3.arr Zone.cs_len Pnt.cs_len)); have F3 := Lib.hid (zrecs_wf V3.out L3.out l0.out wf0); have R3 := Lib.hid (zrecs_rn V3.out L3.out l0.out r0.out)) | (go_at_call 19; with_reducible refine (toPnt_any a1 _).mono ?_; rintro e w4 ⟨rfl, hb4⟩; have B4 := bel2 B3 hb4; have S4 := hb4.size; have bx1_0_4 := (hb4.cell (p := ⟨w.heap.size, 0, none⟩) (show w.heap.size < _ by omega)).trans bx1_0_3; have bx1_1_4 := (hb4.cell (p := ⟨w.heap.size, 1, none⟩) (show w.heap.size < _ by omega)).trans bx1_1_3; have bx2_0_4 := (hb4.cell (p := ⟨w.heap.size + 1, 0, none⟩) (show w.heap.size + 1 < _ by omega)).trans bx2_0_3; have bx2_1_4 := (hb4.cell (p := ⟨w.heap.size + 1, 1, none⟩) (show w.heap.size + 1 < _ by omega)).trans bx2_1_3; have h0_4 := h0_3.below (hb4.mono (by omega)); have t3_4 := t3.bel hb4) | (go_at_call 19; with_reducible refine (toPnt_any a2 _).mono ?_; rintro e w5 ⟨rfl, hb5⟩; have B5 := bel2 B4 hb5; have S5 := hb5.size; have bx1_0_5 := (hb5.cell (p := ⟨w.heap.size, 0, none⟩) (show w.heap.size < _ by omega)).trans bx1_0_4; have bx1_1_5 := (hb5.cell (p := ⟨w.heap.size, 1, none⟩) (show w.heap.size < _ by omega)).trans bx1_1_4; have bx2_0_5 := (hb5.cell (p := ⟨w.heap.size + 1, 0, none⟩) (show w.heap.size + 1 < _ by omega)).trans bx2_0_4; have bx2_1_5 := (hb5.cell (p := ⟨w.heap.size + 1, 1, none⟩) (show w.heap.size + 1 < _ by omega)).trans bx2_1_4; have h0_5 := h0_4.below (hb5.mono (by omega)); have t3_5 := t3_4.bel hb5) | (go_at_call 23; refine ((show Calls Try.prog _ _ _ (fun e w' => e = .returned (.tuple #[.int .i64 (fbVal (xs0.map Zone.val) a1 a2 a3), .int .i64 (fbCode (xs0.map Zone.val) a1 a2 a3)]) ∧ Below _ _ w') from specFirstBlocking_v _ _ _ y3 (xs0.map Zone.val) V3.out a1 a2 a3 _ _ ((t3_5.arr Zone.cs_len Pnt.cs_len).more (by omega)) m0 R3.out)).mono ?_; rintro e w6 ⟨rfl, hb6⟩; have B6 := bel2 B5 hb6; have S6 := hb6.size; have bx1_0_6 := (hb6.cell (p := ⟨w.heap.size, 0, none⟩) (show w.heap.size < _ by omega)).trans bx1_0_5; have bx1_1_6 := (hb6.cell (p := ⟨w.heap.size, 1, none⟩) (show w.heap.size < _ by omega)).trans bx1_1_5; have bx2_0_6 := (hb6.cell (p := ⟨w.heap.size + 1, 0, none⟩) (show w.heap.size + 1 < _ by omega)).trans bx2_0_5; have bx2_1_6 := (hb6.cell (p := ⟨w.heap.size + 1, 1, none⟩) (show w.heap.size + 1 < _ by omega)).trans bx2_1_5; have h0_6 := h0_5.below (hb6.mono (by omega)); have t3_6 := t3_5.bel hb6)))
    clear bx1_0_2 bx1_1_2 bx2_0_2 bx2_1_2 h0_2 o3 v3 bx1_0_3 bx1_1_3 bx2_0_3 bx2_1_3 h0_3 t3 bx1_0_4 bx1_1_4 bx2_0_4 bx2_1_4 h0_4 t3_4 bx1_0_5 bx1_1_5 bx2_0_5 bx2_1_5 h0_5 t3_5
    go_wp2_with fail
    refine (toZoneS_any _ _ _ xs0 _ _ (h0_6.more (by omega)) m0 r0.out).mono ?_
    rintro e w7 ⟨g7, y7, rfl, v7, o7, hb7⟩
    have B7 := bel2 B6 hb7
    have S7 := hb7.size
    have bx1_0_7 := (hb7.cell (p := ⟨w.heap.size, 0, none⟩) (show w.heap.size < _ by omega)).trans bx1_0_6
    clear bx1_0_6
    have bx1_1_7 := (hb7.cell (p := ⟨w.heap.size, 1, none⟩) (show w.heap.size < _ by omega)).trans bx1_1_6
    clear bx1_1_6
    have bx2_0_7 := (hb7.cell (p := ⟨w.heap.size + 1, 0, none⟩) (show w.heap.size + 1 < _ by omega)).trans bx2_0_6
    clear bx2_0_6
    have bx2_1_7 := (hb7.cell (p := ⟨w.heap.size + 1, 1, none⟩) (show w.heap.size + 1 < _ by omega)).trans bx2_1_6
    clear bx2_1_6
    have h0_7 := h0_6.below (hb7.mono (by omega))
    clear h0_6
    clear t3_6
    have t7 := o7
    clear o7
    have V7 := Lib.hid v7
    clear v7
    have L7 := Lib.hid (zrows_len (t7.arr Zone.cs_len Pnt.cs_len))
    have F7 := Lib.hid (zrecs_wf V7.out L7.out l0.out wf0)
    have R7 := Lib.hid (zrecs_rn V7.out L7.out l0.out r0.out)
    go_wp2_with fail
    have hb8 : Below w7.heap.size w7 w7.drew := (Below.refl _ _).drew
    have B8 := bel2 B7 hb8
    have S8 := hb8.size
    have bx1_0_8 := (hb8.cell (p := ⟨w.heap.size, 0, none⟩) (show w.heap.size < _ by omega)).trans bx1_0_7
    clear bx1_0_7
    have bx1_1_8 := (hb8.cell (p := ⟨w.heap.size, 1, none⟩) (show w.heap.size < _ by omega)).trans bx1_1_7
    clear bx1_1_7
    have bx2_0_8 := (hb8.cell (p := ⟨w.heap.size + 1, 0, none⟩) (show w.heap.size + 1 < _ by omega)).trans bx2_0_7
    clear bx2_0_7
    have bx2_1_8 := (hb8.cell (p := ⟨w.heap.size + 1, 1, none⟩) (show w.heap.size + 1 < _ by omega)).trans bx2_1_7
    clear bx2_1_7
    have h0_8 := h0_7.below (hb8.mono (by omega))
    clear h0_7
    have t7_8 := t7.bel hb8
    clear t7
    go_region_held3 (fun w' => w'.cell? ⟨w.heap.size, 0, none⟩ = some (.int .i64 a1.x) ∧ w'.cell? ⟨w.heap.size, 1, none⟩ = some (.int .i64 a1.y) ∧ w'.cell? ⟨w.heap.size + 1, 0, none⟩ = some (.int .i64 a2.x) ∧ w'.cell? ⟨w.heap.size + 1, 1, none⟩ = some (.int .i64 a2.y)) (first | exact ⟨bx1_0_8, bx1_1_8, bx2_0_8, bx2_1_8⟩ | exact ⟨bx1_0_9, bx1_1_9, bx2_0_9, bx2_1_9⟩ | exact ⟨bx1_0_10, bx1_1_10, bx2_0_10, bx2_1_10⟩ | exact ⟨bx1_0_11, bx1_1_11, bx2_0_11, bx2_1_11⟩ | go_keep) ((first | (go_at_call 19; with_reducible refine (toPnt_any a1 _).mono ?_; rintro e w9 ⟨rfl, hb9⟩; have B9 := bel2 B8 hb9; have S9 := hb9.size; have bx1_0_9 := (hb9.cell (p := ⟨w.heap.size, 0, none⟩) (show w.heap.size < _ by omega)).trans bx1_0_8; have bx1_1_9 := (hb9.cell (p := ⟨w.heap.size, 1, none⟩) (show w.heap.size < _ by omega)).trans bx1_1_8; have bx2_0_9 := (hb9.cell (p := ⟨w.heap.size + 1, 0, none⟩) (show w.heap.size + 1 < _ by omega)).trans bx2_0_8; have bx2_1_9 := (hb9.cell (p := ⟨w.heap.size + 1, 1, none⟩) (show w.heap.size + 1 < _ by omega)).trans bx2_1_8; have h0_9 := h0_8.below (hb9.mono (by omega)); have t7_9 := t7_8.bel hb9) | (go_at_call 19; with_reducible refine (toPnt_any a2 _).mono ?_; rintro e w10 ⟨rfl, hb10⟩; have B10 := bel2 B9 hb10; have S10 := hb10.size; have bx1_0_10 := (hb10.cell (p := ⟨w.heap.size, 0, none⟩) (show w.heap.size < _ by omega)).trans bx1_0_9; have bx1_1_10 := (hb10.cell (p := ⟨w.heap.size, 1, none⟩) (show w.heap.size < _ by omega)).trans bx1_1_9; have bx2_0_10 := (hb10.cell (p := ⟨w.heap.size + 1, 0, none⟩) (show w.heap.size + 1 < _ by omega)).trans bx2_0_9; have bx2_1_10 := (hb10.cell (p := ⟨w.heap.size + 1, 1, none⟩) (show w.heap.size + 1 < _ by omega)).trans bx2_1_9; have h0_10 := h0_9.below (hb10.mono (by omega)); have t7_10 := t7_9.bel hb10) | (go_at_call 25; refine ((show Calls Try.prog _ _ _ (fun e w' => e = .returned (.tuple #[.int .i64 (fbVal (xs0.map Zone.val) a1 a2 a3), .int .i64 (fbCode (xs0.map Zone.val) a1 a2 a3)]) ∧ Below _ _ w') from firstBlocking_v _ _ _ y7 (xs0.map Zone.val) V7.out a1 a2 a3 _ _ ((t7_10.arr Zone.cs_len Pnt.cs_len).more (by omega)) m0 R7.out)).mono ?_; rintro e w11 ⟨rfl, hb11⟩; have B11 := bel2 B10 hb11; have S11 := hb11.size; have bx1_0_11 := (hb11.cell (p := ⟨w.heap.size, 0, none⟩) (show w.heap.size < _ by omega)).trans bx1_0_10; have bx1_1_11 := (hb11.cell (p := ⟨w.heap.size, 1, none⟩) (show w.heap.size < _ by omega)).trans bx1_1_10; have bx2_0_11 := (hb11.cell (p := ⟨w.heap.size + 1, 0, none⟩) (show w.heap.size + 1 < _ by omega)).trans bx2_0_10; have bx2_1_11 := (hb11.cell (p := ⟨w.heap.size + 1, 1, none⟩) (show w.heap.size + 1 < _ by omega)).trans bx2_1_10; have h0_11 := h0_10.below (hb11.mono (by omega)); have t7_11 := t7_10.bel hb11)))
    clear bx1_0_8 bx1_1_8 bx2_0_8 bx2_1_8 h0_8 t7_8 bx1_0_9 bx1_1_9 bx2_0_9 bx2_1_9 h0_9 t7_9 bx1_0_10 bx1_1_10 bx2_0_10 bx2_1_10 h0_10 t7_10
    go_wp2_with fail
    refine (toZoneS_any _ _ _ xs0 _ _ (h0_11.more (by omega)) m0 r0.out).mono ?_
    rintro e w12 ⟨g12, y12, rfl, v12, o12, hb12⟩
    have B12 := bel2 B11 hb12
    have S12 := hb12.size
    have bx1_0_12 := (hb12.cell (p := ⟨w.heap.size, 0, none⟩) (show w.heap.size < _ by omega)).trans bx1_0_11
    clear bx1_0_11
    have bx1_1_12 := (hb12.cell (p := ⟨w.heap.size, 1, none⟩) (show w.heap.size < _ by omega)).trans bx1_1_11
    clear bx1_1_11
    have bx2_0_12 := (hb12.cell (p := ⟨w.heap.size + 1, 0, none⟩) (show w.heap.size + 1 < _ by omega)).trans bx2_0_11
    clear bx2_0_11
    have bx2_1_12 := (hb12.cell (p := ⟨w.heap.size + 1, 1, none⟩) (show w.heap.size + 1 < _ by omega)).trans bx2_1_11
    clear bx2_1_11
    have h0_12 := h0_11.below (hb12.mono (by omega))
    clear h0_11
    have t7_12 := t7_11.bel hb12
    clear t7_11
    have t12 := o12
    clear o12
    have V12 := Lib.hid v12
    clear v12
    have L12 := Lib.hid (zrows_len (t12.arr Zone.cs_len Pnt.cs_len))
    have F12 := Lib.hid (zrecs_wf V12.out L12.out l0.out wf0)
    have R12 := Lib.hid (zrecs_rn V12.out L12.out l0.out r0.out)
    go_wp2_with fail
    refine (eqZoneS_same _ _ _ _ _ y7 y12 _ _ _ (V7.out.trans V12.out.symm) ((t7_12.arr Zone.cs_len Pnt.cs_len).more (by omega)) ((t12.arr Zone.cs_len Pnt.cs_len).more (by omega)) (by omega) (fun p hp => (F7.out p hp).n)).mono ?_
    rintro e w13 ⟨rfl, hb13⟩
    have B13 := bel2 B12 hb13
    have S13 := hb13.size
    have bx1_0_13 := (hb13.cell (p := ⟨w.heap.size, 0, none⟩) (show w.heap.size < _ by omega)).trans bx1_0_12
    clear bx1_0_12
    have bx1_1_13 := (hb13.cell (p := ⟨w.heap.size, 1, none⟩) (show w.heap.size < _ by omega)).trans bx1_1_12
    clear bx1_1_12
    have bx2_0_13 := (hb13.cell (p := ⟨w.heap.size + 1, 0, none⟩) (show w.heap.size + 1 < _ by omega)).trans bx2_0_12
    clear bx2_0_12
    have bx2_1_13 := (hb13.cell (p := ⟨w.heap.size + 1, 1, none⟩) (show w.heap.size + 1 < _ by omega)).trans bx2_1_12
    clear bx2_1_12
    have h0_13 := h0_12.below (hb13.mono (by omega))
    clear h0_12
    have t7_13 := t7_12.bel hb13
    clear t7_12
    clear t12
    go_wp2
    go_ret
    exact ⟨rfl, B13⟩
  · go_enter Try.func5, Try.ntmps5
    go_wp2_with fail
    obtain ⟨wa, hwa⟩ : ∃ W, W = (World.alloc (World.alloc w (.cells #[.int .i64 a1.x, .int .i64 a1.y] 42)) (.cells #[.int .i64 a2.x, .int .i64 a2.y] 42)) := ⟨_, rfl⟩
    rw [← hwa]
    have B0 : Below w.heap.size w wa := by rw [hwa]; exact ((Below.refl _ _).alloc (by simp) _).alloc (by simp) _
    have S0 : w.heap.size + 2 ≤ wa.heap.size := by rw [hwa]; simp
    have bx1_0 : wa.cell? ⟨w.heap.size, 0, none⟩ = some (.int .i64 a1.x) := by rw [hwa]; rw [World.cell?_alloc_lt _ _ _ (by first | (simp; done) | (simp; omega))]; simp
    have bx1_1 : wa.cell? ⟨w.heap.size, 1, none⟩ = some (.int .i64 a1.y) := by rw [hwa]; rw [World.cell?_alloc_lt _ _ _ (by first | (simp; done) | (simp; omega))]; simp
    have bx2_0 : wa.cell? ⟨w.heap.size + 1, 0, none⟩ = some (.int .i64 a2.x) := by rw [hwa]; simp
    have bx2_1 : wa.cell? ⟨w.heap.size + 1, 1, none⟩ = some (.int .i64 a2.y) := by rw [hwa]; simp
    have h0_0 := (h0.below B0).more (show w.heap.size ≤ w.heap.size from Nat.le_refl _)
    clear h0
    clear hwa
    go_wp2_with fail
    refine (szZoneS_no _ _ _ xs0 _ _ _ (h0_0.more (by omega)) hn0 wf0 (by omega) (by omega) (by omega)).mono ?_
    rintro e w1 ⟨rfl, hb1⟩
    have B1 := bel2 B0 hb1
    have S1 := hb1.size
    have bx1_0_1 := (hb1.cell (p := ⟨w.heap.size, 0, none⟩) (show w.heap.size < _ by omega)).trans bx1_0
    clear bx1_0
    have bx1_1_1 := (hb1.cell (p := ⟨w.heap.size, 1, none⟩) (show w.heap.size < _ by omega)).trans bx1_1
    clear bx1_1
    have bx2_0_1 := (hb1.cell (p := ⟨w.heap.size + 1, 0, none⟩) (show w.heap.size + 1 < _ by omega)).trans bx2_0
    clear bx2_0
    have bx2_1_1 := (hb1.cell (p := ⟨w.heap.size + 1, 1, none⟩) (show w.heap.size + 1 < _ by omega)).trans bx2_1
    clear bx2_1
    have h0_1 := h0_0.below (hb1.mono (by omega))
    clear h0_0
    go_wp2
    go_ret
    exact ⟨rfl, B1⟩
end Go.Proofs.Ytencnldflnbdiaa.lawFirstBlocking
