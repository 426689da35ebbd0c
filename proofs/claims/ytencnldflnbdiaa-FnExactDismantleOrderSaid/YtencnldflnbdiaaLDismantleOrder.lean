/- FnExactDismantleOrder: the walk: the law returns true for every input. -/
import Derived.Test.YtencnldflnbdiaaSpecDis
import Derived.Test.YtencnldflnbdiaaMSite
import Derived.Test.YtencnldflnbdiaaOSite
import Derived.Deep.RegionHeld3
namespace Go.Proofs.Ytencnldflnbdiaa.lawDismantleOrder
open Go.RowKit
set_option linter.unusedVariables false

set_option maxRecDepth 100000 in
set_option maxHeartbeats 3200000 in
theorem walk (A0 : Option Addr) (n0 c0 : Nat) (xs0 : List Crane) (w : World) (hn0 : n0 ≤ 9223372036854775807) (ha0 : Cranes w 0 w.heap.size A0 n0 xs0 ∧ ∀ p ∈ xs0, Crane.wf p) :
    Calls Try.prog 3 #[.agg #[.slice A0 n0 c0]] w fun e w' => e = .returned (.bool true) ∧ Below w.heap.size w w' := by
  obtain ⟨h0, wf0⟩ := ha0
  have q0 := Lib.hid h0.len
  have l0 := Lib.hid (crows_len h0)
  have z0 : 0 ≤ szCraneS n0 xs0 := by unfold szCraneS; omega
  by_cases hs0 : szCraneS n0 xs0 ≤ 1048576
  · go_enter Try.func3, Try.ntmps3
    go_wp2_with fail
    obtain ⟨wa, hwa⟩ : ∃ W, W = (World.alloc w (.cells #[.slice A0 n0 c0] 24)) := ⟨_, rfl⟩
    rw [← hwa]
    have B0 : Below w.heap.size w wa := by rw [hwa]; exact (Below.refl _ _).alloc (by simp) _
    have S0 : w.heap.size + 1 ≤ wa.heap.size := by rw [hwa]; simp
    have bx0_0 : wa.cell? ⟨w.heap.size, 0, none⟩ = some (.slice A0 n0 c0) := by rw [hwa]; simp
    have h0_0 := (h0.below B0).more (show w.heap.size ≤ w.heap.size from Nat.le_refl _)
    clear h0
    clear hwa
    go_wp2_with fail
    refine (szSite_ok ⟨A0, n0, c0, xs0⟩ _ _ (h0_0.more (by omega)) hn0 wf0 (by omega) (by omega) (by omega)).mono ?_
    rintro e w1 ⟨rfl, hb1⟩
    have B1 := bel2 B0 hb1
    have S1 := hb1.size
    have bx0_0_1 := (hb1.cell (p := ⟨w.heap.size, 0, none⟩) (show w.heap.size < _ by omega)).trans bx0_0
    clear bx0_0
    have h0_1 := h0_0.below (hb1.mono (by omega))
    clear h0_0
    have m0 : n0 ≤ 1048576 := by unfold szCraneS at hs0; omega
    have r0 := Lib.hid (crows_le (show (tot Crane.sz xs0 : Nat) ≤ 1048576 by unfold szCraneS at hs0; omega))
    have T0 : tot Crane.wide xs0 ≤ 8388608 := by have h9 := tot_wideCrane_le l0.out; rw [q0.out] at h9; unfold szCraneS at hs0; omega
    go_wp2_with fail
    refine (toSite_any ⟨A0, n0, c0, xs0⟩ _ _ (h0_1.more (by omega)) m0 r0.out).mono ?_
    rintro e w2 ⟨g2, y2, rfl, v2, o2, hb2⟩
    dsimp only at v2 o2
    have B2 := bel2 B1 hb2
    have S2 := hb2.size
    have bx0_0_2 := (hb2.cell (p := ⟨w.heap.size, 0, none⟩) (show w.heap.size < _ by omega)).trans bx0_0_1
    clear bx0_0_1
    have h0_2 := h0_1.below (hb2.mono (by omega))
    clear h0_1
    have t2 := o2
    clear o2
    have V2 := Lib.hid v2
    clear v2
    have L2 := Lib.hid (crows_len (t2.arr Crane.cs_len ChartStep.cs_len))
    have F2 := Lib.hid (crecs_wf V2.out L2.out l0.out wf0)
    have R2 := Lib.hid (crecs_rn V2.out L2.out l0.out r0.out)
    have TW2 : tot Crane.wide y2 ≤ 8388608 := (by rw [tot_wideCrane V2.out]; exact T0)
    go_wp2_with fail
    refine (specDismantleOrder_any (⟨some ⟨g2, 0, none⟩, n0, n0, y2⟩ : Row Crane) (xs0.map Crane.val) V2.out _ _ ((t2.arr Crane.cs_len ChartStep.cs_len).more (by omega)) m0 F2.out).mono ?_
    rintro e w3 ⟨A3, c3, rfl, o3, hb3⟩
    have B3 := bel2 B2 hb3
    have S3 := hb3.size
    have bx0_0_3 := (hb3.cell (p := ⟨w.heap.size, 0, none⟩) (show w.heap.size < _ by omega)).trans bx0_0_2
    clear bx0_0_2
    have h0_3 := h0_2.below (hb3.mono (by omega))
    clear h0_2
    have t2_3 := t2.bel hb3
    clear t2
    have u3 := o3
    clear o3
    go_wp2_with fail
    refine (toSite_any ⟨A0, n0, c0, xs0⟩ _ _ (h0_3.more (by omega)) m0 r0.out).mono ?_
    rintro e w4 ⟨g4, y4, rfl, v4, o4, hb4⟩
    dsimp only at v4 o4
    have B4 := bel2 B3 hb4
    have S4 := hb4.size
    have bx0_0_4 := (hb4.cell (p := ⟨w.heap.size, 0, none⟩) (show w.heap.size < _ by omega)).trans bx0_0_3
    clear bx0_0_3
    have h0_4 := h0_3.below (hb4.mono (by omega))
    clear h0_3
    clear t2_3
    have u3_4 := u3.bel hb4
    clear u3
    have t4 := o4
    clear o4
    have V4 := Lib.hid v4
    clear v4
    have L4 := Lib.hid (crows_len (t4.arr Crane.cs_len ChartStep.cs_len))
    have F4 := Lib.hid (crecs_wf V4.out L4.out l0.out wf0)
    have R4 := Lib.hid (crecs_rn V4.out L4.out l0.out r0.out)
    have TW4 : tot Crane.wide y4 ≤ 8388608 := (by rw [tot_wideCrane V4.out]; exact T0)
    have SX5_0 : w.heap.size < w4.heap.size := by omega
    go_wp2_with fail
    obtain ⟨w5, hw5⟩ : ∃ W : World, W = w4.alloc (.cells #[.slice (some ⟨g4, 0, none⟩) n0 n0] 31) := ⟨_, rfl⟩
    have hb5 : Below w4.heap.size w4 w5 := by rw [hw5]; exact (Below.refl _ _).alloc (Nat.le_refl _) _
    have SB5 : w4.heap.size < w5.heap.size := by rw [hw5]; simp
    have xb0_0 : w5.cell? ⟨w4.heap.size, 0, none⟩ = some (.slice (some ⟨g4, 0, none⟩) n0 n0) := by rw [hw5]; simp
    rw [← hw5]
    clear hw5
    have B5 := bel2 B4 hb5
    have S5 := hb5.size
    have bx0_0_5 := (hb5.cell (p := ⟨w.heap.size, 0, none⟩) (show w.heap.size < _ by omega)).trans bx0_0_4
    clear bx0_0_4
    have h0_5 := h0_4.below (hb5.mono (by omega))
    clear h0_4
    have u3_5 := u3_4.bel hb5
    clear u3_4
    have t4_5 := t4.bel hb5
    clear t4
    go_wp2_with fail
    refine (dismantleOrder_any (⟨some ⟨g4, 0, none⟩, n0, n0, y4⟩ : Row Crane) (xs0.map Crane.val) V4.out _ _ ((t4_5.arr Crane.cs_len ChartStep.cs_len).more (by omega)) (Nat.le_refl _) m0 F4.out).mono ?_
    rintro e w6 ⟨A6, c6, rfl, o6, hb6⟩
    have B6 := bel2 B5 hb6
    have S6 := hb6.size
    have bx0_0_6 := (hb6.cell (p := ⟨w.heap.size, 0, none⟩) (show w.heap.size < _ by omega)).trans bx0_0_5
    clear bx0_0_5
    have xb0_0_6 := (hb6.cell (p := ⟨w4.heap.size, 0, none⟩) (show w4.heap.size < _ by omega)).trans xb0_0
    clear xb0_0
    have h0_6 := h0_5.below (hb6.mono (by omega))
    clear h0_5
    have u3_6 := u3_5.bel hb6
    clear u3_5
    have t4_6 := t4_5.bel hb6
    clear t4_5
    have g6 := o6
    clear o6
    have len0 : (dsXs (xs0.map Crane.val)).length ≤ 1048576 := by have := dsXs_len (xs0.map Crane.val); have h9 := q0.out; rw [List.length_map] at this; omega
    go_wp2_with fail
    refine (eqInt64S_same _ _ _ _ _ (dsXs (xs0.map Crane.val)) _ _ _ ((g6.arr ic_len).more (by omega)) ((u3_6.arr ic_len).more (by omega)) (by omega)).mono ?_
    rintro e w7 ⟨rfl, hb7⟩
    have B7 := bel2 B6 hb7
    have S7 := hb7.size
    have bx0_0_7 := (hb7.cell (p := ⟨w.heap.size, 0, none⟩) (show w.heap.size < _ by omega)).trans bx0_0_6
    clear bx0_0_6
    have xb0_0_7 := (hb7.cell (p := ⟨w4.heap.size, 0, none⟩) (show w4.heap.size < _ by omega)).trans xb0_0_6
    clear xb0_0_6
    have h0_7 := h0_6.below (hb7.mono (by omega))
    clear h0_6
    have u3_7 := u3_6.bel hb7
    clear u3_6
    have t4_7 := t4_6.bel hb7
    clear t4_6
    have g6_7 := g6.bel hb7
    clear g6
    go_wp2_with fail
    have hb8 : Below w7.heap.size w7 w7.drew := (Below.refl _ _).drew
    have B8 := bel2 B7 hb8
    have S8 := hb8.size
    have bx0_0_8 := (hb8.cell (p := ⟨w.heap.size, 0, none⟩) (show w.heap.size < _ by omega)).trans bx0_0_7
    clear bx0_0_7
    have xb0_0_8 := (hb8.cell (p := ⟨w4.heap.size, 0, none⟩) (show w4.heap.size < _ by omega)).trans xb0_0_7
    clear xb0_0_7
    have h0_8 := h0_7.below (hb8.mono (by omega))
    clear h0_7
    have u3_8 := u3_7.bel hb8
    clear u3_7
    have t4_8 := t4_7.bel hb8
    clear t4_7
    have g6_8 := g6_7.bel hb8
    clear g6_7
    go_region_held3 (fun w' => w'.cell? ⟨w.heap.size, 0, none⟩ = some (.slice A0 n0 c0) ∧ w'.cell? ⟨w4.heap.size, 0, none⟩ = some (.slice (some ⟨g4, 0, none⟩) n0 n0)) (first | exact ⟨bx0_0_8, xb0_0_8⟩ | exact ⟨bx0_0_9, xb0_0_9⟩ | exact ⟨bx0_0_10, xb0_0_10⟩ | go_keep) ((first | (go_at_call 9; refine (toSite_any ⟨A0, n0, c0, xs0⟩ _ _ (h0_8.more (by omega)) m0 r0.out).mono ?_; rintro e w9 ⟨g9, y9, rfl, v9, o9, hb9⟩; dsimp only at v9 o9; have B9 := bel2 B8 hb9; have S9 := hb9.size; have bx0_0_9 := (hb9.cell (p := ⟨w.heap.size, 0, none⟩) (show w.heap.size < _ by omega)).trans bx0_0_8; have xb0_0_9 := (hb9.cell (p := ⟨w4.heap.size, 0, none⟩) (show w4.heap.size < _ by omega)).trans xb0_0_8; have h0_9 := h0_8.below (hb9.mono (by omega)); have u3_9 := u3_8.bel hb9; have t4_9 := t4_8.bel hb9; have g6_9 := g6_8.bel hb9; have t9 := o9; have V9 := Lib.hid v9; have L9 := Lib.hid (crows_len (t9.arr Crane.cs_len ChartStep.cs_len)); have F9 := Lib.hid (crecs_wf V9.out L9.out l0.out wf0); have R9 := Lib.hid (crecs_rn V9.out L9.out l0.out r0.out); have TW9 : tot Crane.wide y9 ≤ 8388608 := (by rw [tot_wideCrane V9.out]; exact T0)) | (go_at_call 12; refine (eqSite_same _ _ _ _ _ y4 y9 _ _ _ (V4.out.trans V9.out.symm) ((t4_9.arr Crane.cs_len ChartStep.cs_len).more (by omega)) ((t9.arr Crane.cs_len ChartStep.cs_len).more (by omega)) (by omega) (fun p hp => (F4.out p hp).n)).mono ?_; rintro e w10 ⟨rfl, hb10⟩; have B10 := bel2 B9 hb10; have S10 := hb10.size; have bx0_0_10 := (hb10.cell (p := ⟨w.heap.size, 0, none⟩) (show w.heap.size < _ by omega)).trans bx0_0_9; have xb0_0_10 := (hb10.cell (p := ⟨w4.heap.size, 0, none⟩) (show w4.heap.size < _ by omega)).trans xb0_0_9; have h0_10 := h0_9.below (hb10.mono (by omega)); have u3_10 := u3_9.bel hb10; have t4_10 := t4_9.bel hb10; have g6_10 := g6_9.bel hb10)))
    clear bx0_0_8 xb0_0_8 h0_8 u3_8 t4_8 g6_8 o9 v9 bx0_0_9 xb0_0_9 h0_9 u3_9 t4_9 g6_9 t9
    go_wp2_with fail
    refine (markSite_any ⟨_, _, n0, _⟩ _ _ _ _ t4_10 (by omega) (by dsimp only; omega) R4.out (by omega) (by dsimp only; omega)).mono ?_
    rintro e w11 ⟨rfl, hw11, o11⟩
    dsimp only at o11 hw11 ⊢
    have B11 := Below.within B10 hw11 (by omega) (by omega)
    have S11 := hw11.size
    have bx0_0_11 := (hw11.cell (p := ⟨w.heap.size, 0, none⟩) (show w.heap.size < _ by omega) (show w.heap.size < _ ∨ _ ≤ w.heap.size by omega)).trans bx0_0_10
    clear bx0_0_10
    have xb0_0_11 := (hw11.cell (p := ⟨w4.heap.size, 0, none⟩) (show w4.heap.size < _ by omega) (show w4.heap.size < _ ∨ _ ≤ w4.heap.size by omega)).trans xb0_0_10
    clear xb0_0_10
    have h0_11 := h0_10.within hw11 (by omega) (by omega)
    clear h0_10
    have u3_11 := u3_10.within hw11 (by omega)
    clear u3_10
    clear o11
    have g6_11 := g6_10.within hw11 (by omega)
    clear g6_10
    clear xb0_0_11
    go_wp2_with fail
    refine (eqInt64S_same _ _ _ _ _ (dsXs (xs0.map Crane.val)) _ _ _ ((g6_11.arr ic_len).more (by omega)) ((u3_11.arr ic_len).more (by omega)) (by omega)).mono ?_
    rintro e w12 ⟨rfl, hb12⟩
    have B12 := bel2 B11 hb12
    have S12 := hb12.size
    have bx0_0_12 := (hb12.cell (p := ⟨w.heap.size, 0, none⟩) (show w.heap.size < _ by omega)).trans bx0_0_11
    clear bx0_0_11
    have h0_12 := h0_11.below (hb12.mono (by omega))
    clear h0_11
    have u3_12 := u3_11.bel hb12
    clear u3_11
    have g6_12 := g6_11.bel hb12
    clear g6_11
    go_wp2_with fail
    refine (markInt64S_any _ _ _ _ _ _ _ _ g6_12 (by omega) (by omega) (by omega)).mono ?_
    rintro e w13 ⟨rfl, hw13, o13⟩
    have B13 := Below.within B12 hw13 (by omega) (by omega)
    have S13 := hw13.size
    have bx0_0_13 := (hw13.cell (p := ⟨w.heap.size, 0, none⟩) (show w.heap.size < _ by omega) (show w.heap.size < _ ∨ _ ≤ w.heap.size by omega)).trans bx0_0_12
    clear bx0_0_12
    have h0_13 := h0_12.within hw13 (by omega) (by omega)
    clear h0_12
    have u3_13 := u3_12.within hw13 (by omega)
    clear u3_12
    go_wp2_with fail
    refine (heldInt64S_same _ _ _ _ _ _ ((o13.arr ic_len).more (by omega)) (by omega) (by omega) (by omega)).mono ?_
    rintro e w14 ⟨rfl, hb14⟩
    have B14 := bel2 B13 hb14
    have S14 := hb14.size
    have bx0_0_14 := (hb14.cell (p := ⟨w.heap.size, 0, none⟩) (show w.heap.size < _ by omega)).trans bx0_0_13
    clear bx0_0_13
    have h0_14 := h0_13.below (hb14.mono (by omega))
    clear h0_13
    have u3_14 := u3_13.bel hb14
    clear u3_13
    have g6_14 := o13.bel hb14
    clear o13
    go_wp2_with fail
    refine (toSite_any ⟨A0, n0, c0, xs0⟩ _ _ (h0_14.more (by omega)) m0 r0.out).mono ?_
    rintro e w15 ⟨g15, y15, rfl, v15, o15, hb15⟩
    dsimp only at v15 o15
    have B15 := bel2 B14 hb15
    have S15 := hb15.size
    have bx0_0_15 := (hb15.cell (p := ⟨w.heap.size, 0, none⟩) (show w.heap.size < _ by omega)).trans bx0_0_14
    clear bx0_0_14
    have h0_15 := h0_14.below (hb15.mono (by omega))
    clear h0_14
    have u3_15 := u3_14.bel hb15
    clear u3_14
    have g6_15 := g6_14.bel hb15
    clear g6_14
    have t15 := o15
    clear o15
    have V15 := Lib.hid v15
    clear v15
    have L15 := Lib.hid (crows_len (t15.arr Crane.cs_len ChartStep.cs_len))
    have F15 := Lib.hid (crecs_wf V15.out L15.out l0.out wf0)
    have R15 := Lib.hid (crecs_rn V15.out L15.out l0.out r0.out)
    have TW15 : tot Crane.wide y15 ≤ 8388608 := (by rw [tot_wideCrane V15.out]; exact T0)
    go_wp2_with fail
    refine (dismantleOrder_any (⟨some ⟨g15, 0, none⟩, n0, n0, y15⟩ : Row Crane) (xs0.map Crane.val) V15.out _ _ ((t15.arr Crane.cs_len ChartStep.cs_len).more (by omega)) (Nat.le_refl _) m0 F15.out).mono ?_
    rintro e w16 ⟨A16, c16, rfl, o16, hb16⟩
    have B16 := bel2 B15 hb16
    have S16 := hb16.size
    have bx0_0_16 := (hb16.cell (p := ⟨w.heap.size, 0, none⟩) (show w.heap.size < _ by omega)).trans bx0_0_15
    clear bx0_0_15
    have h0_16 := h0_15.below (hb16.mono (by omega))
    clear h0_15
    have u3_16 := u3_15.bel hb16
    clear u3_15
    have g6_16 := g6_15.bel hb16
    clear g6_15
    clear t15
    have v16 := o16
    clear o16
    go_wp2_with fail
    refine (eqInt64S_same _ _ _ _ _ (dsXs (xs0.map Crane.val)) _ _ _ ((v16.arr ic_len).more (by omega)) ((u3_16.arr ic_len).more (by omega)) (by omega)).mono ?_
    rintro e w17 ⟨rfl, hb17⟩
    have B17 := bel2 B16 hb17
    have S17 := hb17.size
    have bx0_0_17 := (hb17.cell (p := ⟨w.heap.size, 0, none⟩) (show w.heap.size < _ by omega)).trans bx0_0_16
    clear bx0_0_16
    have h0_17 := h0_16.below (hb17.mono (by omega))
    clear h0_16
    have u3_17 := u3_16.bel hb17
    clear u3_16
    have g6_17 := g6_16.bel hb17
    clear g6_16
    have v16_17 := v16.bel hb17
    clear v16
    go_wp2_with fail
    refine (heldInt64S_same _ _ _ _ _ _ ((g6_17.arr ic_len).more (by omega)) (by omega) (by omega) (by omega)).mono ?_
    rintro e w18 ⟨rfl, hb18⟩
    have B18 := bel2 B17 hb18
    have S18 := hb18.size
    have bx0_0_18 := (hb18.cell (p := ⟨w.heap.size, 0, none⟩) (show w.heap.size < _ by omega)).trans bx0_0_17
    clear bx0_0_17
    have h0_18 := h0_17.below (hb18.mono (by omega))
    clear h0_17
    clear u3_17
    have g6_18 := g6_17.bel hb18
    clear g6_17
    clear v16_17
    go_wp2
    go_ret
    exact ⟨rfl, B18⟩
  · go_enter Try.func3, Try.ntmps3
    go_wp2_with fail
    obtain ⟨wa, hwa⟩ : ∃ W, W = (World.alloc w (.cells #[.slice A0 n0 c0] 24)) := ⟨_, rfl⟩
    rw [← hwa]
    have B0 : Below w.heap.size w wa := by rw [hwa]; exact (Below.refl _ _).alloc (by simp) _
    have S0 : w.heap.size + 1 ≤ wa.heap.size := by rw [hwa]; simp
    have bx0_0 : wa.cell? ⟨w.heap.size, 0, none⟩ = some (.slice A0 n0 c0) := by rw [hwa]; simp
    have h0_0 := (h0.below B0).more (show w.heap.size ≤ w.heap.size from Nat.le_refl _)
    clear h0
    clear hwa
    go_wp2_with fail
    refine (szSite_no ⟨A0, n0, c0, xs0⟩ _ _ (h0_0.more (by omega)) hn0 wf0 (by omega) (by omega) (by omega)).mono ?_
    rintro e w1 ⟨rfl, hb1⟩
    have B1 := bel2 B0 hb1
    have S1 := hb1.size
    have bx0_0_1 := (hb1.cell (p := ⟨w.heap.size, 0, none⟩) (show w.heap.size < _ by omega)).trans bx0_0
    clear bx0_0
    have h0_1 := h0_0.below (hb1.mono (by omega))
    clear h0_0
    go_wp2
    go_ret
    exact ⟨rfl, B1⟩
end Go.Proofs.Ytencnldflnbdiaa.lawDismantleOrder
