/- FnExactDropLift: the walk: the law returns true for every input. -/
import Derived.Test.YtbklbhbjlbojdaaDropLift
import Derived.Test.YtbklbhbjlbojdaaSpecDrop
import Derived.Test.YtbklbhbjlbojdaaDropWide
import Derived.Test.YtbklbhbjlbojdaaMLift
import Derived.Test.YtbklbhbjlbojdaaRLiftH
import Derived.Test.YtbklbhbjlbojdaaOLift
import Derived.Deep.RegionHeld3
namespace Go.Proofs.Ytbklbhbjlbojdaa.lawDropLift
open Go.RowKit
set_option linter.unusedVariables false

set_option maxRecDepth 100000 in
set_option maxHeartbeats 3200000 in
theorem walk (A0 : Option Addr) (n0 c0 : Nat) (xs0 : List Lift) (a1 : Int) (w : World) (hn0 : n0 ≤ 9223372036854775807) (ha0 : Lifts w 0 w.heap.size A0 n0 xs0 ∧ ∀ p ∈ xs0, Lift.wf p) (hi1 : (Lit.int .i64 a1).wf = true) :
    Calls Try.prog 4 #[.slice A0 n0 c0, .int .i64 a1] w fun e w' => e = .returned (.bool true) ∧ Below w.heap.size w w' := by
  obtain ⟨h0, wf0⟩ := ha0
  have q0 := Lib.hid h0.len
  have l0 := Lib.hid (rows_len h0)
  have hi1 := wf_bounds hi1
  have z0 : 0 ≤ szLiftS n0 xs0 := by unfold szLiftS; omega
  by_cases hs0 : szLiftS n0 xs0 ≤ 1048576
  · go_enter Try.func4, Try.ntmps4
    go_wp2_with fail
    refine (szLiftS_ok _ _ _ xs0 _ _ _ (h0.more (by omega)) hn0 wf0 (by omega) (by omega) (by omega)).mono ?_
    rintro e w1 ⟨rfl, hb1⟩
    have B1 := hb1
    have S1 := hb1.size
    have h0_1 := h0.below (hb1.mono (by omega))
    clear h0
    have m0 : n0 ≤ 1048576 := by unfold szLiftS at hs0; omega
    have r0 := Lib.hid (rows_le (show (tot Lift.sz xs0 : Nat) ≤ 1048576 by unfold szLiftS at hs0; omega) l0.out)
    have T0 : tot Lift.wide xs0 ≤ 9437184 := by have h9 := tot_wide_le l0.out; rw [q0.out] at h9; unfold szLiftS at hs0; omega
    have wid0 : Hid (wideV (dlXs (xs0.map Lift.val) a1) ≤ 100000000) := by show _ ≤ _; have h8 := wideV_dl (xs0.map Lift.val) a1; rw [← tot_wideV (ps := xs0) rfl] at h8; omega
    have len0 : (dlXs (xs0.map Lift.val) a1).length ≤ 1048576 := by have := dlXs_len (xs0.map Lift.val) a1; have h9 := q0.out; rw [List.length_map] at this; omega
    go_wp2_with fail
    refine (toLiftH_any _ _ _ xs0 _ _ (h0_1.more (by omega)) m0 r0.out).mono ?_
    rintro e w2 ⟨g2, y2, rfl, v2, o2, x2, hb2⟩
    have HH2 := Lib.hid x2
    clear x2
    have B2 := bel2 B1 hb2
    have S2 := hb2.size
    have h0_2 := h0_1.below (hb2.mono (by omega))
    clear h0_1
    have t2 := o2
    clear o2
    have V2 := Lib.hid v2
    clear v2
    have L2 := Lib.hid (rows_len (t2.arr Lift.cs_len ic_len))
    have F2 := Lib.hid (recs_wf V2.out L2.out l0.out wf0)
    have R2 := Lib.hid (recs_rn V2.out L2.out l0.out r0.out)
    have TW2 : tot Lift.wide y2 ≤ 9437184 := (by rw [tot_wide V2.out]; exact T0)
    go_wp2_with fail
    refine (show Calls Try.prog _ _ _ (RetLR (dlXs (xs0.map Lift.val) a1) (dlCode (xs0.map Lift.val) a1) _) from specDropLift_any _ _ _ y2 (xs0.map Lift.val) V2.out a1 hi1 _ _ ((t2.arr Lift.cs_len ic_len).more (by omega)) m0 (Nat.le_refl _) m0 F2.out R2.out HH2.out).mono ?_
    rintro e w3 ⟨A3, c3, z3, rfl, ve3, o3, hb3⟩
    have V3 := Lib.hid ve3
    clear ve3
    have LL3 : Hid (z3.length = (dlXs (xs0.map Lift.val) a1).length) := (by show _ = _; rw [← V3.out, List.length_map])
    have B3 := bel2 B2 hb3
    have S3 := hb3.size
    have h0_3 := h0_2.below (hb3.mono (by omega))
    clear h0_2
    have t2_3 := t2.bel hb3
    clear t2
    have u3 := o3
    clear o3
    go_wp2_with fail
    refine (toLiftH_any _ _ _ xs0 _ _ (h0_3.more (by omega)) m0 r0.out).mono ?_
    rintro e w4 ⟨g4, y4, rfl, v4, o4, x4, hb4⟩
    have HH4 := Lib.hid x4
    clear x4
    have B4 := bel2 B3 hb4
    have S4 := hb4.size
    have h0_4 := h0_3.below (hb4.mono (by omega))
    clear h0_3
    clear t2_3
    have u3_4 := u3.below (hb4.mono (by omega))
    clear u3
    have t4 := o4
    clear o4
    have V4 := Lib.hid v4
    clear v4
    have L4 := Lib.hid (rows_len (t4.arr Lift.cs_len ic_len))
    have F4 := Lib.hid (recs_wf V4.out L4.out l0.out wf0)
    have R4 := Lib.hid (recs_rn V4.out L4.out l0.out r0.out)
    have TW4 : tot Lift.wide y4 ≤ 9437184 := (by rw [tot_wide V4.out]; exact T0)
    go_wp2_with fail
    refine (show Calls Try.prog _ _ _ (RetLW (dlXs (xs0.map Lift.val) a1) (dlCode (xs0.map Lift.val) a1) _) from dropLift_any _ _ _ y4 (xs0.map Lift.val) V4.out a1 hi1 _ _ ((t4.arr Lift.cs_len ic_len).more (by omega)) m0 F4.out R4.out).mono ?_
    rintro e w5 ⟨A5, c5, z5, rfl, ve5, pe5, o5, hb5⟩
    have V5 := Lib.hid ve5
    clear ve5
    have LL5 : Hid (z5.length = (dlXs (xs0.map Lift.val) a1).length) := (by show _ = _; rw [← V5.out, List.length_map])
    have P5 := Lib.hid pe5
    clear pe5
    have RL5 := Lib.hid (rows_len (o5.arr Lift.cs_len ic_len))
    have TT5 : tot Lift.wide z5 ≤ 100000000 := (by rw [tot_wideV V5.out]; exact wid0.out)
    have B5 := bel2 B4 hb5
    have S5 := hb5.size
    have h0_5 := h0_4.below (hb5.mono (by omega))
    clear h0_4
    have u3_5 := u3_4.below (hb5.mono (by omega))
    clear u3_4
    have t4_5 := t4.bel hb5
    clear t4
    have g5 := o5
    clear o5
    go_wp2_with fail
    refine (eqLiftS_same _ _ _ _ _ z5 z3 _ _ _ (V5.out.trans V3.out.symm) ((g5.arr Lift.cs_len ic_len).more (by omega)) (u3_5.more (by omega)) (by omega) (fun r hr => by have h9 := P5.out r hr; omega)).mono ?_
    rintro e w6 ⟨rfl, hb6⟩
    have B6 := bel2 B5 hb6
    have S6 := hb6.size
    have h0_6 := h0_5.below (hb6.mono (by omega))
    clear h0_5
    have u3_6 := u3_5.below (hb6.mono (by omega))
    clear u3_5
    have t4_6 := t4_5.bel hb6
    clear t4_5
    have g5_6 := g5.bel hb6
    clear g5
    go_wp2_with fail
    refine (toLiftH_any _ _ _ xs0 _ _ (h0_6.more (by omega)) m0 r0.out).mono ?_
    rintro e w7 ⟨g7, y7, rfl, v7, o7, x7, hb7⟩
    have HH7 := Lib.hid x7
    clear x7
    have B7 := bel2 B6 hb7
    have S7 := hb7.size
    have h0_7 := h0_6.below (hb7.mono (by omega))
    clear h0_6
    have u3_7 := u3_6.below (hb7.mono (by omega))
    clear u3_6
    have t4_7 := t4_6.bel hb7
    clear t4_6
    have g5_7 := g5_6.bel hb7
    clear g5_6
    have t7 := o7
    clear o7
    have V7 := Lib.hid v7
    clear v7
    have L7 := Lib.hid (rows_len (t7.arr Lift.cs_len ic_len))
    have F7 := Lib.hid (recs_wf V7.out L7.out l0.out wf0)
    have R7 := Lib.hid (recs_rn V7.out L7.out l0.out r0.out)
    have TW7 : tot Lift.wide y7 ≤ 9437184 := (by rw [tot_wide V7.out]; exact T0)
    go_wp2_with fail
    refine (eqLiftS_same _ _ _ _ _ y4 y7 _ _ _ (V4.out.trans V7.out.symm) ((t4_7.arr Lift.cs_len ic_len).more (by omega)) ((t7.arr Lift.cs_len ic_len).more (by omega)) (by omega) (fun p hp => (F4.out p hp).n)).mono ?_
    rintro e w8 ⟨rfl, hb8⟩
    have B8 := bel2 B7 hb8
    have S8 := hb8.size
    have h0_8 := h0_7.below (hb8.mono (by omega))
    clear h0_7
    have u3_8 := u3_7.below (hb8.mono (by omega))
    clear u3_7
    have t4_8 := t4_7.bel hb8
    clear t4_7
    have g5_8 := g5_7.bel hb8
    clear g5_7
    clear t7
    go_wp2_with fail
    refine (markLiftS_any _ _ _ _ _ _ _ _ t4_8 (by omega) R4.out (by omega) (by omega)).mono ?_
    rintro e w9 ⟨rfl, hw9, o9⟩
    have B9 := Below.within B8 hw9 (by omega) (by omega)
    have S9 := hw9.size
    have h0_9 := h0_8.within hw9 (by omega) (by omega)
    clear h0_8
    have u3_9 := u3_8.within hw9 (by omega) (by omega)
    clear u3_8
    clear o9
    have g5_9 := g5_8.within hw9 (by omega)
    clear g5_8
    go_wp2_with fail
    refine (eqLiftS_same _ _ _ _ _ z5 z3 _ _ _ (V5.out.trans V3.out.symm) ((g5_9.arr Lift.cs_len ic_len).more (by omega)) (u3_9.more (by omega)) (by omega) (fun r hr => by have h9 := P5.out r hr; omega)).mono ?_
    rintro e w10 ⟨rfl, hb10⟩
    have B10 := bel2 B9 hb10
    have S10 := hb10.size
    have h0_10 := h0_9.below (hb10.mono (by omega))
    clear h0_9
    have u3_10 := u3_9.below (hb10.mono (by omega))
    clear u3_9
    have g5_10 := g5_9.bel hb10
    clear g5_9
    go_wp2_with fail
    refine (markLiftS_any _ _ _ z5 _ _ _ _ g5_10 (by omega) P5.out (by omega) (by omega)).mono ?_
    rintro e w11 ⟨rfl, hw11, o11⟩
    have B11 := Below.within B10 hw11 (by omega) (by omega)
    have S11 := hw11.size
    have h0_11 := h0_10.within hw11 (by omega) (by omega)
    clear h0_10
    have u3_11 := u3_10.within hw11 (by omega) (by omega)
    clear u3_10
    go_wp2_with fail
    refine (heldLiftS_same _ _ _ z5 _ _ _ ((o11.arr Lift.cs_len ic_len).more (by omega)) (by omega) LL5.out RL5.out P5.out (by omega) (by omega)).mono ?_
    rintro e w12 ⟨rfl, hb12⟩
    have B12 := bel2 B11 hb12
    have S12 := hb12.size
    have h0_12 := h0_11.below (hb12.mono (by omega))
    clear h0_11
    have u3_12 := u3_11.below (hb12.mono (by omega))
    clear u3_11
    have g5_12 := o11.bel hb12
    clear o11
    go_wp2_with fail
    refine (toLiftH_any _ _ _ xs0 _ _ (h0_12.more (by omega)) m0 r0.out).mono ?_
    rintro e w13 ⟨g13, y13, rfl, v13, o13, x13, hb13⟩
    have HH13 := Lib.hid x13
    clear x13
    have B13 := bel2 B12 hb13
    have S13 := hb13.size
    have h0_13 := h0_12.below (hb13.mono (by omega))
    clear h0_12
    have u3_13 := u3_12.below (hb13.mono (by omega))
    clear u3_12
    have g5_13 := g5_12.bel hb13
    clear g5_12
    have t13 := o13
    clear o13
    have V13 := Lib.hid v13
    clear v13
    have L13 := Lib.hid (rows_len (t13.arr Lift.cs_len ic_len))
    have F13 := Lib.hid (recs_wf V13.out L13.out l0.out wf0)
    have R13 := Lib.hid (recs_rn V13.out L13.out l0.out r0.out)
    have TW13 : tot Lift.wide y13 ≤ 9437184 := (by rw [tot_wide V13.out]; exact T0)
    go_wp2_with fail
    refine (show Calls Try.prog _ _ _ (RetLW (dlXs (xs0.map Lift.val) a1) (dlCode (xs0.map Lift.val) a1) _) from dropLift_any _ _ _ y13 (xs0.map Lift.val) V13.out a1 hi1 _ _ ((t13.arr Lift.cs_len ic_len).more (by omega)) m0 F13.out R13.out).mono ?_
    rintro e w14 ⟨A14, c14, z14, rfl, ve14, pe14, o14, hb14⟩
    have V14 := Lib.hid ve14
    clear ve14
    have LL14 : Hid (z14.length = (dlXs (xs0.map Lift.val) a1).length) := (by show _ = _; rw [← V14.out, List.length_map])
    have P14 := Lib.hid pe14
    clear pe14
    have RL14 := Lib.hid (rows_len (o14.arr Lift.cs_len ic_len))
    have TT14 : tot Lift.wide z14 ≤ 100000000 := (by rw [tot_wideV V14.out]; exact wid0.out)
    have B14 := bel2 B13 hb14
    have S14 := hb14.size
    have h0_14 := h0_13.below (hb14.mono (by omega))
    clear h0_13
    have u3_14 := u3_13.below (hb14.mono (by omega))
    clear u3_13
    have g5_14 := g5_13.bel hb14
    clear g5_13
    clear t13
    have v14 := o14
    clear o14
    go_wp2_with fail
    refine (eqLiftS_same _ _ _ _ _ z14 z3 _ _ _ (V14.out.trans V3.out.symm) ((v14.arr Lift.cs_len ic_len).more (by omega)) (u3_14.more (by omega)) (by omega) (fun r hr => by have h9 := P14.out r hr; omega)).mono ?_
    rintro e w15 ⟨rfl, hb15⟩
    have B15 := bel2 B14 hb15
    have S15 := hb15.size
    have h0_15 := h0_14.below (hb15.mono (by omega))
    clear h0_14
    have u3_15 := u3_14.below (hb15.mono (by omega))
    clear u3_14
    have g5_15 := g5_14.bel hb15
    clear g5_14
    have v14_15 := v14.bel hb15
    clear v14
    go_wp2_with fail
    refine (heldLiftS_same _ _ _ z5 _ _ _ ((g5_15.arr Lift.cs_len ic_len).more (by omega)) (by omega) LL5.out RL5.out P5.out (by omega) (by omega)).mono ?_
    rintro e w16 ⟨rfl, hb16⟩
    have B16 := bel2 B15 hb16
    have S16 := hb16.size
    have h0_16 := h0_15.below (hb16.mono (by omega))
    clear h0_15
    clear u3_15
    have g5_16 := g5_15.bel hb16
    clear g5_15
    clear v14_15
    go_wp2
    go_ret
    exact ⟨rfl, B16⟩
  · go_enter Try.func4, Try.ntmps4
    go_wp2_with fail
    refine (szLiftS_no _ _ _ xs0 _ _ _ (h0.more (by omega)) hn0 wf0 (by omega) (by omega) (by omega)).mono ?_
    rintro e w1 ⟨rfl, hb1⟩
    have B1 := hb1
    have S1 := hb1.size
    have h0_1 := h0.below (hb1.mono (by omega))
    clear h0
    go_wp2
    go_ret
    exact ⟨rfl, B1⟩
end Go.Proofs.Ytbklbhbjlbojdaa.lawDropLift
