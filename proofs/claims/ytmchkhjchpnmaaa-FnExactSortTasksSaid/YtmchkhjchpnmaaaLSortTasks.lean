/- FnExactSortTasks: the walk: the law returns true for every input. -/
import Derived.Test.YtmchkhjchpnmaaaSpecSort
import Derived.Test.YtmchkhjchpnmaaaSortTasks
import Derived.Test.YtmchkhjchpnmaaaMTask
import Derived.Test.YtmchkhjchpnmaaaOpen
import Derived.Deep.RegionHeld3
namespace Go.Proofs.Ytmchkhjchpnmaaa.lawSortTasks
open Go.RowKit
set_option linter.unusedVariables false

set_option maxRecDepth 100000 in
set_option maxHeartbeats 3200000 in
theorem walk (A0 : Option Addr) (n0 c0 : Nat) (xs0 : List Task) (w : World) (hn0 : n0 ≤ 9223372036854775807) (ha0 : Arr Task.cs 4 w 0 w.heap.size A0 n0 xs0 ∧ ∀ p ∈ xs0, Task.wf p) :
    Calls Try.prog 3 #[.slice A0 n0 c0] w fun e w' => e = .returned (.bool true) ∧ Below w.heap.size w w' := by
  obtain ⟨h0, wf0⟩ := ha0
  have q0 := Lib.hid h0.1
  have z0 : 0 ≤ szTaskS n0 xs0 := by unfold szTaskS; omega
  by_cases hs0 : szTaskS n0 xs0 ≤ 1048576
  · go_enter Try.func3, Try.ntmps3
    go_wp2_with fail
    refine (szTaskS_ok _ _ _ xs0 _ _ _ (h0.more (by omega)) hn0 wf0 (by omega) (by omega) (by omega)).mono ?_
    rintro e w1 ⟨rfl, hb1⟩
    have B1 := hb1
    have S1 := hb1.size
    have h0_1 := h0.below (hb1.mono (by omega))
    clear h0
    have m0 : n0 ≤ 1048576 := by unfold szTaskS at hs0; omega
    go_wp2_with fail
    refine (toTaskS_any _ _ _ xs0 _ _ (h0_1.more (by omega)) m0).mono ?_
    rintro e w2 ⟨g2, rfl, o2, hb2⟩
    have B2 := bel2 B1 hb2
    have S2 := hb2.size
    have h0_2 := h0_1.below (hb2.mono (by omega))
    clear h0_1
    have t2 := o2
    clear o2
    go_wp2_with fail
    refine (specSortTasks_any _ _ _ xs0 _ _ ((t2.arr Task.cs_len).more (by omega)) m0).mono ?_
    rintro e w3 ⟨A3, c3, rfl, o3, hb3⟩
    have B3 := bel2 B2 hb3
    have S3 := hb3.size
    have h0_3 := h0_2.below (hb3.mono (by omega))
    clear h0_2
    have t2_3 := t2.bel hb3
    clear t2
    have u3 := o3
    clear o3
    go_wp2_with fail
    refine (toTaskS_any _ _ _ xs0 _ _ (h0_3.more (by omega)) m0).mono ?_
    rintro e w4 ⟨g4, rfl, o4, hb4⟩
    have B4 := bel2 B3 hb4
    have S4 := hb4.size
    have h0_4 := h0_3.below (hb4.mono (by omega))
    clear h0_3
    clear t2_3
    have u3_4 := u3.bel hb4
    clear u3
    have t4 := o4
    clear o4
    go_wp2_with fail
    refine (sortTasksAll_any _ _ _ xs0 _ _ ((t4.arr Task.cs_len).more (by omega)) m0).mono ?_
    rintro e w5 ⟨A5, c5, rfl, o5, hb5⟩
    have B5 := bel2 B4 hb5
    have S5 := hb5.size
    have h0_5 := h0_4.below (hb5.mono (by omega))
    clear h0_4
    have u3_5 := u3_4.bel hb5
    clear u3_4
    have t4_5 := t4.bel hb5
    clear t4
    have g5 := o5
    clear o5
    have len0 : (srtXs xs0).length ≤ 1048576 := by have := srtXs_len xs0; have h9 := q0.out; omega
    go_wp2_with fail
    refine (eqTaskS_same _ _ _ _ _ (srtXs xs0) _ _ _ ((g5.arr Task.cs_len).more (by omega)) ((u3_5.arr Task.cs_len).more (by omega)) (by omega)).mono ?_
    rintro e w6 ⟨rfl, hb6⟩
    have B6 := bel2 B5 hb6
    have S6 := hb6.size
    have h0_6 := h0_5.below (hb6.mono (by omega))
    clear h0_5
    have u3_6 := u3_5.bel hb6
    clear u3_5
    have t4_6 := t4_5.bel hb6
    clear t4_5
    have g5_6 := g5.bel hb6
    clear g5
    go_wp2_with fail
    refine (toTaskS_any _ _ _ xs0 _ _ (h0_6.more (by omega)) m0).mono ?_
    rintro e w7 ⟨g7, rfl, o7, hb7⟩
    have B7 := bel2 B6 hb7
    have S7 := hb7.size
    have h0_7 := h0_6.below (hb7.mono (by omega))
    clear h0_6
    have u3_7 := u3_6.bel hb7
    clear u3_6
    have t4_7 := t4_6.bel hb7
    clear t4_6
    have g5_7 := g5_6.bel hb7
    clear g5_6
    have t7 := o7
    clear o7
    go_wp2_with fail
    refine (eqTaskS_same _ _ _ _ _ xs0 _ _ _ ((t4_7.arr Task.cs_len).more (by omega)) ((t7.arr Task.cs_len).more (by omega)) (by omega)).mono ?_
    rintro e w8 ⟨rfl, hb8⟩
    have B8 := bel2 B7 hb8
    have S8 := hb8.size
    have h0_8 := h0_7.below (hb8.mono (by omega))
    clear h0_7
    have u3_8 := u3_7.bel hb8
    clear u3_7
    have t4_8 := t4_7.bel hb8
    clear t4_7
    have g5_8 := g5_7.bel hb8
    clear g5_7
    clear t7
    go_wp2_with fail
    refine (markTaskS_any _ _ _ _ _ _ _ _ t4_8 (by omega) (by omega) (by omega)).mono ?_
    rintro e w9 ⟨rfl, hw9, o9⟩
    have B9 := Below.within B8 hw9 (by omega) (by omega)
    have S9 := hw9.size
    have h0_9 := h0_8.within hw9 (by omega) (by omega)
    clear h0_8
    have u3_9 := u3_8.within hw9 (by omega)
    clear u3_8
    clear o9
    have g5_9 := g5_8.within hw9 (by omega)
    clear g5_8
    go_wp2_with fail
    refine (eqTaskS_same _ _ _ _ _ (srtXs xs0) _ _ _ ((g5_9.arr Task.cs_len).more (by omega)) ((u3_9.arr Task.cs_len).more (by omega)) (by omega)).mono ?_
    rintro e w10 ⟨rfl, hb10⟩
    have B10 := bel2 B9 hb10
    have S10 := hb10.size
    have h0_10 := h0_9.below (hb10.mono (by omega))
    clear h0_9
    have u3_10 := u3_9.bel hb10
    clear u3_9
    have g5_10 := g5_9.bel hb10
    clear g5_9
    go_wp2_with fail
    refine (markTaskS_any _ _ _ _ _ _ _ _ g5_10 (by omega) (by omega) (by omega)).mono ?_
    rintro e w11 ⟨rfl, hw11, o11⟩
    have B11 := Below.within B10 hw11 (by omega) (by omega)
    have S11 := hw11.size
    have h0_11 := h0_10.within hw11 (by omega) (by omega)
    clear h0_10
    have u3_11 := u3_10.within hw11 (by omega)
    clear u3_10
    go_wp2_with fail
    refine (heldTaskS_same _ _ _ _ _ _ ((o11.arr Task.cs_len).more (by omega)) (by omega) (by omega) (by omega)).mono ?_
    rintro e w12 ⟨rfl, hb12⟩
    have B12 := bel2 B11 hb12
    have S12 := hb12.size
    have h0_12 := h0_11.below (hb12.mono (by omega))
    clear h0_11
    have u3_12 := u3_11.bel hb12
    clear u3_11
    have g5_12 := o11.bel hb12
    clear o11
    go_wp2_with fail
    refine (toTaskS_any _ _ _ xs0 _ _ (h0_12.more (by omega)) m0).mono ?_
    rintro e w13 ⟨g13, rfl, o13, hb13⟩
    have B13 := bel2 B12 hb13
    have S13 := hb13.size
    have h0_13 := h0_12.below (hb13.mono (by omega))
    clear h0_12
    have u3_13 := u3_12.bel hb13
    clear u3_12
    have g5_13 := g5_12.bel hb13
    clear g5_12
    have t13 := o13
    clear o13
    go_wp2_with fail
    refine (sortTasksAll_any _ _ _ xs0 _ _ ((t13.arr Task.cs_len).more (by omega)) m0).mono ?_
    rintro e w14 ⟨A14, c14, rfl, o14, hb14⟩
    have B14 := bel2 B13 hb14
    have S14 := hb14.size
    have h0_14 := h0_13.below (hb14.mono (by omega))
    clear h0_13
    have u3_14 := u3_13.bel hb14
    clear u3_13
    have g5_14 := g5_13.bel hb14
    clear g5_13
    clear t13
    have v14 := o14
    clear o14
    go_wp2_with fail
    refine (eqTaskS_same _ _ _ _ _ (srtXs xs0) _ _ _ ((v14.arr Task.cs_len).more (by omega)) ((u3_14.arr Task.cs_len).more (by omega)) (by omega)).mono ?_
    rintro e w15 ⟨rfl, hb15⟩
    have B15 := bel2 B14 hb15
    have S15 := hb15.size
    have h0_15 := h0_14.below (hb15.mono (by omega))
    clear h0_14
    have u3_15 := u3_14.bel hb15
    clear u3_14
    have g5_15 := g5_14.bel hb15
    clear g5_14
    have v14_15 := v14.bel hb15
    clear v14
    go_wp2_with fail
    refine (heldTaskS_same _ _ _ _ _ _ ((g5_15.arr Task.cs_len).more (by omega)) (by omega) (by omega) (by omega)).mono ?_
    rintro e w16 ⟨rfl, hb16⟩
    have B16 := bel2 B15 hb16
    have S16 := hb16.size
    have h0_16 := h0_15.below (hb16.mono (by omega))
    clear h0_15
    clear u3_15
    have g5_16 := g5_15.bel hb16
    clear g5_15
    clear v14_15
    go_wp2
    go_ret
    exact ⟨rfl, B16⟩
  · go_enter Try.func3, Try.ntmps3
    go_wp2_with fail
    refine (szTaskS_no _ _ _ xs0 _ _ _ (h0.more (by omega)) hn0 wf0 (by omega) (by omega) (by omega)).mono ?_
    rintro e w1 ⟨rfl, hb1⟩
    have B1 := hb1
    have S1 := hb1.size
    have h0_1 := h0.below (hb1.mono (by omega))
    clear h0
    go_wp2
    go_ret
    exact ⟨rfl, B1⟩
end Go.Proofs.Ytmchkhjchpnmaaa.lawSortTasks
