/- FnExactLiftText: the walk: the law returns true for every input. -/
import Derived.Test.YtdhobglhjdgboaaDoorLiftText2
import Derived.Test.YtdhobglhjdgboaaDoorLiftRows
import Derived.Test.YtdhobglhjdgboaaDoorRLift
import Derived.Deep.RegionHeld3
namespace Go.Proofs.YtdhobglhjdgboaaDoor.lawLiftText
open Go.RowKit
set_option linter.unusedVariables false

set_option maxRecDepth 100000 in
set_option maxHeartbeats 3200000 in
theorem walk (A0 : Option Addr) (n0 c0 : Nat) (xs0 : List Lift) (a1 : Int) (w : World) (hn0 : n0 ≤ 9223372036854775807) (ha0 : Lifts w 0 w.heap.size A0 n0 xs0 ∧ ∀ p ∈ xs0, Lift.wf p) (hi1 : (Lit.int .i64 a1).wf = true) (ht : TabW w) :
    Calls Tryd.prog 3 #[.slice A0 n0 c0, .int .i64 a1] w fun e w' => e = .returned (.bool true) ∧ Below w.heap.size w w' := by
  have HT := Lib.hid ht
  clear ht
  obtain ⟨h0, wf0⟩ := ha0
  have q0 := Lib.hid h0.len
  have l0 := Lib.hid (rows_len h0)
  have hi1 := wf_bounds hi1
  have z0 : 0 ≤ szLiftS n0 xs0 := by unfold szLiftS; omega
  by_cases hs0 : szLiftS n0 xs0 ≤ 1048576
  · go_enter Tryd.func3, Tryd.ntmps3
    go_wp2_with fail
    refine (szLiftS_ok _ _ _ xs0 _ _ _ (h0.more (by omega)) hn0 wf0 (by omega) (by omega) (by omega)).mono ?_
    rintro e w1 ⟨rfl, hb1⟩
    have B1 := hb1
    have S1 := hb1.size
    have h0_1 := h0.below (hb1.mono (by omega))
    clear h0
    have m0 : n0 ≤ 1048576 := by unfold szLiftS at hs0; omega
    have r0 := Lib.hid (rows_le (show (tot Lift.sz xs0 : Nat) ≤ 1048576 by unfold szLiftS at hs0; omega) l0.out)
    have T0 : tot Lift.wide xs0 ≤ 9437184 := by have h9 := tot_wide_le l0.out; rw [q0.out] at h9; unfold szLiftS at hs0; omega
    go_wp2_with fail
    refine (toLiftS_any _ _ _ xs0 _ _ (h0_1.more (by omega)) m0 r0.out).mono ?_
    rintro e w2 ⟨g2, y2, rfl, v2, o2, hb2⟩
    have B2 := bel2 B1 hb2
    have S2 := hb2.size
    have h0_2 := h0_1.below (hb2.mono (by omega))
    clear h0_1
    have t2 := o2
    clear o2
    have V2 := Lib.hid v2
    clear v2
    have L2 := Lib.hid (rows_len (t2.arr Lift.cs_len ic_len))
    have F2 := Lib.hid (recs_wf V2.out L2.out l0.out wf0)
    have R2 := Lib.hid (recs_rn V2.out L2.out l0.out r0.out)
    have TW2 : tot Lift.wide y2 ≤ 9437184 := (by rw [tot_wide V2.out]; exact T0)
    go_wp2_with fail
    refine (specLiftText_any _ _ _ y2 (xs0.map Lift.val) V2.out a1 _ _ ((t2.arr Lift.cs_len ic_len).more (by omega)) m0 (Nat.le_refl _) m0 F2.out).mono ?_
    rintro e w3 ⟨rfl, hb3⟩
    have B3 := bel2 B2 hb3
    have S3 := hb3.size
    have h0_3 := h0_2.below (hb3.mono (by omega))
    clear h0_2
    have t2_3 := t2.bel hb3
    clear t2
    go_wp2_with fail
    refine (toLiftS_any _ _ _ xs0 _ _ (h0_3.more (by omega)) m0 r0.out).mono ?_
    rintro e w4 ⟨g4, y4, rfl, v4, o4, hb4⟩
    have B4 := bel2 B3 hb4
    have S4 := hb4.size
    have h0_4 := h0_3.below (hb4.mono (by omega))
    clear h0_3
    clear t2_3
    have t4 := o4
    clear o4
    have V4 := Lib.hid v4
    clear v4
    have L4 := Lib.hid (rows_len (t4.arr Lift.cs_len ic_len))
    have F4 := Lib.hid (recs_wf V4.out L4.out l0.out wf0)
    have R4 := Lib.hid (recs_rn V4.out L4.out l0.out r0.out)
    have TW4 : tot Lift.wide y4 ≤ 9437184 := (by rw [tot_wide V4.out]; exact T0)
    go_wp2_with fail
    refine (liftText_any _ _ _ y4 (xs0.map Lift.val) V4.out a1 _ _ ((t4.arr Lift.cs_len ic_len).more (by omega)) m0 F4.out (HT.out.bel B4)).mono ?_
    rintro e w5 ⟨rfl, hb5⟩
    have B5 := bel2 B4 hb5
    have S5 := hb5.size
    have h0_5 := h0_4.below (hb5.mono (by omega))
    clear h0_4
    have t4_5 := t4.bel hb5
    clear t4
    go_wp2_with fail
    refine (toLiftS_any _ _ _ xs0 _ _ (h0_5.more (by omega)) m0 r0.out).mono ?_
    rintro e w6 ⟨g6, y6, rfl, v6, o6, hb6⟩
    have B6 := bel2 B5 hb6
    have S6 := hb6.size
    have h0_6 := h0_5.below (hb6.mono (by omega))
    clear h0_5
    have t4_6 := t4_5.bel hb6
    clear t4_5
    have t6 := o6
    clear o6
    have V6 := Lib.hid v6
    clear v6
    have L6 := Lib.hid (rows_len (t6.arr Lift.cs_len ic_len))
    have F6 := Lib.hid (recs_wf V6.out L6.out l0.out wf0)
    have R6 := Lib.hid (recs_rn V6.out L6.out l0.out r0.out)
    have TW6 : tot Lift.wide y6 ≤ 9437184 := (by rw [tot_wide V6.out]; exact T0)
    go_wp2_with fail
    refine (eqLiftS_same _ _ _ _ _ y4 y6 _ _ _ (V4.out.trans V6.out.symm) ((t4_6.arr Lift.cs_len ic_len).more (by omega)) ((t6.arr Lift.cs_len ic_len).more (by omega)) (by omega) (fun p hp => (F4.out p hp).n)).mono ?_
    rintro e w7 ⟨rfl, hb7⟩
    have B7 := bel2 B6 hb7
    have S7 := hb7.size
    have h0_7 := h0_6.below (hb7.mono (by omega))
    clear h0_6
    have t4_7 := t4_6.bel hb7
    clear t4_6
    clear t6
    go_wp2
    go_ret
    exact ⟨rfl, B7⟩
  · go_enter Tryd.func3, Tryd.ntmps3
    go_wp2_with fail
    refine (szLiftS_no _ _ _ xs0 _ _ _ (h0.more (by omega)) hn0 wf0 (by omega) (by omega) (by omega)).mono ?_
    rintro e w1 ⟨rfl, hb1⟩
    have B1 := hb1
    have S1 := hb1.size
    have h0_1 := h0.below (hb1.mono (by omega))
    clear h0
    go_wp2
    go_ret
    exact ⟨rfl, B1⟩
end Go.Proofs.YtdhobglhjdgboaaDoor.lawLiftText
