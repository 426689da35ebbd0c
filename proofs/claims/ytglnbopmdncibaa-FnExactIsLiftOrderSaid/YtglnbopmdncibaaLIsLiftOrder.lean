/- FnExactIsLiftOrder: the walk: the law returns true for every input. -/
import Derived.Test.YtglnbopmdncibaaOrder
import Derived.Test.YtglnbopmdncibaaLiftRows
namespace Go.Proofs.Ytglnbopmdncibaa.lawIsLiftOrder
open Go.RowKit
set_option linter.unusedVariables false

set_option maxRecDepth 100000 in
set_option maxHeartbeats 3200000 in
theorem walk (A0 : Option Addr) (n0 c0 : Nat) (xs0 : List Lift) (A1 : Option Addr) (n1 c1 : Nat) (xs1 : List Int) (w : World) (hn0 : n0 ≤ 9223372036854775807) (ha0 : Lifts w 0 w.heap.size A0 n0 xs0 ∧ ∀ p ∈ xs0, Lift.wf p) (hn1 : n1 ≤ 9223372036854775807) (ha1 : Arr ic 1 w 0 w.heap.size A1 n1 xs1 ∧ ∀ p ∈ xs1, True) :
    Calls Try.prog 8 #[.slice A0 n0 c0, .slice A1 n1 c1] w fun e w' => e = .returned (.bool true) ∧ Below w.heap.size w w' := by
  obtain ⟨h0, wf0⟩ := ha0
  have q0 := Lib.hid h0.len
  have l0 := Lib.hid (rows_len h0)
  obtain ⟨h1, wf1⟩ := ha1
  have q1 := Lib.hid h1.1
  have z1 : 0 ≤ (n1 : Int) := by omega
  have z0 : 0 ≤ szLiftS n0 xs0 := by unfold szLiftS; omega
  by_cases hs1 : (n1 : Int) ≤ 1048576
  · by_cases hs0 : szLiftS n0 xs0 ≤ 1048576
    · go_enter Try.func8, Try.ntmps8
      go_wp2_with fail
      refine (szLiftS_ok _ _ _ xs0 _ _ _ (h0.more (by omega)) hn0 wf0 (by omega) (by omega) (by omega)).mono ?_
      rintro e w1 ⟨rfl, hb1⟩
      have B1 := hb1
      have S1 := hb1.size
      have h0_1 := h0.below (hb1.mono (by omega))
      clear h0
      have h1_1 := h1.below (hb1.mono (by omega))
      clear h1
      have m0 : n0 ≤ 1048576 := by unfold szLiftS at hs0; omega
      have r0 := Lib.hid (rows_le (show (tot Lift.sz xs0 : Nat) ≤ 1048576 by unfold szLiftS at hs0; omega) l0.out)
      have T0 : tot Lift.wide xs0 ≤ 9437184 := by have h9 := tot_wide_le l0.out; rw [q0.out] at h9; unfold szLiftS at hs0; omega
      have m1 : n1 ≤ 1048576 := by omega
      go_wp2_with fail
      refine (toLiftS_any _ _ _ xs0 _ _ (h0_1.more (by omega)) m0 r0.out).mono ?_
      rintro e w2 ⟨g2, y2, rfl, v2, o2, hb2⟩
      have B2 := bel2 B1 hb2
      have S2 := hb2.size
      have h0_2 := h0_1.below (hb2.mono (by omega))
      clear h0_1
      have h1_2 := h1_1.below (hb2.mono (by omega))
      clear h1_1
      have t2 := o2
      clear o2
      have V2 := Lib.hid v2
      clear v2
      have L2 := Lib.hid (rows_len (t2.arr Lift.cs_len ic_len))
      have F2 := Lib.hid (recs_wf V2.out L2.out l0.out wf0)
      have R2 := Lib.hid (recs_rn V2.out L2.out l0.out r0.out)
      have TW2 : tot Lift.wide y2 ≤ 9437184 := by rw [tot_wide V2.out]; exact T0
      go_wp2_with fail
      refine (toInt64S_any _ _ _ xs1 _ _ (h1_2.more (by omega)) m1).mono ?_
      rintro e w3 ⟨g3, rfl, o3, hb3⟩
      have B3 := bel2 B2 hb3
      have S3 := hb3.size
      have h0_3 := h0_2.below (hb3.mono (by omega))
      clear h0_2
      have h1_3 := h1_2.below (hb3.mono (by omega))
      clear h1_2
      have t2_3 := t2.bel hb3
      clear t2
      have t3 := o3
      clear o3
      go_wp2_with fail
      refine (specIsLiftOrder_any _ _ _ y2 (xs0.map Lift.val) V2.out _ _ _ xs1 _ _ _ ((t2_3.arr Lift.cs_len ic_len).more (by omega)) m0 (Nat.le_refl _) m0 F2.out ((t3.arr ic_len).more (by omega)) m1).mono ?_
      rintro e w4 ⟨rfl, hb4⟩
      have B4 := bel2 B3 hb4
      have S4 := hb4.size
      have h0_4 := h0_3.below (hb4.mono (by omega))
      clear h0_3
      have h1_4 := h1_3.below (hb4.mono (by omega))
      clear h1_3
      have t2_4 := t2_3.bel hb4
      clear t2_3
      have t3_4 := t3.bel hb4
      clear t3
      go_wp2_with fail
      refine (toLiftS_any _ _ _ xs0 _ _ (h0_4.more (by omega)) m0 r0.out).mono ?_
      rintro e w5 ⟨g5, y5, rfl, v5, o5, hb5⟩
      have B5 := bel2 B4 hb5
      have S5 := hb5.size
      have h0_5 := h0_4.below (hb5.mono (by omega))
      clear h0_4
      have h1_5 := h1_4.below (hb5.mono (by omega))
      clear h1_4
      clear t2_4
      clear t3_4
      have t5 := o5
      clear o5
      have V5 := Lib.hid v5
      clear v5
      have L5 := Lib.hid (rows_len (t5.arr Lift.cs_len ic_len))
      have F5 := Lib.hid (recs_wf V5.out L5.out l0.out wf0)
      have R5 := Lib.hid (recs_rn V5.out L5.out l0.out r0.out)
      have TW5 : tot Lift.wide y5 ≤ 9437184 := by rw [tot_wide V5.out]; exact T0
      go_wp2_with fail
      refine (toInt64S_any _ _ _ xs1 _ _ (h1_5.more (by omega)) m1).mono ?_
      rintro e w6 ⟨g6, rfl, o6, hb6⟩
      have B6 := bel2 B5 hb6
      have S6 := hb6.size
      have h0_6 := h0_5.below (hb6.mono (by omega))
      clear h0_5
      have h1_6 := h1_5.below (hb6.mono (by omega))
      clear h1_5
      have t5_6 := t5.bel hb6
      clear t5
      have t6 := o6
      clear o6
      go_wp2_with fail
      refine (isLiftOrder_any _ _ _ y5 (xs0.map Lift.val) V5.out _ _ _ xs1 _ _ _ ((t5_6.arr Lift.cs_len ic_len).more (by omega)) m0 F5.out ((t6.arr ic_len).more (by omega)) m1).mono ?_
      rintro e w7 ⟨rfl, hb7⟩
      have B7 := bel2 B6 hb7
      have S7 := hb7.size
      have h0_7 := h0_6.below (hb7.mono (by omega))
      clear h0_6
      have h1_7 := h1_6.below (hb7.mono (by omega))
      clear h1_6
      have t5_7 := t5_6.bel hb7
      clear t5_6
      have t6_7 := t6.bel hb7
      clear t6
      go_wp2_with fail
      refine (toLiftS_any _ _ _ xs0 _ _ (h0_7.more (by omega)) m0 r0.out).mono ?_
      rintro e w8 ⟨g8, y8, rfl, v8, o8, hb8⟩
      have B8 := bel2 B7 hb8
      have S8 := hb8.size
      have h0_8 := h0_7.below (hb8.mono (by omega))
      clear h0_7
      have h1_8 := h1_7.below (hb8.mono (by omega))
      clear h1_7
      have t5_8 := t5_7.bel hb8
      clear t5_7
      have t6_8 := t6_7.bel hb8
      clear t6_7
      have t8 := o8
      clear o8
      have V8 := Lib.hid v8
      clear v8
      have L8 := Lib.hid (rows_len (t8.arr Lift.cs_len ic_len))
      have F8 := Lib.hid (recs_wf V8.out L8.out l0.out wf0)
      have R8 := Lib.hid (recs_rn V8.out L8.out l0.out r0.out)
      have TW8 : tot Lift.wide y8 ≤ 9437184 := by rw [tot_wide V8.out]; exact T0
      go_wp2_with fail
      refine (eqLiftS_same _ _ _ _ _ y5 y8 _ _ _ (V5.out.trans V8.out.symm) ((t5_8.arr Lift.cs_len ic_len).more (by omega)) ((t8.arr Lift.cs_len ic_len).more (by omega)) (by omega) (fun p hp => (F5.out p hp).n)).mono ?_
      rintro e w9 ⟨rfl, hb9⟩
      have B9 := bel2 B8 hb9
      have S9 := hb9.size
      have h0_9 := h0_8.below (hb9.mono (by omega))
      clear h0_8
      have h1_9 := h1_8.below (hb9.mono (by omega))
      clear h1_8
      have t5_9 := t5_8.bel hb9
      clear t5_8
      have t6_9 := t6_8.bel hb9
      clear t6_8
      clear t8
      go_wp2_with fail
      refine (toInt64S_any _ _ _ xs1 _ _ (h1_9.more (by omega)) m1).mono ?_
      rintro e w10 ⟨g10, rfl, o10, hb10⟩
      have B10 := bel2 B9 hb10
      have S10 := hb10.size
      have h0_10 := h0_9.below (hb10.mono (by omega))
      clear h0_9
      have h1_10 := h1_9.below (hb10.mono (by omega))
      clear h1_9
      have t5_10 := t5_9.bel hb10
      clear t5_9
      have t6_10 := t6_9.bel hb10
      clear t6_9
      have t10 := o10
      clear o10
      go_wp2_with fail
      refine (eqInt64S_same _ _ _ _ _ xs1 _ _ _ ((t6_10.arr ic_len).more (by omega)) ((t10.arr ic_len).more (by omega)) (by omega)).mono ?_
      rintro e w11 ⟨rfl, hb11⟩
      have B11 := bel2 B10 hb11
      have S11 := hb11.size
      have h0_11 := h0_10.below (hb11.mono (by omega))
      clear h0_10
      have h1_11 := h1_10.below (hb11.mono (by omega))
      clear h1_10
      have t5_11 := t5_10.bel hb11
      clear t5_10
      have t6_11 := t6_10.bel hb11
      clear t6_10
      clear t10
      go_wp2
      go_ret
      exact ⟨rfl, B11⟩
    · go_enter Try.func8, Try.ntmps8
      go_wp2_with fail
      refine (szLiftS_no _ _ _ xs0 _ _ _ (h0.more (by omega)) hn0 wf0 (by omega) (by omega) (by omega)).mono ?_
      rintro e w1 ⟨rfl, hb1⟩
      have B1 := hb1
      have S1 := hb1.size
      have h0_1 := h0.below (hb1.mono (by omega))
      clear h0
      have h1_1 := h1.below (hb1.mono (by omega))
      clear h1
      go_wp2
      go_ret
      exact ⟨rfl, B1⟩
  · go_enter Try.func8, Try.ntmps8
    go_wp2
    go_ret
    exact ⟨rfl, Below.refl _ _⟩
end Go.Proofs.Ytglnbopmdncibaa.lawIsLiftOrder
