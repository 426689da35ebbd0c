/- FnExactShiftFault: the walk: the law returns true for every input. -/
import Derived.Test.YtglnbopmdncibaaFirstFault
import Derived.Test.YtglnbopmdncibaaOpen
namespace Go.Proofs.Ytglnbopmdncibaa.lawShiftFault
open Go.RowKit
set_option linter.unusedVariables false

set_option maxRecDepth 100000 in
set_option maxHeartbeats 3200000 in
theorem walk (A0 : Option Addr) (n0 c0 : Nat) (xs0 : List Person) (A1 : Option Addr) (n1 c1 : Nat) (xs1 : List Shift) (w : World) (hn0 : n0 ≤ 9223372036854775807) (ha0 : Arr Person.cs 3 w 0 w.heap.size A0 n0 xs0 ∧ ∀ p ∈ xs0, Person.wf p) (hn1 : n1 ≤ 9223372036854775807) (ha1 : Arr Shift.cs 5 w 0 w.heap.size A1 n1 xs1 ∧ ∀ p ∈ xs1, Shift.wf p) :
    Calls Try.prog 3 #[.slice A0 n0 c0, .slice A1 n1 c1] w fun e w' => e = .returned (.bool true) ∧ Below w.heap.size w w' := by
  obtain ⟨h0, wf0⟩ := ha0
  have q0 := Lib.hid h0.1
  obtain ⟨h1, wf1⟩ := ha1
  have q1 := Lib.hid h1.1
  have z0 : 0 ≤ szPersonS n0 xs0 := by unfold szPersonS; omega
  have z1 : 0 ≤ szShiftS n1 xs1 := by unfold szShiftS; omega
  by_cases hs0 : szPersonS n0 xs0 ≤ 1048576
  · by_cases hs1 : szShiftS n1 xs1 ≤ 1048576 - szPersonS n0 xs0
    · go_enter Try.func3, Try.ntmps3
      go_wp2_with fail
      refine (szPersonS_ok _ _ _ xs0 _ _ _ (h0.more (by omega)) hn0 wf0 (by omega) (by omega) (by omega)).mono ?_
      rintro e w1 ⟨rfl, hb1⟩
      have B1 := hb1
      have S1 := hb1.size
      have h0_1 := h0.below (hb1.mono (by omega))
      clear h0
      have h1_1 := h1.below (hb1.mono (by omega))
      clear h1
      go_wp2_with fail
      refine (szShiftS_ok _ _ _ xs1 _ _ _ (h1_1.more (by omega)) hn1 wf1 (by omega) (by omega) (by omega)).mono ?_
      rintro e w2 ⟨rfl, hb2⟩
      have B2 := bel2 B1 hb2
      have S2 := hb2.size
      have h0_2 := h0_1.below (hb2.mono (by omega))
      clear h0_1
      have h1_2 := h1_1.below (hb2.mono (by omega))
      clear h1_1
      have m0 : n0 ≤ 1048576 := by unfold szPersonS at hs0; omega
      have m1 : n1 ≤ 1048576 := by unfold szShiftS at hs1; omega
      go_wp2_with fail
      refine (toPersonS_any _ _ _ xs0 _ _ (h0_2.more (by omega)) m0).mono ?_
      rintro e w3 ⟨g3, rfl, o3, hb3⟩
      have B3 := bel2 B2 hb3
      have S3 := hb3.size
      have h0_3 := h0_2.below (hb3.mono (by omega))
      clear h0_2
      have h1_3 := h1_2.below (hb3.mono (by omega))
      clear h1_2
      have t3 := o3
      clear o3
      go_wp2_with fail
      refine (toShiftS_any _ _ _ xs1 _ _ (h1_3.more (by omega)) m1).mono ?_
      rintro e w4 ⟨g4, rfl, o4, hb4⟩
      have B4 := bel2 B3 hb4
      have S4 := hb4.size
      have h0_4 := h0_3.below (hb4.mono (by omega))
      clear h0_3
      have h1_4 := h1_3.below (hb4.mono (by omega))
      clear h1_3
      have t3_4 := t3.bel hb4
      clear t3
      have t4 := o4
      clear o4
      go_wp2_with fail
      refine (specShiftFaultAll_any _ _ _ _ _ _ xs0 xs1 _ _ _ ((t3_4.arr Person.cs_len).more (by omega)) m0 wf0 ((t4.arr Shift.cs_len).more (by omega)) (Nat.le_refl _) m1).mono ?_
      rintro e w5 ⟨rfl, hb5⟩
      have B5 := bel2 B4 hb5
      have S5 := hb5.size
      have h0_5 := h0_4.below (hb5.mono (by omega))
      clear h0_4
      have h1_5 := h1_4.below (hb5.mono (by omega))
      clear h1_4
      have t3_5 := t3_4.bel hb5
      clear t3_4
      have t4_5 := t4.bel hb5
      clear t4
      go_wp2_with fail
      refine (toPersonS_any _ _ _ xs0 _ _ (h0_5.more (by omega)) m0).mono ?_
      rintro e w6 ⟨g6, rfl, o6, hb6⟩
      have B6 := bel2 B5 hb6
      have S6 := hb6.size
      have h0_6 := h0_5.below (hb6.mono (by omega))
      clear h0_5
      have h1_6 := h1_5.below (hb6.mono (by omega))
      clear h1_5
      clear t3_5
      clear t4_5
      have t6 := o6
      clear o6
      go_wp2_with fail
      refine (toShiftS_any _ _ _ xs1 _ _ (h1_6.more (by omega)) m1).mono ?_
      rintro e w7 ⟨g7, rfl, o7, hb7⟩
      have B7 := bel2 B6 hb7
      have S7 := hb7.size
      have h0_7 := h0_6.below (hb7.mono (by omega))
      clear h0_6
      have h1_7 := h1_6.below (hb7.mono (by omega))
      clear h1_6
      have t6_7 := t6.bel hb7
      clear t6
      have t7 := o7
      clear o7
      go_wp2_with fail
      refine (shiftFaultAll_any _ _ _ _ _ _ xs0 xs1 _ _ _ ((t6_7.arr Person.cs_len).more (by omega)) m0 wf0 ((t7.arr Shift.cs_len).more (by omega)) (Nat.le_refl _) m1).mono ?_
      rintro e w8 ⟨rfl, hb8⟩
      have B8 := bel2 B7 hb8
      have S8 := hb8.size
      have h0_8 := h0_7.below (hb8.mono (by omega))
      clear h0_7
      have h1_8 := h1_7.below (hb8.mono (by omega))
      clear h1_7
      have t6_8 := t6_7.bel hb8
      clear t6_7
      have t7_8 := t7.bel hb8
      clear t7
      go_wp2_with fail
      refine (toPersonS_any _ _ _ xs0 _ _ (h0_8.more (by omega)) m0).mono ?_
      rintro e w9 ⟨g9, rfl, o9, hb9⟩
      have B9 := bel2 B8 hb9
      have S9 := hb9.size
      have h0_9 := h0_8.below (hb9.mono (by omega))
      clear h0_8
      have h1_9 := h1_8.below (hb9.mono (by omega))
      clear h1_8
      have t6_9 := t6_8.bel hb9
      clear t6_8
      have t7_9 := t7_8.bel hb9
      clear t7_8
      have t9 := o9
      clear o9
      go_wp2_with fail
      refine (eqPersonS_same _ _ _ _ _ xs0 _ _ _ ((t6_9.arr Person.cs_len).more (by omega)) ((t9.arr Person.cs_len).more (by omega)) (by omega)).mono ?_
      rintro e w10 ⟨rfl, hb10⟩
      have B10 := bel2 B9 hb10
      have S10 := hb10.size
      have h0_10 := h0_9.below (hb10.mono (by omega))
      clear h0_9
      have h1_10 := h1_9.below (hb10.mono (by omega))
      clear h1_9
      have t6_10 := t6_9.bel hb10
      clear t6_9
      have t7_10 := t7_9.bel hb10
      clear t7_9
      clear t9
      go_wp2_with fail
      refine (toShiftS_any _ _ _ xs1 _ _ (h1_10.more (by omega)) m1).mono ?_
      rintro e w11 ⟨g11, rfl, o11, hb11⟩
      have B11 := bel2 B10 hb11
      have S11 := hb11.size
      have h0_11 := h0_10.below (hb11.mono (by omega))
      clear h0_10
      have h1_11 := h1_10.below (hb11.mono (by omega))
      clear h1_10
      have t6_11 := t6_10.bel hb11
      clear t6_10
      have t7_11 := t7_10.bel hb11
      clear t7_10
      have t11 := o11
      clear o11
      go_wp2_with fail
      refine (eqShiftS_same _ _ _ _ _ xs1 _ _ _ ((t7_11.arr Shift.cs_len).more (by omega)) ((t11.arr Shift.cs_len).more (by omega)) (by omega)).mono ?_
      rintro e w12 ⟨rfl, hb12⟩
      have B12 := bel2 B11 hb12
      have S12 := hb12.size
      have h0_12 := h0_11.below (hb12.mono (by omega))
      clear h0_11
      have h1_12 := h1_11.below (hb12.mono (by omega))
      clear h1_11
      have t6_12 := t6_11.bel hb12
      clear t6_11
      have t7_12 := t7_11.bel hb12
      clear t7_11
      clear t11
      go_wp2
      go_ret
      exact ⟨rfl, B12⟩
    · go_enter Try.func3, Try.ntmps3
      go_wp2_with fail
      refine (szPersonS_ok _ _ _ xs0 _ _ _ (h0.more (by omega)) hn0 wf0 (by omega) (by omega) (by omega)).mono ?_
      rintro e w1 ⟨rfl, hb1⟩
      have B1 := hb1
      have S1 := hb1.size
      have h0_1 := h0.below (hb1.mono (by omega))
      clear h0
      have h1_1 := h1.below (hb1.mono (by omega))
      clear h1
      go_wp2_with fail
      refine (szShiftS_no _ _ _ xs1 _ _ _ (h1_1.more (by omega)) hn1 wf1 (by omega) (by omega) (by omega)).mono ?_
      rintro e w2 ⟨rfl, hb2⟩
      have B2 := bel2 B1 hb2
      have S2 := hb2.size
      have h0_2 := h0_1.below (hb2.mono (by omega))
      clear h0_1
      have h1_2 := h1_1.below (hb2.mono (by omega))
      clear h1_1
      go_wp2
      go_ret
      exact ⟨rfl, B2⟩
  · go_enter Try.func3, Try.ntmps3
    go_wp2_with fail
    refine (szPersonS_no _ _ _ xs0 _ _ _ (h0.more (by omega)) hn0 wf0 (by omega) (by omega) (by omega)).mono ?_
    rintro e w1 ⟨rfl, hb1⟩
    have B1 := hb1
    have S1 := hb1.size
    have h0_1 := h0.below (hb1.mono (by omega))
    clear h0
    have h1_1 := h1.below (hb1.mono (by omega))
    clear h1
    go_wp2
    go_ret
    exact ⟨rfl, B1⟩
end Go.Proofs.Ytglnbopmdncibaa.lawShiftFault
