/- FnExactAddShift: the walk: the law returns true for every input. -/
import Derived.Test.YtdoinbnnpompiaaAddShift
import Derived.Test.YtdoinbnnpompiaaMShift
import Derived.Test.YtdoinbnnpompiaaMPerson
import Derived.Test.YtdoinbnnpompiaaOpen
import Derived.Deep.RegionHeld3
namespace Go.Proofs.Ytdoinbnnpompiaa.lawAddShift
open Go.RowKit
set_option linter.unusedVariables false

set_option maxRecDepth 100000 in
set_option maxHeartbeats 3200000 in
theorem walk (A0 : Option Addr) (n0 c0 : Nat) (xs0 : List Person) (A1 : Option Addr) (n1 c1 : Nat) (xs1 : List Shift) (a2 : Shift) (w : World) (hn0 : n0 ≤ 9223372036854775807) (ha0 : Arr Person.cs 3 w 0 w.heap.size A0 n0 xs0 ∧ ∀ p ∈ xs0, Person.wf p) (hn1 : n1 ≤ 9223372036854775807) (ha1 : Arr Shift.cs 5 w 0 w.heap.size A1 n1 xs1 ∧ ∀ p ∈ xs1, Shift.wf p) (hi2 : a2.wf) :
    Calls Try.prog 7 #[.slice A0 n0 c0, .slice A1 n1 c1, .agg #[.int .i64 a2.person, .int .i64 a2.crane, .int .i64 a2.role, .int .i64 a2.start, .int .i64 a2.stop]] w fun e w' => e = .returned (.bool true) ∧ Below w.heap.size w w' := by
  obtain ⟨h0, wf0⟩ := ha0
  have q0 := Lib.hid h0.1
  obtain ⟨h1, wf1⟩ := ha1
  have q1 := Lib.hid h1.1
  have z0 : 0 ≤ szPersonS n0 xs0 := by unfold szPersonS; omega
  have z1 : 0 ≤ szShiftS n1 xs1 := by unfold szShiftS; omega
  by_cases hs0 : szPersonS n0 xs0 ≤ 1048576
  · by_cases hs1 : szShiftS n1 xs1 ≤ 1048576 - szPersonS n0 xs0
    · go_enter Try.func7, Try.ntmps7
      go_wp2_with fail
      obtain ⟨wa, hwa⟩ : ∃ W, W = (World.alloc w (.cells #[.int .i64 a2.person, .int .i64 a2.crane, .int .i64 a2.role, .int .i64 a2.start, .int .i64 a2.stop] 70)) := ⟨_, rfl⟩
      rw [← hwa]
      have B0 : Below w.heap.size w wa := by rw [hwa]; exact (Below.refl _ _).alloc (by simp) _
      have S0 : w.heap.size + 1 ≤ wa.heap.size := by rw [hwa]; simp
      have bx2_0 : wa.cell? ⟨w.heap.size, 0, none⟩ = some (.int .i64 a2.person) := by rw [hwa]; simp
      have bx2_1 : wa.cell? ⟨w.heap.size, 1, none⟩ = some (.int .i64 a2.crane) := by rw [hwa]; simp
      have bx2_2 : wa.cell? ⟨w.heap.size, 2, none⟩ = some (.int .i64 a2.role) := by rw [hwa]; simp
      have bx2_3 : wa.cell? ⟨w.heap.size, 3, none⟩ = some (.int .i64 a2.start) := by rw [hwa]; simp
      have bx2_4 : wa.cell? ⟨w.heap.size, 4, none⟩ = some (.int .i64 a2.stop) := by rw [hwa]; simp
      have h0_0 := (h0.below B0).more (show w.heap.size ≤ w.heap.size from Nat.le_refl _)
      clear h0
      have h1_0 := (h1.below B0).more (show w.heap.size ≤ w.heap.size from Nat.le_refl _)
      clear h1
      clear hwa
      go_wp2_with fail
      refine (szPersonS_ok _ _ _ xs0 _ _ _ (h0_0.more (by omega)) hn0 wf0 (by omega) (by omega) (by omega)).mono ?_
      rintro e w1 ⟨rfl, hb1⟩
      have B1 := bel2 B0 hb1
      have S1 := hb1.size
      have bx2_0_1 := (hb1.cell (p := ⟨w.heap.size, 0, none⟩) (show w.heap.size < _ by omega)).trans bx2_0
      clear bx2_0
      have bx2_1_1 := (hb1.cell (p := ⟨w.heap.size, 1, none⟩) (show w.heap.size < _ by omega)).trans bx2_1
      clear bx2_1
      have bx2_2_1 := (hb1.cell (p := ⟨w.heap.size, 2, none⟩) (show w.heap.size < _ by omega)).trans bx2_2
      clear bx2_2
      have bx2_3_1 := (hb1.cell (p := ⟨w.heap.size, 3, none⟩) (show w.heap.size < _ by omega)).trans bx2_3
      clear bx2_3
      have bx2_4_1 := (hb1.cell (p := ⟨w.heap.size, 4, none⟩) (show w.heap.size < _ by omega)).trans bx2_4
      clear bx2_4
      have h0_1 := h0_0.below (hb1.mono (by omega))
      clear h0_0
      have h1_1 := h1_0.below (hb1.mono (by omega))
      clear h1_0
      go_wp2_with fail
      refine (szShiftS_ok _ _ _ xs1 _ _ _ (h1_1.more (by omega)) hn1 wf1 (by omega) (by omega) (by omega)).mono ?_
      rintro e w2 ⟨rfl, hb2⟩
      have B2 := bel2 B1 hb2
      have S2 := hb2.size
      have bx2_0_2 := (hb2.cell (p := ⟨w.heap.size, 0, none⟩) (show w.heap.size < _ by omega)).trans bx2_0_1
      clear bx2_0_1
      have bx2_1_2 := (hb2.cell (p := ⟨w.heap.size, 1, none⟩) (show w.heap.size < _ by omega)).trans bx2_1_1
      clear bx2_1_1
      have bx2_2_2 := (hb2.cell (p := ⟨w.heap.size, 2, none⟩) (show w.heap.size < _ by omega)).trans bx2_2_1
      clear bx2_2_1
      have bx2_3_2 := (hb2.cell (p := ⟨w.heap.size, 3, none⟩) (show w.heap.size < _ by omega)).trans bx2_3_1
      clear bx2_3_1
      have bx2_4_2 := (hb2.cell (p := ⟨w.heap.size, 4, none⟩) (show w.heap.size < _ by omega)).trans bx2_4_1
      clear bx2_4_1
      have h0_2 := h0_1.below (hb2.mono (by omega))
      clear h0_1
      have h1_2 := h1_1.below (hb2.mono (by omega))
      clear h1_1
      have m0 : n0 ≤ 1048576 := by unfold szPersonS at hs0; omega
      have m1 : n1 ≤ 1048576 := by unfold szShiftS at hs1; omega
      go_wp2_with fail
      have hb3 : Below w2.heap.size w2 w2.drew := (Below.refl _ _).drew
      have B3 := bel2 B2 hb3
      have S3 := hb3.size
      have bx2_0_3 := (hb3.cell (p := ⟨w.heap.size, 0, none⟩) (show w.heap.size < _ by omega)).trans bx2_0_2
      clear bx2_0_2
      have bx2_1_3 := (hb3.cell (p := ⟨w.heap.size, 1, none⟩) (show w.heap.size < _ by omega)).trans bx2_1_2
      clear bx2_1_2
      have bx2_2_3 := (hb3.cell (p := ⟨w.heap.size, 2, none⟩) (show w.heap.size < _ by omega)).trans bx2_2_2
      clear bx2_2_2
      have bx2_3_3 := (hb3.cell (p := ⟨w.heap.size, 3, none⟩) (show w.heap.size < _ by omega)).trans bx2_3_2
      clear bx2_3_2
      have bx2_4_3 := (hb3.cell (p := ⟨w.heap.size, 4, none⟩) (show w.heap.size < _ by omega)).trans bx2_4_2
      clear bx2_4_2
      have h0_3 := h0_2.below (hb3.mono (by omega))
      clear h0_2
      have h1_3 := h1_2.below (hb3.mono (by omega))
      clear h1_2
      go_region_held3 (fun w' => w'.cell? ⟨w.heap.size, 0, none⟩ = some (.int .i64 a2.person) ∧ w'.cell? ⟨w.heap.size, 1, none⟩ = some (.int .i64 a2.crane) ∧ w'.cell? ⟨w.heap.size, 2, none⟩ = some (.int .i64 a2.role) ∧ w'.cell? ⟨w.heap.size, 3, none⟩ = some (.int .i64 a2.start) ∧ w'.cell? ⟨w.heap.size, 4, none⟩ = some (.int .i64 a2.stop)) (first | exact ⟨bx2_0_3, bx2_1_3, bx2_2_3, bx2_3_3, bx2_4_3⟩ | exact ⟨bx2_0_4, bx2_1_4, bx2_2_4, bx2_3_4, bx2_4_4⟩ | exact ⟨bx2_0_5, bx2_1_5, bx2_2_5, bx2_3_5, bx2_4_5⟩ | exact ⟨bx2_0_6, bx2_1_6, bx2_2_6, bx2_3_6, bx2_4_6⟩ | exact ⟨bx2_0_7, bx2_1_7, bx2_2_7, bx2_3_7, bx2_4_7⟩ | go_keep) ((first | (go_at_call 44; refine (toPersonS_any _ _ _ xs0 _ _ (h0_3.more (by omega)) m0).mono ?_; rintro e w4 ⟨g4, rfl, o4, hb4⟩; have B4 := bel2 B3 hb4; have S4 := hb4.size; have bx2_0_4 := (hb4.cell (p := ⟨w.heap.size, 0, none⟩) (show w.heap.size < _ by omega)).trans bx2_0_3; have bx2_1_4 := (hb4.cell (p := ⟨w.heap.size, 1, none⟩) (show w.heap.size < _ by omega)).trans bx2_1_3; have bx2_2_4 := (hb4.cell (p := ⟨w.heap.size, 2, none⟩) (show w.heap.size < _ by omega)).trans bx2_2_3; have bx2_3_4 := (hb4.cell (p := ⟨w.heap.size, 3, none⟩) (show w.heap.size < _ by omega)).trans bx2_3_3; have bx2_4_4 := (hb4.cell (p := ⟨w.heap.size, 4, none⟩) (show w.heap.size < _ by omega)).trans bx2_4_3; have h0_4 := h0_3.below (hb4.mono (by omega)); have h1_4 := h1_3.below (hb4.mono (by omega)); have t4 := o4) | (go_at_call 45; refine (toShiftS_any _ _ _ xs1 _ _ (h1_4.more (by omega)) m1).mono ?_; rintro e w5 ⟨g5, rfl, o5, hb5⟩; have B5 := bel2 B4 hb5; have S5 := hb5.size; have bx2_0_5 := (hb5.cell (p := ⟨w.heap.size, 0, none⟩) (show w.heap.size < _ by omega)).trans bx2_0_4; have bx2_1_5 := (hb5.cell (p := ⟨w.heap.size, 1, none⟩) (show w.heap.size < _ by omega)).trans bx2_1_4; have bx2_2_5 := (hb5.cell (p := ⟨w.heap.size, 2, none⟩) (show w.heap.size < _ by omega)).trans bx2_2_4; have bx2_3_5 := (hb5.cell (p := ⟨w.heap.size, 3, none⟩) (show w.heap.size < _ by omega)).trans bx2_3_4; have bx2_4_5 := (hb5.cell (p := ⟨w.heap.size, 4, none⟩) (show w.heap.size < _ by omega)).trans bx2_4_4; have h0_5 := h0_4.below (hb5.mono (by omega)); have h1_5 := h1_4.below (hb5.mono (by omega)); have t4_5 := t4.bel hb5; have t5 := o5) | (go_at_call 46; refine (toShift_any a2 _).mono ?_; rintro e w6 ⟨rfl, hb6⟩; have B6 := bel2 B5 hb6; have S6 := hb6.size; have bx2_0_6 := (hb6.cell (p := ⟨w.heap.size, 0, none⟩) (show w.heap.size < _ by omega)).trans bx2_0_5; have bx2_1_6 := (hb6.cell (p := ⟨w.heap.size, 1, none⟩) (show w.heap.size < _ by omega)).trans bx2_1_5; have bx2_2_6 := (hb6.cell (p := ⟨w.heap.size, 2, none⟩) (show w.heap.size < _ by omega)).trans bx2_2_5; have bx2_3_6 := (hb6.cell (p := ⟨w.heap.size, 3, none⟩) (show w.heap.size < _ by omega)).trans bx2_3_5; have bx2_4_6 := (hb6.cell (p := ⟨w.heap.size, 4, none⟩) (show w.heap.size < _ by omega)).trans bx2_4_5; have h0_6 := h0_5.below (hb6.mono (by omega)); have h1_6 := h1_5.below (hb6.mono (by omega)); have t4_6 := t4_5.bel hb6; have t5_6 := t5.bel hb6) | (go_at_call 43; refine (specAddShift_any _ _ _ _ _ _ xs0 xs1 a2 _ _ _ ((t4_6.arr Person.cs_len).more (by omega)) m0 wf0 ((t5_6.arr Shift.cs_len).more (by omega)) (Nat.le_refl _) m1).mono ?_; rintro e w7 ⟨A7, c7, rfl, o7, hb7⟩; have B7 := bel2 B6 hb7; have S7 := hb7.size; have bx2_0_7 := (hb7.cell (p := ⟨w.heap.size, 0, none⟩) (show w.heap.size < _ by omega)).trans bx2_0_6; have bx2_1_7 := (hb7.cell (p := ⟨w.heap.size, 1, none⟩) (show w.heap.size < _ by omega)).trans bx2_1_6; have bx2_2_7 := (hb7.cell (p := ⟨w.heap.size, 2, none⟩) (show w.heap.size < _ by omega)).trans bx2_2_6; have bx2_3_7 := (hb7.cell (p := ⟨w.heap.size, 3, none⟩) (show w.heap.size < _ by omega)).trans bx2_3_6; have bx2_4_7 := (hb7.cell (p := ⟨w.heap.size, 4, none⟩) (show w.heap.size < _ by omega)).trans bx2_4_6; have h0_7 := h0_6.below (hb7.mono (by omega)); have h1_7 := h1_6.below (hb7.mono (by omega)); have t4_7 := t4_6.bel hb7; have t5_7 := t5_6.bel hb7; have u7 := o7)))
      clear bx2_0_3 bx2_1_3 bx2_2_3 bx2_3_3 bx2_4_3 h0_3 h1_3 o4 bx2_0_4 bx2_1_4 bx2_2_4 bx2_3_4 bx2_4_4 h0_4 h1_4 t4 o5 bx2_0_5 bx2_1_5 bx2_2_5 bx2_3_5 bx2_4_5 h0_5 h1_5 t4_5 t5 bx2_0_6 bx2_1_6 bx2_2_6 bx2_3_6 bx2_4_6 h0_6 h1_6 t4_6 t5_6 o7
      go_wp2_with fail
      refine (toPersonS_any _ _ _ xs0 _ _ (h0_7.more (by omega)) m0).mono ?_
      rintro e w8 ⟨g8, rfl, o8, hb8⟩
      have B8 := bel2 B7 hb8
      have S8 := hb8.size
      have bx2_0_8 := (hb8.cell (p := ⟨w.heap.size, 0, none⟩) (show w.heap.size < _ by omega)).trans bx2_0_7
      clear bx2_0_7
      have bx2_1_8 := (hb8.cell (p := ⟨w.heap.size, 1, none⟩) (show w.heap.size < _ by omega)).trans bx2_1_7
      clear bx2_1_7
      have bx2_2_8 := (hb8.cell (p := ⟨w.heap.size, 2, none⟩) (show w.heap.size < _ by omega)).trans bx2_2_7
      clear bx2_2_7
      have bx2_3_8 := (hb8.cell (p := ⟨w.heap.size, 3, none⟩) (show w.heap.size < _ by omega)).trans bx2_3_7
      clear bx2_3_7
      have bx2_4_8 := (hb8.cell (p := ⟨w.heap.size, 4, none⟩) (show w.heap.size < _ by omega)).trans bx2_4_7
      clear bx2_4_7
      have h0_8 := h0_7.below (hb8.mono (by omega))
      clear h0_7
      have h1_8 := h1_7.below (hb8.mono (by omega))
      clear h1_7
      clear t4_7
      clear t5_7
      have u7_8 := u7.bel hb8
      clear u7
      have t8 := o8
      clear o8
      go_wp2_with fail
      refine (toShiftS_any _ _ _ xs1 _ _ (h1_8.more (by omega)) m1).mono ?_
      rintro e w9 ⟨g9, rfl, o9, hb9⟩
      have B9 := bel2 B8 hb9
      have S9 := hb9.size
      have bx2_0_9 := (hb9.cell (p := ⟨w.heap.size, 0, none⟩) (show w.heap.size < _ by omega)).trans bx2_0_8
      clear bx2_0_8
      have bx2_1_9 := (hb9.cell (p := ⟨w.heap.size, 1, none⟩) (show w.heap.size < _ by omega)).trans bx2_1_8
      clear bx2_1_8
      have bx2_2_9 := (hb9.cell (p := ⟨w.heap.size, 2, none⟩) (show w.heap.size < _ by omega)).trans bx2_2_8
      clear bx2_2_8
      have bx2_3_9 := (hb9.cell (p := ⟨w.heap.size, 3, none⟩) (show w.heap.size < _ by omega)).trans bx2_3_8
      clear bx2_3_8
      have bx2_4_9 := (hb9.cell (p := ⟨w.heap.size, 4, none⟩) (show w.heap.size < _ by omega)).trans bx2_4_8
      clear bx2_4_8
      have h0_9 := h0_8.below (hb9.mono (by omega))
      clear h0_8
      have h1_9 := h1_8.below (hb9.mono (by omega))
      clear h1_8
      have u7_9 := u7_8.bel hb9
      clear u7_8
      have t8_9 := t8.bel hb9
      clear t8
      have t9 := o9
      clear o9
      go_wp2_with fail
      refine (toShift_any a2 _).mono ?_
      rintro e w10 ⟨rfl, hb10⟩
      have B10 := bel2 B9 hb10
      have S10 := hb10.size
      have bx2_0_10 := (hb10.cell (p := ⟨w.heap.size, 0, none⟩) (show w.heap.size < _ by omega)).trans bx2_0_9
      clear bx2_0_9
      have bx2_1_10 := (hb10.cell (p := ⟨w.heap.size, 1, none⟩) (show w.heap.size < _ by omega)).trans bx2_1_9
      clear bx2_1_9
      have bx2_2_10 := (hb10.cell (p := ⟨w.heap.size, 2, none⟩) (show w.heap.size < _ by omega)).trans bx2_2_9
      clear bx2_2_9
      have bx2_3_10 := (hb10.cell (p := ⟨w.heap.size, 3, none⟩) (show w.heap.size < _ by omega)).trans bx2_3_9
      clear bx2_3_9
      have bx2_4_10 := (hb10.cell (p := ⟨w.heap.size, 4, none⟩) (show w.heap.size < _ by omega)).trans bx2_4_9
      clear bx2_4_9
      have h0_10 := h0_9.below (hb10.mono (by omega))
      clear h0_9
      have h1_10 := h1_9.below (hb10.mono (by omega))
      clear h1_9
      have u7_10 := u7_9.bel hb10
      clear u7_9
      have t8_10 := t8_9.bel hb10
      clear t8_9
      have t9_10 := t9.bel hb10
      clear t9
      go_wp2_with fail
      refine (addShift_any _ _ _ _ _ _ xs0 xs1 a2 _ _ _ ((t8_10.arr Person.cs_len).more (by omega)) m0 wf0 ((t9_10.arr Shift.cs_len).more (by omega)) (Nat.le_refl _) m1).mono ?_
      rintro e w11 ⟨A11, c11, rfl, o11, hb11⟩
      have B11 := bel2 B10 hb11
      have S11 := hb11.size
      have bx2_0_11 := (hb11.cell (p := ⟨w.heap.size, 0, none⟩) (show w.heap.size < _ by omega)).trans bx2_0_10
      clear bx2_0_10
      have bx2_1_11 := (hb11.cell (p := ⟨w.heap.size, 1, none⟩) (show w.heap.size < _ by omega)).trans bx2_1_10
      clear bx2_1_10
      have bx2_2_11 := (hb11.cell (p := ⟨w.heap.size, 2, none⟩) (show w.heap.size < _ by omega)).trans bx2_2_10
      clear bx2_2_10
      have bx2_3_11 := (hb11.cell (p := ⟨w.heap.size, 3, none⟩) (show w.heap.size < _ by omega)).trans bx2_3_10
      clear bx2_3_10
      have bx2_4_11 := (hb11.cell (p := ⟨w.heap.size, 4, none⟩) (show w.heap.size < _ by omega)).trans bx2_4_10
      clear bx2_4_10
      have h0_11 := h0_10.below (hb11.mono (by omega))
      clear h0_10
      have h1_11 := h1_10.below (hb11.mono (by omega))
      clear h1_10
      have u7_11 := u7_10.bel hb11
      clear u7_10
      have t8_11 := t8_10.bel hb11
      clear t8_10
      have t9_11 := t9_10.bel hb11
      clear t9_10
      have g11 := o11
      clear o11
      have len0 : (adXs xs0 xs1 a2).length ≤ 1048576 := by have := adXs_small xs0 xs1 a2; omega
      go_wp2_with fail
      refine (eqShiftS_same _ _ _ _ _ (adXs xs0 xs1 a2) _ _ _ ((g11.arr Shift.cs_len).more (by omega)) ((u7_11.arr Shift.cs_len).more (by omega)) (by omega)).mono ?_
      rintro e w12 ⟨rfl, hb12⟩
      have B12 := bel2 B11 hb12
      have S12 := hb12.size
      have bx2_0_12 := (hb12.cell (p := ⟨w.heap.size, 0, none⟩) (show w.heap.size < _ by omega)).trans bx2_0_11
      clear bx2_0_11
      have bx2_1_12 := (hb12.cell (p := ⟨w.heap.size, 1, none⟩) (show w.heap.size < _ by omega)).trans bx2_1_11
      clear bx2_1_11
      have bx2_2_12 := (hb12.cell (p := ⟨w.heap.size, 2, none⟩) (show w.heap.size < _ by omega)).trans bx2_2_11
      clear bx2_2_11
      have bx2_3_12 := (hb12.cell (p := ⟨w.heap.size, 3, none⟩) (show w.heap.size < _ by omega)).trans bx2_3_11
      clear bx2_3_11
      have bx2_4_12 := (hb12.cell (p := ⟨w.heap.size, 4, none⟩) (show w.heap.size < _ by omega)).trans bx2_4_11
      clear bx2_4_11
      have h0_12 := h0_11.below (hb12.mono (by omega))
      clear h0_11
      have h1_12 := h1_11.below (hb12.mono (by omega))
      clear h1_11
      have u7_12 := u7_11.bel hb12
      clear u7_11
      have t8_12 := t8_11.bel hb12
      clear t8_11
      have t9_12 := t9_11.bel hb12
      clear t9_11
      have g11_12 := g11.bel hb12
      clear g11
      go_wp2_with fail
      refine (toPersonS_any _ _ _ xs0 _ _ (h0_12.more (by omega)) m0).mono ?_
      rintro e w13 ⟨g13, rfl, o13, hb13⟩
      have B13 := bel2 B12 hb13
      have S13 := hb13.size
      have bx2_0_13 := (hb13.cell (p := ⟨w.heap.size, 0, none⟩) (show w.heap.size < _ by omega)).trans bx2_0_12
      clear bx2_0_12
      have bx2_1_13 := (hb13.cell (p := ⟨w.heap.size, 1, none⟩) (show w.heap.size < _ by omega)).trans bx2_1_12
      clear bx2_1_12
      have bx2_2_13 := (hb13.cell (p := ⟨w.heap.size, 2, none⟩) (show w.heap.size < _ by omega)).trans bx2_2_12
      clear bx2_2_12
      have bx2_3_13 := (hb13.cell (p := ⟨w.heap.size, 3, none⟩) (show w.heap.size < _ by omega)).trans bx2_3_12
      clear bx2_3_12
      have bx2_4_13 := (hb13.cell (p := ⟨w.heap.size, 4, none⟩) (show w.heap.size < _ by omega)).trans bx2_4_12
      clear bx2_4_12
      have h0_13 := h0_12.below (hb13.mono (by omega))
      clear h0_12
      have h1_13 := h1_12.below (hb13.mono (by omega))
      clear h1_12
      have u7_13 := u7_12.bel hb13
      clear u7_12
      have t8_13 := t8_12.bel hb13
      clear t8_12
      have t9_13 := t9_12.bel hb13
      clear t9_12
      have g11_13 := g11_12.bel hb13
      clear g11_12
      have t13 := o13
      clear o13
      go_wp2_with fail
      refine (eqPersonS_same _ _ _ _ _ xs0 _ _ _ ((t8_13.arr Person.cs_len).more (by omega)) ((t13.arr Person.cs_len).more (by omega)) (by omega)).mono ?_
      rintro e w14 ⟨rfl, hb14⟩
      have B14 := bel2 B13 hb14
      have S14 := hb14.size
      have bx2_0_14 := (hb14.cell (p := ⟨w.heap.size, 0, none⟩) (show w.heap.size < _ by omega)).trans bx2_0_13
      clear bx2_0_13
      have bx2_1_14 := (hb14.cell (p := ⟨w.heap.size, 1, none⟩) (show w.heap.size < _ by omega)).trans bx2_1_13
      clear bx2_1_13
      have bx2_2_14 := (hb14.cell (p := ⟨w.heap.size, 2, none⟩) (show w.heap.size < _ by omega)).trans bx2_2_13
      clear bx2_2_13
      have bx2_3_14 := (hb14.cell (p := ⟨w.heap.size, 3, none⟩) (show w.heap.size < _ by omega)).trans bx2_3_13
      clear bx2_3_13
      have bx2_4_14 := (hb14.cell (p := ⟨w.heap.size, 4, none⟩) (show w.heap.size < _ by omega)).trans bx2_4_13
      clear bx2_4_13
      have h0_14 := h0_13.below (hb14.mono (by omega))
      clear h0_13
      have h1_14 := h1_13.below (hb14.mono (by omega))
      clear h1_13
      have u7_14 := u7_13.bel hb14
      clear u7_13
      have t8_14 := t8_13.bel hb14
      clear t8_13
      have t9_14 := t9_13.bel hb14
      clear t9_13
      have g11_14 := g11_13.bel hb14
      clear g11_13
      clear t13
      go_wp2_with fail
      refine (toShiftS_any _ _ _ xs1 _ _ (h1_14.more (by omega)) m1).mono ?_
      rintro e w15 ⟨g15, rfl, o15, hb15⟩
      have B15 := bel2 B14 hb15
      have S15 := hb15.size
      have bx2_0_15 := (hb15.cell (p := ⟨w.heap.size, 0, none⟩) (show w.heap.size < _ by omega)).trans bx2_0_14
      clear bx2_0_14
      have bx2_1_15 := (hb15.cell (p := ⟨w.heap.size, 1, none⟩) (show w.heap.size < _ by omega)).trans bx2_1_14
      clear bx2_1_14
      have bx2_2_15 := (hb15.cell (p := ⟨w.heap.size, 2, none⟩) (show w.heap.size < _ by omega)).trans bx2_2_14
      clear bx2_2_14
      have bx2_3_15 := (hb15.cell (p := ⟨w.heap.size, 3, none⟩) (show w.heap.size < _ by omega)).trans bx2_3_14
      clear bx2_3_14
      have bx2_4_15 := (hb15.cell (p := ⟨w.heap.size, 4, none⟩) (show w.heap.size < _ by omega)).trans bx2_4_14
      clear bx2_4_14
      have h0_15 := h0_14.below (hb15.mono (by omega))
      clear h0_14
      have h1_15 := h1_14.below (hb15.mono (by omega))
      clear h1_14
      have u7_15 := u7_14.bel hb15
      clear u7_14
      have t8_15 := t8_14.bel hb15
      clear t8_14
      have t9_15 := t9_14.bel hb15
      clear t9_14
      have g11_15 := g11_14.bel hb15
      clear g11_14
      have t15 := o15
      clear o15
      go_wp2_with fail
      refine (eqShiftS_same _ _ _ _ _ xs1 _ _ _ ((t9_15.arr Shift.cs_len).more (by omega)) ((t15.arr Shift.cs_len).more (by omega)) (by omega)).mono ?_
      rintro e w16 ⟨rfl, hb16⟩
      have B16 := bel2 B15 hb16
      have S16 := hb16.size
      have bx2_0_16 := (hb16.cell (p := ⟨w.heap.size, 0, none⟩) (show w.heap.size < _ by omega)).trans bx2_0_15
      clear bx2_0_15
      have bx2_1_16 := (hb16.cell (p := ⟨w.heap.size, 1, none⟩) (show w.heap.size < _ by omega)).trans bx2_1_15
      clear bx2_1_15
      have bx2_2_16 := (hb16.cell (p := ⟨w.heap.size, 2, none⟩) (show w.heap.size < _ by omega)).trans bx2_2_15
      clear bx2_2_15
      have bx2_3_16 := (hb16.cell (p := ⟨w.heap.size, 3, none⟩) (show w.heap.size < _ by omega)).trans bx2_3_15
      clear bx2_3_15
      have bx2_4_16 := (hb16.cell (p := ⟨w.heap.size, 4, none⟩) (show w.heap.size < _ by omega)).trans bx2_4_15
      clear bx2_4_15
      have h0_16 := h0_15.below (hb16.mono (by omega))
      clear h0_15
      have h1_16 := h1_15.below (hb16.mono (by omega))
      clear h1_15
      have u7_16 := u7_15.bel hb16
      clear u7_15
      have t8_16 := t8_15.bel hb16
      clear t8_15
      have t9_16 := t9_15.bel hb16
      clear t9_15
      have g11_16 := g11_15.bel hb16
      clear g11_15
      clear t15
      go_wp2_with fail
      refine (markPersonS_any _ _ _ _ _ _ _ _ t8_16 (by omega) (by omega) (by omega)).mono ?_
      rintro e w17 ⟨rfl, hw17, o17⟩
      have B17 := Below.within B16 hw17 (by omega) (by omega)
      have S17 := hw17.size
      have bx2_0_17 := (hw17.cell (p := ⟨w.heap.size, 0, none⟩) (show w.heap.size < _ by omega) (show w.heap.size < _ ∨ _ by omega)).trans bx2_0_16
      clear bx2_0_16
      have bx2_1_17 := (hw17.cell (p := ⟨w.heap.size, 1, none⟩) (show w.heap.size < _ by omega) (show w.heap.size < _ ∨ _ by omega)).trans bx2_1_16
      clear bx2_1_16
      have bx2_2_17 := (hw17.cell (p := ⟨w.heap.size, 2, none⟩) (show w.heap.size < _ by omega) (show w.heap.size < _ ∨ _ by omega)).trans bx2_2_16
      clear bx2_2_16
      have bx2_3_17 := (hw17.cell (p := ⟨w.heap.size, 3, none⟩) (show w.heap.size < _ by omega) (show w.heap.size < _ ∨ _ by omega)).trans bx2_3_16
      clear bx2_3_16
      have bx2_4_17 := (hw17.cell (p := ⟨w.heap.size, 4, none⟩) (show w.heap.size < _ by omega) (show w.heap.size < _ ∨ _ by omega)).trans bx2_4_16
      clear bx2_4_16
      have h0_17 := h0_16.within hw17 (by omega) (by omega)
      clear h0_16
      have h1_17 := h1_16.within hw17 (by omega) (by omega)
      clear h1_16
      have u7_17 := u7_16.within hw17 (by omega)
      clear u7_16
      clear o17
      have t9_17 := t9_16.within hw17 (by omega)
      clear t9_16
      have g11_17 := g11_16.within hw17 (by omega)
      clear g11_16
      go_wp2_with fail
      refine (markShiftS_any _ _ _ _ _ _ _ _ t9_17 (by omega) (by omega) (by omega)).mono ?_
      rintro e w18 ⟨rfl, hw18, o18⟩
      have B18 := Below.within B17 hw18 (by omega) (by omega)
      have S18 := hw18.size
      have bx2_0_18 := (hw18.cell (p := ⟨w.heap.size, 0, none⟩) (show w.heap.size < _ by omega) (show w.heap.size < _ ∨ _ by omega)).trans bx2_0_17
      clear bx2_0_17
      have bx2_1_18 := (hw18.cell (p := ⟨w.heap.size, 1, none⟩) (show w.heap.size < _ by omega) (show w.heap.size < _ ∨ _ by omega)).trans bx2_1_17
      clear bx2_1_17
      have bx2_2_18 := (hw18.cell (p := ⟨w.heap.size, 2, none⟩) (show w.heap.size < _ by omega) (show w.heap.size < _ ∨ _ by omega)).trans bx2_2_17
      clear bx2_2_17
      have bx2_3_18 := (hw18.cell (p := ⟨w.heap.size, 3, none⟩) (show w.heap.size < _ by omega) (show w.heap.size < _ ∨ _ by omega)).trans bx2_3_17
      clear bx2_3_17
      have bx2_4_18 := (hw18.cell (p := ⟨w.heap.size, 4, none⟩) (show w.heap.size < _ by omega) (show w.heap.size < _ ∨ _ by omega)).trans bx2_4_17
      clear bx2_4_17
      have h0_18 := h0_17.within hw18 (by omega) (by omega)
      clear h0_17
      have h1_18 := h1_17.within hw18 (by omega) (by omega)
      clear h1_17
      have u7_18 := u7_17.within hw18 (by omega)
      clear u7_17
      clear o18
      have g11_18 := g11_17.within hw18 (by omega)
      clear g11_17
      go_wp2_with fail
      refine (eqShiftS_same _ _ _ _ _ (adXs xs0 xs1 a2) _ _ _ ((g11_18.arr Shift.cs_len).more (by omega)) ((u7_18.arr Shift.cs_len).more (by omega)) (by omega)).mono ?_
      rintro e w19 ⟨rfl, hb19⟩
      have B19 := bel2 B18 hb19
      have S19 := hb19.size
      have bx2_0_19 := (hb19.cell (p := ⟨w.heap.size, 0, none⟩) (show w.heap.size < _ by omega)).trans bx2_0_18
      clear bx2_0_18
      have bx2_1_19 := (hb19.cell (p := ⟨w.heap.size, 1, none⟩) (show w.heap.size < _ by omega)).trans bx2_1_18
      clear bx2_1_18
      have bx2_2_19 := (hb19.cell (p := ⟨w.heap.size, 2, none⟩) (show w.heap.size < _ by omega)).trans bx2_2_18
      clear bx2_2_18
      have bx2_3_19 := (hb19.cell (p := ⟨w.heap.size, 3, none⟩) (show w.heap.size < _ by omega)).trans bx2_3_18
      clear bx2_3_18
      have bx2_4_19 := (hb19.cell (p := ⟨w.heap.size, 4, none⟩) (show w.heap.size < _ by omega)).trans bx2_4_18
      clear bx2_4_18
      have h0_19 := h0_18.below (hb19.mono (by omega))
      clear h0_18
      have h1_19 := h1_18.below (hb19.mono (by omega))
      clear h1_18
      have u7_19 := u7_18.bel hb19
      clear u7_18
      have g11_19 := g11_18.bel hb19
      clear g11_18
      go_wp2_with fail
      refine (markShiftS_any _ _ _ _ _ _ _ _ g11_19 (by omega) (by omega) (by omega)).mono ?_
      rintro e w20 ⟨rfl, hw20, o20⟩
      have B20 := Below.within B19 hw20 (by omega) (by omega)
      have S20 := hw20.size
      have bx2_0_20 := (hw20.cell (p := ⟨w.heap.size, 0, none⟩) (show w.heap.size < _ by omega) (show w.heap.size < _ ∨ _ by omega)).trans bx2_0_19
      clear bx2_0_19
      have bx2_1_20 := (hw20.cell (p := ⟨w.heap.size, 1, none⟩) (show w.heap.size < _ by omega) (show w.heap.size < _ ∨ _ by omega)).trans bx2_1_19
      clear bx2_1_19
      have bx2_2_20 := (hw20.cell (p := ⟨w.heap.size, 2, none⟩) (show w.heap.size < _ by omega) (show w.heap.size < _ ∨ _ by omega)).trans bx2_2_19
      clear bx2_2_19
      have bx2_3_20 := (hw20.cell (p := ⟨w.heap.size, 3, none⟩) (show w.heap.size < _ by omega) (show w.heap.size < _ ∨ _ by omega)).trans bx2_3_19
      clear bx2_3_19
      have bx2_4_20 := (hw20.cell (p := ⟨w.heap.size, 4, none⟩) (show w.heap.size < _ by omega) (show w.heap.size < _ ∨ _ by omega)).trans bx2_4_19
      clear bx2_4_19
      have h0_20 := h0_19.within hw20 (by omega) (by omega)
      clear h0_19
      have h1_20 := h1_19.within hw20 (by omega) (by omega)
      clear h1_19
      have u7_20 := u7_19.within hw20 (by omega)
      clear u7_19
      go_wp2_with fail
      refine (heldShiftS_same _ _ _ _ _ _ ((o20.arr Shift.cs_len).more (by omega)) (by omega) (by omega) (by omega)).mono ?_
      rintro e w21 ⟨rfl, hb21⟩
      have B21 := bel2 B20 hb21
      have S21 := hb21.size
      have bx2_0_21 := (hb21.cell (p := ⟨w.heap.size, 0, none⟩) (show w.heap.size < _ by omega)).trans bx2_0_20
      clear bx2_0_20
      have bx2_1_21 := (hb21.cell (p := ⟨w.heap.size, 1, none⟩) (show w.heap.size < _ by omega)).trans bx2_1_20
      clear bx2_1_20
      have bx2_2_21 := (hb21.cell (p := ⟨w.heap.size, 2, none⟩) (show w.heap.size < _ by omega)).trans bx2_2_20
      clear bx2_2_20
      have bx2_3_21 := (hb21.cell (p := ⟨w.heap.size, 3, none⟩) (show w.heap.size < _ by omega)).trans bx2_3_20
      clear bx2_3_20
      have bx2_4_21 := (hb21.cell (p := ⟨w.heap.size, 4, none⟩) (show w.heap.size < _ by omega)).trans bx2_4_20
      clear bx2_4_20
      have h0_21 := h0_20.below (hb21.mono (by omega))
      clear h0_20
      have h1_21 := h1_20.below (hb21.mono (by omega))
      clear h1_20
      have u7_21 := u7_20.bel hb21
      clear u7_20
      have g11_21 := o20.bel hb21
      clear o20
      go_wp2_with fail
      have hb22 : Below w21.heap.size w21 w21.drew := (Below.refl _ _).drew
      have B22 := bel2 B21 hb22
      have S22 := hb22.size
      have bx2_0_22 := (hb22.cell (p := ⟨w.heap.size, 0, none⟩) (show w.heap.size < _ by omega)).trans bx2_0_21
      clear bx2_0_21
      have bx2_1_22 := (hb22.cell (p := ⟨w.heap.size, 1, none⟩) (show w.heap.size < _ by omega)).trans bx2_1_21
      clear bx2_1_21
      have bx2_2_22 := (hb22.cell (p := ⟨w.heap.size, 2, none⟩) (show w.heap.size < _ by omega)).trans bx2_2_21
      clear bx2_2_21
      have bx2_3_22 := (hb22.cell (p := ⟨w.heap.size, 3, none⟩) (show w.heap.size < _ by omega)).trans bx2_3_21
      clear bx2_3_21
      have bx2_4_22 := (hb22.cell (p := ⟨w.heap.size, 4, none⟩) (show w.heap.size < _ by omega)).trans bx2_4_21
      clear bx2_4_21
      have h0_22 := h0_21.below (hb22.mono (by omega))
      clear h0_21
      have h1_22 := h1_21.below (hb22.mono (by omega))
      clear h1_21
      have u7_22 := u7_21.bel hb22
      clear u7_21
      have g11_22 := g11_21.bel hb22
      clear g11_21
      go_region_held3 (fun w' => w'.cell? ⟨w.heap.size, 0, none⟩ = some (.int .i64 a2.person) ∧ w'.cell? ⟨w.heap.size, 1, none⟩ = some (.int .i64 a2.crane) ∧ w'.cell? ⟨w.heap.size, 2, none⟩ = some (.int .i64 a2.role) ∧ w'.cell? ⟨w.heap.size, 3, none⟩ = some (.int .i64 a2.start) ∧ w'.cell? ⟨w.heap.size, 4, none⟩ = some (.int .i64 a2.stop)) (first | exact ⟨bx2_0_22, bx2_1_22, bx2_2_22, bx2_3_22, bx2_4_22⟩ | exact ⟨bx2_0_23, bx2_1_23, bx2_2_23, bx2_3_23, bx2_4_23⟩ | exact ⟨bx2_0_24, bx2_1_24, bx2_2_24, bx2_3_24, bx2_4_24⟩ | exact ⟨bx2_0_25, bx2_1_25, bx2_2_25, bx2_3_25, bx2_4_25⟩ | exact ⟨bx2_0_26, bx2_1_26, bx2_2_26, bx2_3_26, bx2_4_26⟩ | go_keep) ((first | (go_at_call 44; refine (toPersonS_any _ _ _ xs0 _ _ (h0_22.more (by omega)) m0).mono ?_; rintro e w23 ⟨g23, rfl, o23, hb23⟩; have B23 := bel2 B22 hb23; have S23 := hb23.size; have bx2_0_23 := (hb23.cell (p := ⟨w.heap.size, 0, none⟩) (show w.heap.size < _ by omega)).trans bx2_0_22; have bx2_1_23 := (hb23.cell (p := ⟨w.heap.size, 1, none⟩) (show w.heap.size < _ by omega)).trans bx2_1_22; have bx2_2_23 := (hb23.cell (p := ⟨w.heap.size, 2, none⟩) (show w.heap.size < _ by omega)).trans bx2_2_22; have bx2_3_23 := (hb23.cell (p := ⟨w.heap.size, 3, none⟩) (show w.heap.size < _ by omega)).trans bx2_3_22; have bx2_4_23 := (hb23.cell (p := ⟨w.heap.size, 4, none⟩) (show w.heap.size < _ by omega)).trans bx2_4_22; have h0_23 := h0_22.below (hb23.mono (by omega)); have h1_23 := h1_22.below (hb23.mono (by omega)); have u7_23 := u7_22.bel hb23; have g11_23 := g11_22.bel hb23; have t23 := o23) | (go_at_call 45; refine (toShiftS_any _ _ _ xs1 _ _ (h1_23.more (by omega)) m1).mono ?_; rintro e w24 ⟨g24, rfl, o24, hb24⟩; have B24 := bel2 B23 hb24; have S24 := hb24.size; have bx2_0_24 := (hb24.cell (p := ⟨w.heap.size, 0, none⟩) (show w.heap.size < _ by omega)).trans bx2_0_23; have bx2_1_24 := (hb24.cell (p := ⟨w.heap.size, 1, none⟩) (show w.heap.size < _ by omega)).trans bx2_1_23; have bx2_2_24 := (hb24.cell (p := ⟨w.heap.size, 2, none⟩) (show w.heap.size < _ by omega)).trans bx2_2_23; have bx2_3_24 := (hb24.cell (p := ⟨w.heap.size, 3, none⟩) (show w.heap.size < _ by omega)).trans bx2_3_23; have bx2_4_24 := (hb24.cell (p := ⟨w.heap.size, 4, none⟩) (show w.heap.size < _ by omega)).trans bx2_4_23; have h0_24 := h0_23.below (hb24.mono (by omega)); have h1_24 := h1_23.below (hb24.mono (by omega)); have u7_24 := u7_23.bel hb24; have g11_24 := g11_23.bel hb24; have t23_24 := t23.bel hb24; have t24 := o24) | (go_at_call 46; refine (toShift_any a2 _).mono ?_; rintro e w25 ⟨rfl, hb25⟩; have B25 := bel2 B24 hb25; have S25 := hb25.size; have bx2_0_25 := (hb25.cell (p := ⟨w.heap.size, 0, none⟩) (show w.heap.size < _ by omega)).trans bx2_0_24; have bx2_1_25 := (hb25.cell (p := ⟨w.heap.size, 1, none⟩) (show w.heap.size < _ by omega)).trans bx2_1_24; have bx2_2_25 := (hb25.cell (p := ⟨w.heap.size, 2, none⟩) (show w.heap.size < _ by omega)).trans bx2_2_24; have bx2_3_25 := (hb25.cell (p := ⟨w.heap.size, 3, none⟩) (show w.heap.size < _ by omega)).trans bx2_3_24; have bx2_4_25 := (hb25.cell (p := ⟨w.heap.size, 4, none⟩) (show w.heap.size < _ by omega)).trans bx2_4_24; have h0_25 := h0_24.below (hb25.mono (by omega)); have h1_25 := h1_24.below (hb25.mono (by omega)); have u7_25 := u7_24.bel hb25; have g11_25 := g11_24.bel hb25; have t23_25 := t23_24.bel hb25; have t24_25 := t24.bel hb25) | (go_at_call 47; refine (addShift_any _ _ _ _ _ _ xs0 xs1 a2 _ _ _ ((t23_25.arr Person.cs_len).more (by omega)) m0 wf0 ((t24_25.arr Shift.cs_len).more (by omega)) (Nat.le_refl _) m1).mono ?_; rintro e w26 ⟨A26, c26, rfl, o26, hb26⟩; have B26 := bel2 B25 hb26; have S26 := hb26.size; have bx2_0_26 := (hb26.cell (p := ⟨w.heap.size, 0, none⟩) (show w.heap.size < _ by omega)).trans bx2_0_25; have bx2_1_26 := (hb26.cell (p := ⟨w.heap.size, 1, none⟩) (show w.heap.size < _ by omega)).trans bx2_1_25; have bx2_2_26 := (hb26.cell (p := ⟨w.heap.size, 2, none⟩) (show w.heap.size < _ by omega)).trans bx2_2_25; have bx2_3_26 := (hb26.cell (p := ⟨w.heap.size, 3, none⟩) (show w.heap.size < _ by omega)).trans bx2_3_25; have bx2_4_26 := (hb26.cell (p := ⟨w.heap.size, 4, none⟩) (show w.heap.size < _ by omega)).trans bx2_4_25; have h0_26 := h0_25.below (hb26.mono (by omega)); have h1_26 := h1_25.below (hb26.mono (by omega)); have u7_26 := u7_25.bel hb26; have g11_26 := g11_25.bel hb26; have v26 := o26)))
      clear bx2_0_22 bx2_1_22 bx2_2_22 bx2_3_22 bx2_4_22 h0_22 h1_22 u7_22 g11_22 o23 bx2_0_23 bx2_1_23 bx2_2_23 bx2_3_23 bx2_4_23 h0_23 h1_23 u7_23 g11_23 t23 o24 bx2_0_24 bx2_1_24 bx2_2_24 bx2_3_24 bx2_4_24 h0_24 h1_24 u7_24 g11_24 t23_24 t24 bx2_0_25 bx2_1_25 bx2_2_25 bx2_3_25 bx2_4_25 h0_25 h1_25 u7_25 g11_25 t23_25 t24_25 o26
      go_wp2_with fail
      refine (eqShiftS_same _ _ _ _ _ (adXs xs0 xs1 a2) _ _ _ ((v26.arr Shift.cs_len).more (by omega)) ((u7_26.arr Shift.cs_len).more (by omega)) (by omega)).mono ?_
      rintro e w27 ⟨rfl, hb27⟩
      have B27 := bel2 B26 hb27
      have S27 := hb27.size
      have bx2_0_27 := (hb27.cell (p := ⟨w.heap.size, 0, none⟩) (show w.heap.size < _ by omega)).trans bx2_0_26
      clear bx2_0_26
      have bx2_1_27 := (hb27.cell (p := ⟨w.heap.size, 1, none⟩) (show w.heap.size < _ by omega)).trans bx2_1_26
      clear bx2_1_26
      have bx2_2_27 := (hb27.cell (p := ⟨w.heap.size, 2, none⟩) (show w.heap.size < _ by omega)).trans bx2_2_26
      clear bx2_2_26
      have bx2_3_27 := (hb27.cell (p := ⟨w.heap.size, 3, none⟩) (show w.heap.size < _ by omega)).trans bx2_3_26
      clear bx2_3_26
      have bx2_4_27 := (hb27.cell (p := ⟨w.heap.size, 4, none⟩) (show w.heap.size < _ by omega)).trans bx2_4_26
      clear bx2_4_26
      have h0_27 := h0_26.below (hb27.mono (by omega))
      clear h0_26
      have h1_27 := h1_26.below (hb27.mono (by omega))
      clear h1_26
      have u7_27 := u7_26.bel hb27
      clear u7_26
      have g11_27 := g11_26.bel hb27
      clear g11_26
      have v26_27 := v26.bel hb27
      clear v26
      go_wp2_with fail
      refine (heldShiftS_same _ _ _ _ _ _ ((g11_27.arr Shift.cs_len).more (by omega)) (by omega) (by omega) (by omega)).mono ?_
      rintro e w28 ⟨rfl, hb28⟩
      have B28 := bel2 B27 hb28
      have S28 := hb28.size
      have bx2_0_28 := (hb28.cell (p := ⟨w.heap.size, 0, none⟩) (show w.heap.size < _ by omega)).trans bx2_0_27
      clear bx2_0_27
      have bx2_1_28 := (hb28.cell (p := ⟨w.heap.size, 1, none⟩) (show w.heap.size < _ by omega)).trans bx2_1_27
      clear bx2_1_27
      have bx2_2_28 := (hb28.cell (p := ⟨w.heap.size, 2, none⟩) (show w.heap.size < _ by omega)).trans bx2_2_27
      clear bx2_2_27
      have bx2_3_28 := (hb28.cell (p := ⟨w.heap.size, 3, none⟩) (show w.heap.size < _ by omega)).trans bx2_3_27
      clear bx2_3_27
      have bx2_4_28 := (hb28.cell (p := ⟨w.heap.size, 4, none⟩) (show w.heap.size < _ by omega)).trans bx2_4_27
      clear bx2_4_27
      have h0_28 := h0_27.below (hb28.mono (by omega))
      clear h0_27
      have h1_28 := h1_27.below (hb28.mono (by omega))
      clear h1_27
      clear u7_27
      have g11_28 := g11_27.bel hb28
      clear g11_27
      clear v26_27
      go_wp2
      go_ret
      exact ⟨rfl, B28⟩
    · go_enter Try.func7, Try.ntmps7
      go_wp2_with fail
      obtain ⟨wa, hwa⟩ : ∃ W, W = (World.alloc w (.cells #[.int .i64 a2.person, .int .i64 a2.crane, .int .i64 a2.role, .int .i64 a2.start, .int .i64 a2.stop] 70)) := ⟨_, rfl⟩
      rw [← hwa]
      have B0 : Below w.heap.size w wa := by rw [hwa]; exact (Below.refl _ _).alloc (by simp) _
      have S0 : w.heap.size + 1 ≤ wa.heap.size := by rw [hwa]; simp
      have bx2_0 : wa.cell? ⟨w.heap.size, 0, none⟩ = some (.int .i64 a2.person) := by rw [hwa]; simp
      have bx2_1 : wa.cell? ⟨w.heap.size, 1, none⟩ = some (.int .i64 a2.crane) := by rw [hwa]; simp
      have bx2_2 : wa.cell? ⟨w.heap.size, 2, none⟩ = some (.int .i64 a2.role) := by rw [hwa]; simp
      have bx2_3 : wa.cell? ⟨w.heap.size, 3, none⟩ = some (.int .i64 a2.start) := by rw [hwa]; simp
      have bx2_4 : wa.cell? ⟨w.heap.size, 4, none⟩ = some (.int .i64 a2.stop) := by rw [hwa]; simp
      have h0_0 := (h0.below B0).more (show w.heap.size ≤ w.heap.size from Nat.le_refl _)
      clear h0
      have h1_0 := (h1.below B0).more (show w.heap.size ≤ w.heap.size from Nat.le_refl _)
      clear h1
      clear hwa
      go_wp2_with fail
      refine (szPersonS_ok _ _ _ xs0 _ _ _ (h0_0.more (by omega)) hn0 wf0 (by omega) (by omega) (by omega)).mono ?_
      rintro e w1 ⟨rfl, hb1⟩
      have B1 := bel2 B0 hb1
      have S1 := hb1.size
      have bx2_0_1 := (hb1.cell (p := ⟨w.heap.size, 0, none⟩) (show w.heap.size < _ by omega)).trans bx2_0
      clear bx2_0
      have bx2_1_1 := (hb1.cell (p := ⟨w.heap.size, 1, none⟩) (show w.heap.size < _ by omega)).trans bx2_1
      clear bx2_1
      have bx2_2_1 := (hb1.cell (p := ⟨w.heap.size, 2, none⟩) (show w.heap.size < _ by omega)).trans bx2_2
      clear bx2_2
      have bx2_3_1 := (hb1.cell (p := ⟨w.heap.size, 3, none⟩) (show w.heap.size < _ by omega)).trans bx2_3
      clear bx2_3
      have bx2_4_1 := (hb1.cell (p := ⟨w.heap.size, 4, none⟩) (show w.heap.size < _ by omega)).trans bx2_4
      clear bx2_4
      have h0_1 := h0_0.below (hb1.mono (by omega))
      clear h0_0
      have h1_1 := h1_0.below (hb1.mono (by omega))
      clear h1_0
      go_wp2_with fail
      refine (szShiftS_no _ _ _ xs1 _ _ _ (h1_1.more (by omega)) hn1 wf1 (by omega) (by omega) (by omega)).mono ?_
      rintro e w2 ⟨rfl, hb2⟩
      have B2 := bel2 B1 hb2
      have S2 := hb2.size
      have bx2_0_2 := (hb2.cell (p := ⟨w.heap.size, 0, none⟩) (show w.heap.size < _ by omega)).trans bx2_0_1
      clear bx2_0_1
      have bx2_1_2 := (hb2.cell (p := ⟨w.heap.size, 1, none⟩) (show w.heap.size < _ by omega)).trans bx2_1_1
      clear bx2_1_1
      have bx2_2_2 := (hb2.cell (p := ⟨w.heap.size, 2, none⟩) (show w.heap.size < _ by omega)).trans bx2_2_1
      clear bx2_2_1
      have bx2_3_2 := (hb2.cell (p := ⟨w.heap.size, 3, none⟩) (show w.heap.size < _ by omega)).trans bx2_3_1
      clear bx2_3_1
      have bx2_4_2 := (hb2.cell (p := ⟨w.heap.size, 4, none⟩) (show w.heap.size < _ by omega)).trans bx2_4_1
      clear bx2_4_1
      have h0_2 := h0_1.below (hb2.mono (by omega))
      clear h0_1
      have h1_2 := h1_1.below (hb2.mono (by omega))
      clear h1_1
      go_wp2
      go_ret
      exact ⟨rfl, B2⟩
  · go_enter Try.func7, Try.ntmps7
    go_wp2_with fail
    obtain ⟨wa, hwa⟩ : ∃ W, W = (World.alloc w (.cells #[.int .i64 a2.person, .int .i64 a2.crane, .int .i64 a2.role, .int .i64 a2.start, .int .i64 a2.stop] 70)) := ⟨_, rfl⟩
    rw [← hwa]
    have B0 : Below w.heap.size w wa := by rw [hwa]; exact (Below.refl _ _).alloc (by simp) _
    have S0 : w.heap.size + 1 ≤ wa.heap.size := by rw [hwa]; simp
    have bx2_0 : wa.cell? ⟨w.heap.size, 0, none⟩ = some (.int .i64 a2.person) := by rw [hwa]; simp
    have bx2_1 : wa.cell? ⟨w.heap.size, 1, none⟩ = some (.int .i64 a2.crane) := by rw [hwa]; simp
    have bx2_2 : wa.cell? ⟨w.heap.size, 2, none⟩ = some (.int .i64 a2.role) := by rw [hwa]; simp
    have bx2_3 : wa.cell? ⟨w.heap.size, 3, none⟩ = some (.int .i64 a2.start) := by rw [hwa]; simp
    have bx2_4 : wa.cell? ⟨w.heap.size, 4, none⟩ = some (.int .i64 a2.stop) := by rw [hwa]; simp
    have h0_0 := (h0.below B0).more (show w.heap.size ≤ w.heap.size from Nat.le_refl _)
    clear h0
    have h1_0 := (h1.below B0).more (show w.heap.size ≤ w.heap.size from Nat.le_refl _)
    clear h1
    clear hwa
    go_wp2_with fail
    refine (szPersonS_no _ _ _ xs0 _ _ _ (h0_0.more (by omega)) hn0 wf0 (by omega) (by omega) (by omega)).mono ?_
    rintro e w1 ⟨rfl, hb1⟩
    have B1 := bel2 B0 hb1
    have S1 := hb1.size
    have bx2_0_1 := (hb1.cell (p := ⟨w.heap.size, 0, none⟩) (show w.heap.size < _ by omega)).trans bx2_0
    clear bx2_0
    have bx2_1_1 := (hb1.cell (p := ⟨w.heap.size, 1, none⟩) (show w.heap.size < _ by omega)).trans bx2_1
    clear bx2_1
    have bx2_2_1 := (hb1.cell (p := ⟨w.heap.size, 2, none⟩) (show w.heap.size < _ by omega)).trans bx2_2
    clear bx2_2
    have bx2_3_1 := (hb1.cell (p := ⟨w.heap.size, 3, none⟩) (show w.heap.size < _ by omega)).trans bx2_3
    clear bx2_3
    have bx2_4_1 := (hb1.cell (p := ⟨w.heap.size, 4, none⟩) (show w.heap.size < _ by omega)).trans bx2_4
    clear bx2_4
    have h0_1 := h0_0.below (hb1.mono (by omega))
    clear h0_0
    have h1_1 := h1_0.below (hb1.mono (by omega))
    clear h1_0
    go_wp2
    go_ret
    exact ⟨rfl, B1⟩
end Go.Proofs.Ytdoinbnnpompiaa.lawAddShift
