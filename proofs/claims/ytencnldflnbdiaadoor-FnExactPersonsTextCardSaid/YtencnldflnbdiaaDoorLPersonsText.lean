/- FnExactPersonsText: the walk: the law returns true for every input. -/
import Derived.Test.YtencnldflnbdiaaDoorPersonText
import Derived.Test.YtencnldflnbdiaaDoorOpen
import Derived.Deep.RegionHeld3
namespace Go.Proofs.YtencnldflnbdiaaDoor.lawPersonsText
open Go.RowKit
set_option linter.unusedVariables false

set_option maxRecDepth 100000 in
set_option maxHeartbeats 3200000 in
theorem walk (A0 : Option Addr) (n0 c0 : Nat) (xs0 : List Person) (w : World) (hn0 : n0 ≤ 9223372036854775807) (ha0 : Arr Person.cs 3 w 0 w.heap.size A0 n0 xs0 ∧ ∀ p ∈ xs0, Person.wf p) (ht : TabW w) :
    Calls Tryd.prog 8 #[.slice A0 n0 c0] w fun e w' => e = .returned (.bool true) ∧ Below w.heap.size w w' := by
  have HT := Lib.hid ht
  clear ht
  obtain ⟨h0, wf0⟩ := ha0
  have q0 := Lib.hid h0.1
  have z0 : 0 ≤ szPersonS n0 xs0 := by unfold szPersonS; omega
  by_cases hs0 : szPersonS n0 xs0 ≤ 1048576
  · go_enter Tryd.func8, Tryd.ntmps8
    go_wp2_with fail
    refine (szPersonS_ok _ _ _ xs0 _ _ _ (h0.more (by omega)) hn0 wf0 (by omega) (by omega) (by omega)).mono ?_
    rintro e w1 ⟨rfl, hb1⟩
    have B1 := hb1
    have S1 := hb1.size
    have h0_1 := h0.below (hb1.mono (by omega))
    clear h0
    have m0 : n0 ≤ 1048576 := by unfold szPersonS at hs0; omega
    go_wp2_with fail
    refine (toPersonS_any _ _ _ xs0 _ _ (h0_1.more (by omega)) m0).mono ?_
    rintro e w2 ⟨g2, rfl, o2, hb2⟩
    have B2 := bel2 B1 hb2
    have S2 := hb2.size
    have h0_2 := h0_1.below (hb2.mono (by omega))
    clear h0_1
    have t2 := o2
    clear o2
    go_wp2_with fail
    refine (specPersonsText_any _ _ _ xs0 _ _ ((t2.arr Person.cs_len).more (by omega)) m0 wf0).mono ?_
    rintro e w3 ⟨rfl, hb3⟩
    have B3 := bel2 B2 hb3
    have S3 := hb3.size
    have h0_3 := h0_2.below (hb3.mono (by omega))
    clear h0_2
    have t2_3 := t2.bel hb3
    clear t2
    go_wp2_with fail
    refine (toPersonS_any _ _ _ xs0 _ _ (h0_3.more (by omega)) m0).mono ?_
    rintro e w4 ⟨g4, rfl, o4, hb4⟩
    have B4 := bel2 B3 hb4
    have S4 := hb4.size
    have h0_4 := h0_3.below (hb4.mono (by omega))
    clear h0_3
    clear t2_3
    have t4 := o4
    clear o4
    go_wp2_with fail
    refine (personsText_any _ _ _ xs0 _ _ ((t4.arr Person.cs_len).more (by omega)) m0 wf0 (HT.out.bel B4)).mono ?_
    rintro e w5 ⟨rfl, hb5⟩
    have B5 := bel2 B4 hb5
    have S5 := hb5.size
    have h0_5 := h0_4.below (hb5.mono (by omega))
    clear h0_4
    have t4_5 := t4.bel hb5
    clear t4
    go_wp2_with fail
    refine (toPersonS_any _ _ _ xs0 _ _ (h0_5.more (by omega)) m0).mono ?_
    rintro e w6 ⟨g6, rfl, o6, hb6⟩
    have B6 := bel2 B5 hb6
    have S6 := hb6.size
    have h0_6 := h0_5.below (hb6.mono (by omega))
    clear h0_5
    have t4_6 := t4_5.bel hb6
    clear t4_5
    have t6 := o6
    clear o6
    go_wp2_with fail
    refine (eqPersonS_same _ _ _ _ _ xs0 _ _ _ ((t4_6.arr Person.cs_len).more (by omega)) ((t6.arr Person.cs_len).more (by omega)) (by omega)).mono ?_
    rintro e w7 ⟨rfl, hb7⟩
    have B7 := bel2 B6 hb7
    have S7 := hb7.size
    have h0_7 := h0_6.below (hb7.mono (by omega))
    clear h0_6
    have t4_7 := t4_6.bel hb7
    clear t4_6
    clear t6
    go_wp2
    go_ret
    exact ⟨rfl, B7⟩
  · go_enter Tryd.func8, Tryd.ntmps8
    go_wp2_with fail
    refine (szPersonS_no _ _ _ xs0 _ _ _ (h0.more (by omega)) hn0 wf0 (by omega) (by omega) (by omega)).mono ?_
    rintro e w1 ⟨rfl, hb1⟩
    have B1 := hb1
    have S1 := hb1.size
    have h0_1 := h0.below (hb1.mono (by omega))
    clear h0
    go_wp2
    go_ret
    exact ⟨rfl, B1⟩
end Go.Proofs.YtencnldflnbdiaaDoor.lawPersonsText
