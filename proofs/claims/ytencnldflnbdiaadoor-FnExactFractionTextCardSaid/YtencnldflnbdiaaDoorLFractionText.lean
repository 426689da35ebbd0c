/- FnExactFractionText: the walk: the law returns true for every input. -/
import Derived.Test.YtencnldflnbdiaaDoorFracText
namespace Go.Proofs.YtencnldflnbdiaaDoor.lawFractionText
open Go.RowKit Go.Sort
set_option linter.unusedVariables false

set_option maxRecDepth 100000 in
set_option maxHeartbeats 1600000 in
theorem walk (a0 : Fraction) (w : World) (hi0 : a0.wf) (ht : TabW w) :
    Calls Tryd.prog 6 #[.agg #[.int .i64 a0.num, .int .i64 a0.den]] w fun e w' => e = .returned (.bool true) ∧ Below w.heap.size w w' := by
  obtain ⟨W, hW⟩ : ∃ W : World, W = w.alloc (.cells #[.int .i64 a0.num, .int .i64 a0.den] 68) := ⟨_, rfl⟩
  have B0 : Below w.heap.size w W := by rw [hW]; exact (Below.refl _ _).alloc (Nat.le_refl _) _
  have P0 : Blk W w.heap.size 68 #[.int .i64 a0.num, .int .i64 a0.den] := by rw [hW]; exact Blk.new _ _ _
  have HT := Lib.hid (ht.bel B0)
  have HP0 := Lib.hid P0
  have HB0 := Lib.hid B0
  clear ht B0 P0
  go_enter Tryd.func6, Tryd.ntmps6
  go_wp2_with fail
  rw [← hW]
  clear hW
  refine (toFraction_any a0 _).mono ?_
  rintro e w1 ⟨rfl, hb1⟩
  have HB1 := Lib.hid (bel2 (Below.refl _ _) hb1)
  go_wp2_with fail
  refine (specFractionText_any a0 _).mono ?_
  rintro e w2 ⟨rfl, hb2⟩
  have HB2 := Lib.hid (bel2 hb1 hb2)
  have c0 : w2.cell? ⟨w.heap.size, 0, none⟩ = some (.int .i64 a0.num) := ((HP0.out.below HB2.out HP0.out.lt).cell 0).trans rfl
  have c1 : w2.cell? ⟨w.heap.size, 1, none⟩ = some (.int .i64 a0.den) := ((HP0.out.below HB2.out HP0.out.lt).cell 1).trans rfl
  clear hb1 hb2
  go_wp2_with fail
  refine (toFraction_any a0 _).mono ?_
  rintro e w3 ⟨rfl, hb3⟩
  have HB3 := Lib.hid (bel2 HB2.out hb3)
  have HT3 := Lib.hid (HT.out.bel HB3.out)
  go_wp2_with fail
  refine (fractionText_any a0 _ HT3.out).mono ?_
  rintro e w4 ⟨rfl, hb4⟩
  have HB4 := Lib.hid (bel2 HB3.out hb4)
  clear hb3 hb4
  go_wp2
  go_ret
  exact ⟨rfl, HB0.out.trans (HB4.out.mono HB0.out.size)⟩
end Go.Proofs.YtencnldflnbdiaaDoor.lawFractionText
