/- FnExactSignatureOf: the walk: the law returns true for every input. -/
import Derived.Test.YtencnldflnbdiaaDoorSig3
namespace Go.Proofs.YtencnldflnbdiaaDoor.lawSignatureOf
open Go.RowKit Go.Sort
set_option linter.unusedVariables false

set_option maxRecDepth 100000 in
set_option maxHeartbeats 1600000 in
theorem walk (a0 a1 : Int) (a2 : Entry) (w : World) (h0 : (Lit.int .i64 a0).wf = true) (h1 : (Lit.int .i64 a1).wf = true) (hi2 : a2.wf) (ht : TabW w) :
    Calls Tryd.prog 5 #[.int .i64 a0, .int .i64 a1, .agg #[.int .i64 a2.second, .string a2.who, .string a2.what]] w fun e w' => e = .returned (.bool true) ∧ Below w.heap.size w w' := by
  obtain ⟨W, hW⟩ : ∃ W : World, W = w.alloc (.cells #[.int .i64 a2.second, .string a2.who, .string a2.what] 62) := ⟨_, rfl⟩
  have B0 : Below w.heap.size w W := by rw [hW]; exact (Below.refl _ _).alloc (Nat.le_refl _) _
  have P0 : Blk W w.heap.size 62 #[.int .i64 a2.second, .string a2.who, .string a2.what] := by rw [hW]; exact Blk.new _ _ _
  have HT := Lib.hid (ht.bel B0)
  have HP0 := Lib.hid P0
  have HB0 := Lib.hid B0
  have hw := hi2.who
  have hs := hi2.what
  clear ht B0 P0 h0 h1
  by_cases hz : szEn a2 ≤ 1048576
  · go_enter Tryd.func5, Tryd.ntmps5
    go_wp2_with fail
    rw [← hW]
    clear hW
    refine (szEntry_ok a2 _ hz).mono ?_
    rintro e w1 ⟨rfl, hb1⟩
    have HB1 := Lib.hid (bel2 (Below.refl _ _) hb1)
    have HP1 := Lib.hid (HP0.out.below HB1.out HP0.out.lt)
    have e0 : w1.cell? ⟨w.heap.size, 0, none⟩ = some (.int .i64 a2.second) := (HP1.out.cell 0).trans rfl
    have e1 : w1.cell? ⟨w.heap.size, 1, none⟩ = some (.string a2.who) := (HP1.out.cell 1).trans rfl
    have e2 : w1.cell? ⟨w.heap.size, 2, none⟩ = some (.string a2.what) := (HP1.out.cell 2).trans rfl
    have hz2 : ¬ 1048576 - szEn a2 < 0 := by omega
    clear hb1
    go_wp2_with fail
    refine (toEntry_any a2 _).mono ?_
    rintro e w2 ⟨rfl, hb2⟩
    have HB2 := Lib.hid (bel2 HB1.out hb2)
    clear hb2 e0 e1 e2
    go_wp2_with fail
    refine (specSignatureOf_any a0 a1 a2 _ hw hs).mono ?_
    rintro e w3 ⟨rfl, hb3⟩
    have HB3 := Lib.hid (bel2 HB2.out hb3)
    have HP3 := Lib.hid (HP0.out.below HB3.out HP0.out.lt)
    have e0 : w3.cell? ⟨w.heap.size, 0, none⟩ = some (.int .i64 a2.second) := (HP3.out.cell 0).trans rfl
    have e1 : w3.cell? ⟨w.heap.size, 1, none⟩ = some (.string a2.who) := (HP3.out.cell 1).trans rfl
    have e2 : w3.cell? ⟨w.heap.size, 2, none⟩ = some (.string a2.what) := (HP3.out.cell 2).trans rfl
    clear hb3
    go_wp2_with fail
    refine (toEntry_any a2 _).mono ?_
    rintro e w4 ⟨rfl, hb4⟩
    have HB4 := Lib.hid (bel2 HB3.out hb4)
    have HT4 := Lib.hid (HT.out.bel HB4.out)
    clear hb4 e0 e1 e2
    go_wp2_with fail
    refine (signatureOf_any a0 a1 a2 _ hw hs HT4.out).mono ?_
    rintro e w5 ⟨rfl, hb5⟩
    have HB5 := Lib.hid (bel2 HB4.out hb5)
    clear hb5
    go_wp2
    go_ret
    exact ⟨rfl, HB0.out.trans (HB5.out.mono HB0.out.size)⟩
  · go_enter Tryd.func5, Tryd.ntmps5
    go_wp2_with fail
    rw [← hW]
    clear hW
    refine (szEntry_no a2 _ hi2 (by omega)).mono ?_
    rintro e w1 ⟨rfl, hb1⟩
    go_wp2
    go_ret
    exact ⟨rfl, HB0.out.trans (hb1.mono HB0.out.size)⟩
end Go.Proofs.YtencnldflnbdiaaDoor.lawSignatureOf
