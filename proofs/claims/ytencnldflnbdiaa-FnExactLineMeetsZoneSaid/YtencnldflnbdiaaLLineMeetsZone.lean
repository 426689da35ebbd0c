/- FnExactLineMeetsZone: the walk: the law returns true for every input. -/
import Derived.Test.YtencnldflnbdiaaZone6
import Derived.Test.YtencnldflnbdiaaZone13
import Derived.Test.YtencnldflnbdiaaOZone
import Derived.Deep.RegionHeld3
namespace Go.Proofs.Ytencnldflnbdiaa.lawLineMeetsZone
open Go.RowKit
set_option linter.unusedVariables false

set_option maxRecDepth 100000 in
set_option maxHeartbeats 3200000 in
theorem walk (a0 : Zone) (a1 : Pnt) (a2 : Pnt) (w : World) (hi0 : a0.wf ∧ Arr Pnt.cs 2 w 0 w.heap.size a0.r.a a0.r.n a0.r.xs) (hi1 : a1.wf) (hi2 : a2.wf) :
    Calls Try.prog 4 #[.agg #[.int .i64 a0.v.kind, .int .i64 a0.v.storeys, .int .i64 a0.v.each, .slice a0.r.a a0.r.n a0.r.cap], .agg #[.int .i64 a1.x, .int .i64 a1.y], .agg #[.int .i64 a2.x, .int .i64 a2.y]] w fun e w' => e = .returned (.bool true) ∧ Below w.heap.size w w' := by
  obtain ⟨wf0, h0⟩ := hi0
  have hj0 := True.intro
  have q0 := Lib.hid h0.1
  have z0 : 0 ≤ (a0.sz : Int) := by omega
  by_cases hs0 : (a0.sz : Int) ≤ 1048576
  · go_enter Try.func4, Try.ntmps4
    go_wp2_with fail
    obtain ⟨wa, hwa⟩ : ∃ W, W = (World.alloc (World.alloc (World.alloc w (.cells #[.int .i64 a0.v.kind, .int .i64 a0.v.storeys, .int .i64 a0.v.each, .slice a0.r.a a0.r.n a0.r.cap] 40)) (.cells #[.int .i64 a1.x, .int .i64 a1.y] 42)) (.cells #[.int .i64 a2.x, .int .i64 a2.y] 42)) := ⟨_, rfl⟩
    rw [← hwa]
    have B0 : Below w.heap.size w wa := by rw [hwa]; exact (((Below.refl _ _).alloc (by simp) _).alloc (by simp) _).alloc (by simp; omega) _
    have S0 : w.heap.size + 3 ≤ wa.heap.size := by rw [hwa]; simp
    have BK0 : Blk wa (w.heap.size) 40 #[.int .i64 a0.v.kind, .int .i64 a0.v.storeys, .int .i64 a0.v.each, .slice a0.r.a a0.r.n a0.r.cap] := by rw [hwa]; exact ((Blk.new _ _ _).alloc _).alloc _
    have bx0_0 : wa.cell? ⟨w.heap.size, 0, none⟩ = some (.int .i64 a0.v.kind) := (BK0.cell 0).trans rfl
    have bx0_1 : wa.cell? ⟨w.heap.size, 1, none⟩ = some (.int .i64 a0.v.storeys) := (BK0.cell 1).trans rfl
    have bx0_2 : wa.cell? ⟨w.heap.size, 2, none⟩ = some (.int .i64 a0.v.each) := (BK0.cell 2).trans rfl
    have bx0_3 : wa.cell? ⟨w.heap.size, 3, none⟩ = some (.slice a0.r.a a0.r.n a0.r.cap) := (BK0.cell 3).trans rfl
    have BK1 : Blk wa (w.heap.size + 1) 42 #[.int .i64 a1.x, .int .i64 a1.y] := by rw [hwa]; exact (Blk.new_at rfl (by simp)).alloc _
    have bx1_0 : wa.cell? ⟨w.heap.size + 1, 0, none⟩ = some (.int .i64 a1.x) := (BK1.cell 0).trans rfl
    have bx1_1 : wa.cell? ⟨w.heap.size + 1, 1, none⟩ = some (.int .i64 a1.y) := (BK1.cell 1).trans rfl
    have BK2 : Blk wa (w.heap.size + 1 + 1) 42 #[.int .i64 a2.x, .int .i64 a2.y] := by rw [hwa]; exact Blk.new_at rfl (by simp)
    have bx2_0 : wa.cell? ⟨w.heap.size + 1 + 1, 0, none⟩ = some (.int .i64 a2.x) := (BK2.cell 0).trans rfl
    have bx2_1 : wa.cell? ⟨w.heap.size + 1 + 1, 1, none⟩ = some (.int .i64 a2.y) := (BK2.cell 1).trans rfl
    have h0_0 := (h0.below B0).more (show w.heap.size ≤ w.heap.size from Nat.le_refl _)
    clear h0
    clear hwa
    clear BK0 BK1 BK2
    go_wp2_with fail
    refine (szZone_ok a0 _ _ (h0_0.more (by omega)) wf0 (by omega) (by omega) (by omega)).mono ?_
    rintro e w1 ⟨rfl, hb1⟩
    have B1 := bel2 B0 hb1
    have S1 := hb1.size
    have bx0_0_1 := (hb1.cell (p := ⟨w.heap.size, 0, none⟩) (show w.heap.size < _ by omega)).trans bx0_0
    clear bx0_0
    have bx0_1_1 := (hb1.cell (p := ⟨w.heap.size, 1, none⟩) (show w.heap.size < _ by omega)).trans bx0_1
    clear bx0_1
    have bx0_2_1 := (hb1.cell (p := ⟨w.heap.size, 2, none⟩) (show w.heap.size < _ by omega)).trans bx0_2
    clear bx0_2
    have bx0_3_1 := (hb1.cell (p := ⟨w.heap.size, 3, none⟩) (show w.heap.size < _ by omega)).trans bx0_3
    clear bx0_3
    have bx1_0_1 := (hb1.cell (p := ⟨w.heap.size + 1, 0, none⟩) (show w.heap.size + 1 < _ by omega)).trans bx1_0
    clear bx1_0
    have bx1_1_1 := (hb1.cell (p := ⟨w.heap.size + 1, 1, none⟩) (show w.heap.size + 1 < _ by omega)).trans bx1_1
    clear bx1_1
    have bx2_0_1 := (hb1.cell (p := ⟨w.heap.size + 1 + 1, 0, none⟩) (show w.heap.size + 1 + 1 < _ by omega)).trans bx2_0
    clear bx2_0
    have bx2_1_1 := (hb1.cell (p := ⟨w.heap.size + 1 + 1, 1, none⟩) (show w.heap.size + 1 + 1 < _ by omega)).trans bx2_1
    clear bx2_1
    have h0_1 := h0_0.below (hb1.mono (by omega))
    clear h0_0
    have m0 : a0.r.n ≤ 1048576 := by unfold Zone.sz at hs0; omega
    go_wp2_with fail
    have hb2 : Below w1.heap.size w1 w1.drew := (Below.refl _ _).drew
    have B2 := bel2 B1 hb2
    have S2 := hb2.size
    have bx0_0_2 := (hb2.cell (p := ⟨w.heap.size, 0, none⟩) (show w.heap.size < _ by omega)).trans bx0_0_1
    clear bx0_0_1
    have bx0_1_2 := (hb2.cell (p := ⟨w.heap.size, 1, none⟩) (show w.heap.size < _ by omega)).trans bx0_1_1
    clear bx0_1_1
    have bx0_2_2 := (hb2.cell (p := ⟨w.heap.size, 2, none⟩) (show w.heap.size < _ by omega)).trans bx0_2_1
    clear bx0_2_1
    have bx0_3_2 := (hb2.cell (p := ⟨w.heap.size, 3, none⟩) (show w.heap.size < _ by omega)).trans bx0_3_1
    clear bx0_3_1
    have bx1_0_2 := (hb2.cell (p := ⟨w.heap.size + 1, 0, none⟩) (show w.heap.size + 1 < _ by omega)).trans bx1_0_1
    clear bx1_0_1
    have bx1_1_2 := (hb2.cell (p := ⟨w.heap.size + 1, 1, none⟩) (show w.heap.size + 1 < _ by omega)).trans bx1_1_1
    clear bx1_1_1
    have bx2_0_2 := (hb2.cell (p := ⟨w.heap.size + 1 + 1, 0, none⟩) (show w.heap.size + 1 + 1 < _ by omega)).trans bx2_0_1
    clear bx2_0_1
    have bx2_1_2 := (hb2.cell (p := ⟨w.heap.size + 1 + 1, 1, none⟩) (show w.heap.size + 1 + 1 < _ by omega)).trans bx2_1_1
    clear bx2_1_1
    have h0_2 := h0_1.below (hb2.mono (by omega))
    clear h0_1
    go_region_held3 (fun w' => w'.cell? ⟨w.heap.size, 0, none⟩ = some (.int .i64 a0.v.kind) ∧ w'.cell? ⟨w.heap.size, 1, none⟩ = some (.int .i64 a0.v.storeys) ∧ w'.cell? ⟨w.heap.size, 2, none⟩ = some (.int .i64 a0.v.each) ∧ w'.cell? ⟨w.heap.size, 3, none⟩ = some (.slice a0.r.a a0.r.n a0.r.cap) ∧ w'.cell? ⟨w.heap.size + 1, 0, none⟩ = some (.int .i64 a1.x) ∧ w'.cell? ⟨w.heap.size + 1, 1, none⟩ = some (.int .i64 a1.y) ∧ w'.cell? ⟨w.heap.size + 1 + 1, 0, none⟩ = some (.int .i64 a2.x) ∧ w'.cell? ⟨w.heap.size + 1 + 1, 1, none⟩ = some (.int .i64 a2.y)) (first | exact ⟨bx0_0_2, bx0_1_2, bx0_2_2, bx0_3_2, bx1_0_2, bx1_1_2, bx2_0_2, bx2_1_2⟩ | exact ⟨bx0_0_3, bx0_1_3, bx0_2_3, bx0_3_3, bx1_0_3, bx1_1_3, bx2_0_3, bx2_1_3⟩ | exact ⟨bx0_0_4, bx0_1_4, bx0_2_4, bx0_3_4, bx1_0_4, bx1_1_4, bx2_0_4, bx2_1_4⟩ | exact ⟨bx0_0_5, bx0_1_5, bx0_2_5, bx0_3_5, bx1_0_5, bx1_1_5, bx2_0_5, bx2_1_5⟩ | exact ⟨bx0_0_6, bx0_1_6, bx0_2_6, bx0_3_6, bx1_0_6, bx1_1_6, bx2_0_6, bx2_1_6⟩ | go_keep) ((first | (go_at_call 18; refine (toZone_any a0 _ _ (h0_2.more (by omega)) m0).mono ?_; rintro e w3 ⟨g3, rfl, o3, hb3⟩; have B3 := bel2 B2 hb3; have S3 := hb3.size; have bx0_0_3 := (hb3.cell (p := ⟨w.heap.size, 0, none⟩) (show w.heap.size < _ by omega)).trans bx0_0_2; have bx0_1_3 := (hb3.cell (p := ⟨w.heap.size, 1, none⟩) (show w.heap.size < _ by omega)).trans bx0_1_2; have bx0_2_3 := (hb3.cell (p := ⟨w.heap.size, 2, none⟩) (show w.heap.size < _ by omega)).trans bx0_2_2; have bx0_3_3 := (hb3.cell (p := ⟨w.heap.size, 3, none⟩) (show w.heap.size < _ by omega)).trans bx0_3_2; have bx1_0_3 := (hb3.cell (p := ⟨w.heap.size + 1, 0, none⟩) (show w.heap.size + 1 < _ by omega)).trans bx1_0_2; have bx1_1_3 := (hb3.cell (p := ⟨w.heap.size + 1, 1, none⟩) (show w.heap.size + 1 < _ by omega)).trans bx1_1_2; have bx2_0_3 := (hb3.cell (p := ⟨w.heap.size + 1 + 1, 0, none⟩) (show w.heap.size + 1 + 1 < _ by omega)).trans bx2_0_2; have bx2_1_3 := (hb3.cell (p := ⟨w.heap.size + 1 + 1, 1, none⟩) (show w.heap.size + 1 + 1 < _ by omega)).trans bx2_1_2; have h0_3 := h0_2.below (hb3.mono (by omega)); have t3 := o3) | (go_at_call 19; with_reducible refine (toPnt_any a1 _).mono ?_; rintro e w4 ⟨rfl, hb4⟩; have B4 := bel2 B3 hb4; have S4 := hb4.size; have bx0_0_4 := (hb4.cell (p := ⟨w.heap.size, 0, none⟩) (show w.heap.size < _ by omega)).trans bx0_0_3; have bx0_1_4 := (hb4.cell (p := ⟨w.heap.size, 1, none⟩) (show w.heap.size < _ by omega)).trans bx0_1_3; have bx0_2_4 := (hb4.cell (p := ⟨w.heap.size, 2, none⟩) (show w.heap.size < _ by omega)).trans bx0_2_3; have bx0_3_4 := (hb4.cell (p := ⟨w.heap.size, 3, none⟩) (show w.heap.size < _ by omega)).trans bx0_3_3; have bx1_0_4 := (hb4.cell (p := ⟨w.heap.size + 1, 0, none⟩) (show w.heap.size + 1 < _ by omega)).trans bx1_0_3; have bx1_1_4 := (hb4.cell (p := ⟨w.heap.size + 1, 1, none⟩) (show w.heap.size + 1 < _ by omega)).trans bx1_1_3; have bx2_0_4 := (hb4.cell (p := ⟨w.heap.size + 1 + 1, 0, none⟩) (show w.heap.size + 1 + 1 < _ by omega)).trans bx2_0_3; have bx2_1_4 := (hb4.cell (p := ⟨w.heap.size + 1 + 1, 1, none⟩) (show w.heap.size + 1 + 1 < _ by omega)).trans bx2_1_3; have h0_4 := h0_3.below (hb4.mono (by omega)); have t3_4 := t3.bel hb4) | (go_at_call 19; with_reducible refine (toPnt_any a2 _).mono ?_; rintro e w5 ⟨rfl, hb5⟩; have B5 := bel2 B4 hb5; have S5 := hb5.size; have bx0_0_5 := (hb5.cell (p := ⟨w.heap.size, 0, none⟩) (show w.heap.size < _ by omega)).trans bx0_0_4; have bx0_1_5 := (hb5.cell (p := ⟨w.heap.size, 1, none⟩) (show w.heap.size < _ by omega)).trans bx0_1_4; have bx0_2_5 := (hb5.cell (p := ⟨w.heap.size, 2, none⟩) (show w.heap.size < _ by omega)).trans bx0_2_4; have bx0_3_5 := (hb5.cell (p := ⟨w.heap.size, 3, none⟩) (show w.heap.size < _ by omega)).trans bx0_3_4; have bx1_0_5 := (hb5.cell (p := ⟨w.heap.size + 1, 0, none⟩) (show w.heap.size + 1 < _ by omega)).trans bx1_0_4; have bx1_1_5 := (hb5.cell (p := ⟨w.heap.size + 1, 1, none⟩) (show w.heap.size + 1 < _ by omega)).trans bx1_1_4; have bx2_0_5 := (hb5.cell (p := ⟨w.heap.size + 1 + 1, 0, none⟩) (show w.heap.size + 1 + 1 < _ by omega)).trans bx2_0_4; have bx2_1_5 := (hb5.cell (p := ⟨w.heap.size + 1 + 1, 1, none⟩) (show w.heap.size + 1 + 1 < _ by omega)).trans bx2_1_4; have h0_5 := h0_4.below (hb5.mono (by omega)); have t3_5 := t3_4.bel hb5) | (go_at_call 17; refine ((show Calls Try.prog _ _ _ (fun e w' => e = .returned (.tuple #[.bool (lmVal a0.val a1 a2), .int .i64 (lmCode a0.val a1 a2)]) ∧ Below _ _ w') from specLineMeetsZone_any (⟨a0.v, ⟨some ⟨g3, 0, none⟩, a0.r.n, a0.r.n, a0.r.xs⟩⟩ : Zone) a1 a2 _ _ ((t3_5.arr Pnt.cs_len).more (by omega)) (Nat.le_trans m0 (by decide)))).mono ?_; rintro e w6 ⟨rfl, hb6⟩; have B6 := bel2 B5 hb6; have S6 := hb6.size; have bx0_0_6 := (hb6.cell (p := ⟨w.heap.size, 0, none⟩) (show w.heap.size < _ by omega)).trans bx0_0_5; have bx0_1_6 := (hb6.cell (p := ⟨w.heap.size, 1, none⟩) (show w.heap.size < _ by omega)).trans bx0_1_5; have bx0_2_6 := (hb6.cell (p := ⟨w.heap.size, 2, none⟩) (show w.heap.size < _ by omega)).trans bx0_2_5; have bx0_3_6 := (hb6.cell (p := ⟨w.heap.size, 3, none⟩) (show w.heap.size < _ by omega)).trans bx0_3_5; have bx1_0_6 := (hb6.cell (p := ⟨w.heap.size + 1, 0, none⟩) (show w.heap.size + 1 < _ by omega)).trans bx1_0_5; have bx1_1_6 := (hb6.cell (p := ⟨w.heap.size + 1, 1, none⟩) (show w.heap.size + 1 < _ by omega)).trans bx1_1_5; have bx2_0_6 := (hb6.cell (p := ⟨w.heap.size + 1 + 1, 0, none⟩) (show w.heap.size + 1 + 1 < _ by omega)).trans bx2_0_5; have bx2_1_6 := (hb6.cell (p := ⟨w.heap.size + 1 + 1, 1, none⟩) (show w.heap.size + 1 + 1 < _ by omega)).trans bx2_1_5; have h0_6 := h0_5.below (hb6.mono (by omega)); have t3_6 := t3_5.bel hb6)))
    clear bx0_0_2 bx0_1_2 bx0_2_2 bx0_3_2 bx1_0_2 bx1_1_2 bx2_0_2 bx2_1_2 h0_2 o3 bx0_0_3 bx0_1_3 bx0_2_3 bx0_3_3 bx1_0_3 bx1_1_3 bx2_0_3 bx2_1_3 h0_3 t3 bx0_0_4 bx0_1_4 bx0_2_4 bx0_3_4 bx1_0_4 bx1_1_4 bx2_0_4 bx2_1_4 h0_4 t3_4 bx0_0_5 bx0_1_5 bx0_2_5 bx0_3_5 bx1_0_5 bx1_1_5 bx2_0_5 bx2_1_5 h0_5 t3_5
    go_wp2_with fail
    refine (toZone_any a0 _ _ (h0_6.more (by omega)) m0).mono ?_
    rintro e w7 ⟨g7, rfl, o7, hb7⟩
    have B7 := bel2 B6 hb7
    have S7 := hb7.size
    have bx0_0_7 := (hb7.cell (p := ⟨w.heap.size, 0, none⟩) (show w.heap.size < _ by omega)).trans bx0_0_6
    clear bx0_0_6
    have bx0_1_7 := (hb7.cell (p := ⟨w.heap.size, 1, none⟩) (show w.heap.size < _ by omega)).trans bx0_1_6
    clear bx0_1_6
    have bx0_2_7 := (hb7.cell (p := ⟨w.heap.size, 2, none⟩) (show w.heap.size < _ by omega)).trans bx0_2_6
    clear bx0_2_6
    have bx0_3_7 := (hb7.cell (p := ⟨w.heap.size, 3, none⟩) (show w.heap.size < _ by omega)).trans bx0_3_6
    clear bx0_3_6
    have bx1_0_7 := (hb7.cell (p := ⟨w.heap.size + 1, 0, none⟩) (show w.heap.size + 1 < _ by omega)).trans bx1_0_6
    clear bx1_0_6
    have bx1_1_7 := (hb7.cell (p := ⟨w.heap.size + 1, 1, none⟩) (show w.heap.size + 1 < _ by omega)).trans bx1_1_6
    clear bx1_1_6
    have bx2_0_7 := (hb7.cell (p := ⟨w.heap.size + 1 + 1, 0, none⟩) (show w.heap.size + 1 + 1 < _ by omega)).trans bx2_0_6
    clear bx2_0_6
    have bx2_1_7 := (hb7.cell (p := ⟨w.heap.size + 1 + 1, 1, none⟩) (show w.heap.size + 1 + 1 < _ by omega)).trans bx2_1_6
    clear bx2_1_6
    have h0_7 := h0_6.below (hb7.mono (by omega))
    clear h0_6
    clear t3_6
    have t7 := o7
    clear o7
    have SX8_0 : w.heap.size < w7.heap.size := by omega
    have SX8_1 : w.heap.size + 1 < w7.heap.size := by omega
    have SX8_2 : w.heap.size + 1 + 1 < w7.heap.size := by omega
    go_wp2_with fail
    obtain ⟨w8, hw8⟩ : ∃ W : World, W = w7.alloc (.cells #[.int .i64 a0.v.kind, .int .i64 a0.v.storeys, .int .i64 a0.v.each, .slice (some ⟨g7, 0, none⟩) a0.r.n a0.r.n] 48) := ⟨_, rfl⟩
    have hb8 : Below w7.heap.size w7 w8 := by rw [hw8]; exact (Below.refl _ _).alloc (Nat.le_refl _) _
    have SB8 : w7.heap.size < w8.heap.size := by rw [hw8]; simp
    have xb0_0 : w8.cell? ⟨w7.heap.size, 0, none⟩ = some (.int .i64 a0.v.kind) := by rw [hw8]; simp
    have xb0_1 : w8.cell? ⟨w7.heap.size, 1, none⟩ = some (.int .i64 a0.v.storeys) := by rw [hw8]; simp
    have xb0_2 : w8.cell? ⟨w7.heap.size, 2, none⟩ = some (.int .i64 a0.v.each) := by rw [hw8]; simp
    have xb0_3 : w8.cell? ⟨w7.heap.size, 3, none⟩ = some (.slice (some ⟨g7, 0, none⟩) a0.r.n a0.r.n) := by rw [hw8]; simp
    rw [← hw8]
    clear hw8
    have B8 := bel2 B7 hb8
    have S8 := hb8.size
    have bx0_0_8 := (hb8.cell (p := ⟨w.heap.size, 0, none⟩) (show w.heap.size < _ by omega)).trans bx0_0_7
    clear bx0_0_7
    have bx0_1_8 := (hb8.cell (p := ⟨w.heap.size, 1, none⟩) (show w.heap.size < _ by omega)).trans bx0_1_7
    clear bx0_1_7
    have bx0_2_8 := (hb8.cell (p := ⟨w.heap.size, 2, none⟩) (show w.heap.size < _ by omega)).trans bx0_2_7
    clear bx0_2_7
    have bx0_3_8 := (hb8.cell (p := ⟨w.heap.size, 3, none⟩) (show w.heap.size < _ by omega)).trans bx0_3_7
    clear bx0_3_7
    have bx1_0_8 := (hb8.cell (p := ⟨w.heap.size + 1, 0, none⟩) (show w.heap.size + 1 < _ by omega)).trans bx1_0_7
    clear bx1_0_7
    have bx1_1_8 := (hb8.cell (p := ⟨w.heap.size + 1, 1, none⟩) (show w.heap.size + 1 < _ by omega)).trans bx1_1_7
    clear bx1_1_7
    have bx2_0_8 := (hb8.cell (p := ⟨w.heap.size + 1 + 1, 0, none⟩) (show w.heap.size + 1 + 1 < _ by omega)).trans bx2_0_7
    clear bx2_0_7
    have bx2_1_8 := (hb8.cell (p := ⟨w.heap.size + 1 + 1, 1, none⟩) (show w.heap.size + 1 + 1 < _ by omega)).trans bx2_1_7
    clear bx2_1_7
    have h0_8 := h0_7.below (hb8.mono (by omega))
    clear h0_7
    have t7_8 := t7.bel hb8
    clear t7
    go_wp2_with fail
    have hb9 : Below w8.heap.size w8 w8.drew := (Below.refl _ _).drew
    have B9 := bel2 B8 hb9
    have S9 := hb9.size
    have bx0_0_9 := (hb9.cell (p := ⟨w.heap.size, 0, none⟩) (show w.heap.size < _ by omega)).trans bx0_0_8
    clear bx0_0_8
    have bx0_1_9 := (hb9.cell (p := ⟨w.heap.size, 1, none⟩) (show w.heap.size < _ by omega)).trans bx0_1_8
    clear bx0_1_8
    have bx0_2_9 := (hb9.cell (p := ⟨w.heap.size, 2, none⟩) (show w.heap.size < _ by omega)).trans bx0_2_8
    clear bx0_2_8
    have bx0_3_9 := (hb9.cell (p := ⟨w.heap.size, 3, none⟩) (show w.heap.size < _ by omega)).trans bx0_3_8
    clear bx0_3_8
    have bx1_0_9 := (hb9.cell (p := ⟨w.heap.size + 1, 0, none⟩) (show w.heap.size + 1 < _ by omega)).trans bx1_0_8
    clear bx1_0_8
    have bx1_1_9 := (hb9.cell (p := ⟨w.heap.size + 1, 1, none⟩) (show w.heap.size + 1 < _ by omega)).trans bx1_1_8
    clear bx1_1_8
    have bx2_0_9 := (hb9.cell (p := ⟨w.heap.size + 1 + 1, 0, none⟩) (show w.heap.size + 1 + 1 < _ by omega)).trans bx2_0_8
    clear bx2_0_8
    have bx2_1_9 := (hb9.cell (p := ⟨w.heap.size + 1 + 1, 1, none⟩) (show w.heap.size + 1 + 1 < _ by omega)).trans bx2_1_8
    clear bx2_1_8
    have xb0_0_9 := (hb9.cell (p := ⟨w7.heap.size, 0, none⟩) (show w7.heap.size < _ by omega)).trans xb0_0
    clear xb0_0
    have xb0_1_9 := (hb9.cell (p := ⟨w7.heap.size, 1, none⟩) (show w7.heap.size < _ by omega)).trans xb0_1
    clear xb0_1
    have xb0_2_9 := (hb9.cell (p := ⟨w7.heap.size, 2, none⟩) (show w7.heap.size < _ by omega)).trans xb0_2
    clear xb0_2
    have xb0_3_9 := (hb9.cell (p := ⟨w7.heap.size, 3, none⟩) (show w7.heap.size < _ by omega)).trans xb0_3
    clear xb0_3
    have h0_9 := h0_8.below (hb9.mono (by omega))
    clear h0_8
    have t7_9 := t7_8.bel hb9
    clear t7_8
    go_region_held3 (fun w' => w'.cell? ⟨w.heap.size, 0, none⟩ = some (.int .i64 a0.v.kind) ∧ w'.cell? ⟨w.heap.size, 1, none⟩ = some (.int .i64 a0.v.storeys) ∧ w'.cell? ⟨w.heap.size, 2, none⟩ = some (.int .i64 a0.v.each) ∧ w'.cell? ⟨w.heap.size, 3, none⟩ = some (.slice a0.r.a a0.r.n a0.r.cap) ∧ w'.cell? ⟨w.heap.size + 1, 0, none⟩ = some (.int .i64 a1.x) ∧ w'.cell? ⟨w.heap.size + 1, 1, none⟩ = some (.int .i64 a1.y) ∧ w'.cell? ⟨w.heap.size + 1 + 1, 0, none⟩ = some (.int .i64 a2.x) ∧ w'.cell? ⟨w.heap.size + 1 + 1, 1, none⟩ = some (.int .i64 a2.y) ∧ w'.cell? ⟨w7.heap.size, 0, none⟩ = some (.int .i64 a0.v.kind) ∧ w'.cell? ⟨w7.heap.size, 1, none⟩ = some (.int .i64 a0.v.storeys) ∧ w'.cell? ⟨w7.heap.size, 2, none⟩ = some (.int .i64 a0.v.each) ∧ w'.cell? ⟨w7.heap.size, 3, none⟩ = some (.slice (some ⟨g7, 0, none⟩) a0.r.n a0.r.n)) (first | exact ⟨bx0_0_9, bx0_1_9, bx0_2_9, bx0_3_9, bx1_0_9, bx1_1_9, bx2_0_9, bx2_1_9, xb0_0_9, xb0_1_9, xb0_2_9, xb0_3_9⟩ | exact ⟨bx0_0_10, bx0_1_10, bx0_2_10, bx0_3_10, bx1_0_10, bx1_1_10, bx2_0_10, bx2_1_10, xb0_0_10, xb0_1_10, xb0_2_10, xb0_3_10⟩ | exact ⟨bx0_0_11, bx0_1_11, bx0_2_11, bx0_3_11, bx1_0_11, bx1_1_11, bx2_0_11, bx2_1_11, xb0_0_11, xb0_1_11, xb0_2_11, xb0_3_11⟩ | exact ⟨bx0_0_12, bx0_1_12, bx0_2_12, bx0_3_12, bx1_0_12, bx1_1_12, bx2_0_12, bx2_1_12, xb0_0_12, xb0_1_12, xb0_2_12, xb0_3_12⟩ | go_keep) ((first | (go_at_call 19; with_reducible refine (toPnt_any a1 _).mono ?_; rintro e w10 ⟨rfl, hb10⟩; have B10 := bel2 B9 hb10; have S10 := hb10.size; have bx0_0_10 := (hb10.cell (p := ⟨w.heap.size, 0, none⟩) (show w.heap.size < _ by omega)).trans bx0_0_9; have bx0_1_10 := (hb10.cell (p := ⟨w.heap.size, 1, none⟩) (show w.heap.size < _ by omega)).trans bx0_1_9; have bx0_2_10 := (hb10.cell (p := ⟨w.heap.size, 2, none⟩) (show w.heap.size < _ by omega)).trans bx0_2_9; have bx0_3_10 := (hb10.cell (p := ⟨w.heap.size, 3, none⟩) (show w.heap.size < _ by omega)).trans bx0_3_9; have bx1_0_10 := (hb10.cell (p := ⟨w.heap.size + 1, 0, none⟩) (show w.heap.size + 1 < _ by omega)).trans bx1_0_9; have bx1_1_10 := (hb10.cell (p := ⟨w.heap.size + 1, 1, none⟩) (show w.heap.size + 1 < _ by omega)).trans bx1_1_9; have bx2_0_10 := (hb10.cell (p := ⟨w.heap.size + 1 + 1, 0, none⟩) (show w.heap.size + 1 + 1 < _ by omega)).trans bx2_0_9; have bx2_1_10 := (hb10.cell (p := ⟨w.heap.size + 1 + 1, 1, none⟩) (show w.heap.size + 1 + 1 < _ by omega)).trans bx2_1_9; have xb0_0_10 := (hb10.cell (p := ⟨w7.heap.size, 0, none⟩) (show w7.heap.size < _ by omega)).trans xb0_0_9; have xb0_1_10 := (hb10.cell (p := ⟨w7.heap.size, 1, none⟩) (show w7.heap.size < _ by omega)).trans xb0_1_9; have xb0_2_10 := (hb10.cell (p := ⟨w7.heap.size, 2, none⟩) (show w7.heap.size < _ by omega)).trans xb0_2_9; have xb0_3_10 := (hb10.cell (p := ⟨w7.heap.size, 3, none⟩) (show w7.heap.size < _ by omega)).trans xb0_3_9; have h0_10 := h0_9.below (hb10.mono (by omega)); have t7_10 := t7_9.bel hb10) | (go_at_call 19; with_reducible refine (toPnt_any a2 _).mono ?_; rintro e w11 ⟨rfl, hb11⟩; have B11 := bel2 B10 hb11; have S11 := hb11.size; have bx0_0_11 := (hb11.cell (p := ⟨w.heap.size, 0, none⟩) (show w.heap.size < _ by omega)).trans bx0_0_10; have bx0_1_11 := (hb11.cell (p := ⟨w.heap.size, 1, none⟩) (show w.heap.size < _ by omega)).trans bx0_1_10; have bx0_2_11 := (hb11.cell (p := ⟨w.heap.size, 2, none⟩) (show w.heap.size < _ by omega)).trans bx0_2_10; have bx0_3_11 := (hb11.cell (p := ⟨w.heap.size, 3, none⟩) (show w.heap.size < _ by omega)).trans bx0_3_10; have bx1_0_11 := (hb11.cell (p := ⟨w.heap.size + 1, 0, none⟩) (show w.heap.size + 1 < _ by omega)).trans bx1_0_10; have bx1_1_11 := (hb11.cell (p := ⟨w.heap.size + 1, 1, none⟩) (show w.heap.size + 1 < _ by omega)).trans bx1_1_10; have bx2_0_11 := (hb11.cell (p := ⟨w.heap.size + 1 + 1, 0, none⟩) (show w.heap.size + 1 + 1 < _ by omega)).trans bx2_0_10; have bx2_1_11 := (hb11.cell (p := ⟨w.heap.size + 1 + 1, 1, none⟩) (show w.heap.size + 1 + 1 < _ by omega)).trans bx2_1_10; have xb0_0_11 := (hb11.cell (p := ⟨w7.heap.size, 0, none⟩) (show w7.heap.size < _ by omega)).trans xb0_0_10; have xb0_1_11 := (hb11.cell (p := ⟨w7.heap.size, 1, none⟩) (show w7.heap.size < _ by omega)).trans xb0_1_10; have xb0_2_11 := (hb11.cell (p := ⟨w7.heap.size, 2, none⟩) (show w7.heap.size < _ by omega)).trans xb0_2_10; have xb0_3_11 := (hb11.cell (p := ⟨w7.heap.size, 3, none⟩) (show w7.heap.size < _ by omega)).trans xb0_3_10; have h0_11 := h0_10.below (hb11.mono (by omega)); have t7_11 := t7_10.bel hb11) | (go_at_call 20; refine ((show Calls Try.prog _ _ _ (fun e w' => e = .returned (.tuple #[.bool (lmVal a0.val a1 a2), .int .i64 (lmCode a0.val a1 a2)]) ∧ Below _ _ w') from lineMeetsZone_any (⟨a0.v, ⟨some ⟨g7, 0, none⟩, a0.r.n, a0.r.n, a0.r.xs⟩⟩ : Zone) a1 a2 _ _ ((t7_11.arr Pnt.cs_len).more (by omega)) (Nat.le_trans m0 (by decide)))).mono ?_; rintro e w12 ⟨rfl, hb12⟩; have B12 := bel2 B11 hb12; have S12 := hb12.size; have bx0_0_12 := (hb12.cell (p := ⟨w.heap.size, 0, none⟩) (show w.heap.size < _ by omega)).trans bx0_0_11; have bx0_1_12 := (hb12.cell (p := ⟨w.heap.size, 1, none⟩) (show w.heap.size < _ by omega)).trans bx0_1_11; have bx0_2_12 := (hb12.cell (p := ⟨w.heap.size, 2, none⟩) (show w.heap.size < _ by omega)).trans bx0_2_11; have bx0_3_12 := (hb12.cell (p := ⟨w.heap.size, 3, none⟩) (show w.heap.size < _ by omega)).trans bx0_3_11; have bx1_0_12 := (hb12.cell (p := ⟨w.heap.size + 1, 0, none⟩) (show w.heap.size + 1 < _ by omega)).trans bx1_0_11; have bx1_1_12 := (hb12.cell (p := ⟨w.heap.size + 1, 1, none⟩) (show w.heap.size + 1 < _ by omega)).trans bx1_1_11; have bx2_0_12 := (hb12.cell (p := ⟨w.heap.size + 1 + 1, 0, none⟩) (show w.heap.size + 1 + 1 < _ by omega)).trans bx2_0_11; have bx2_1_12 := (hb12.cell (p := ⟨w.heap.size + 1 + 1, 1, none⟩) (show w.heap.size + 1 + 1 < _ by omega)).trans bx2_1_11; have xb0_0_12 := (hb12.cell (p := ⟨w7.heap.size, 0, none⟩) (show w7.heap.size < _ by omega)).trans xb0_0_11; have xb0_1_12 := (hb12.cell (p := ⟨w7.heap.size, 1, none⟩) (show w7.heap.size < _ by omega)).trans xb0_1_11; have xb0_2_12 := (hb12.cell (p := ⟨w7.heap.size, 2, none⟩) (show w7.heap.size < _ by omega)).trans xb0_2_11; have xb0_3_12 := (hb12.cell (p := ⟨w7.heap.size, 3, none⟩) (show w7.heap.size < _ by omega)).trans xb0_3_11; have h0_12 := h0_11.below (hb12.mono (by omega)); have t7_12 := t7_11.bel hb12)))
    clear bx0_0_9 bx0_1_9 bx0_2_9 bx0_3_9 bx1_0_9 bx1_1_9 bx2_0_9 bx2_1_9 xb0_0_9 xb0_1_9 xb0_2_9 xb0_3_9 h0_9 t7_9 bx0_0_10 bx0_1_10 bx0_2_10 bx0_3_10 bx1_0_10 bx1_1_10 bx2_0_10 bx2_1_10 xb0_0_10 xb0_1_10 xb0_2_10 xb0_3_10 h0_10 t7_10 bx0_0_11 bx0_1_11 bx0_2_11 bx0_3_11 bx1_0_11 bx1_1_11 bx2_0_11 bx2_1_11 xb0_0_11 xb0_1_11 xb0_2_11 xb0_3_11 h0_11 t7_11
    go_wp2_with fail
    have hb13 : Below w12.heap.size w12 w12.drew := (Below.refl _ _).drew
    have B13 := bel2 B12 hb13
    have S13 := hb13.size
    have bx0_0_13 := (hb13.cell (p := ⟨w.heap.size, 0, none⟩) (show w.heap.size < _ by omega)).trans bx0_0_12
    clear bx0_0_12
    have bx0_1_13 := (hb13.cell (p := ⟨w.heap.size, 1, none⟩) (show w.heap.size < _ by omega)).trans bx0_1_12
    clear bx0_1_12
    have bx0_2_13 := (hb13.cell (p := ⟨w.heap.size, 2, none⟩) (show w.heap.size < _ by omega)).trans bx0_2_12
    clear bx0_2_12
    have bx0_3_13 := (hb13.cell (p := ⟨w.heap.size, 3, none⟩) (show w.heap.size < _ by omega)).trans bx0_3_12
    clear bx0_3_12
    have bx1_0_13 := (hb13.cell (p := ⟨w.heap.size + 1, 0, none⟩) (show w.heap.size + 1 < _ by omega)).trans bx1_0_12
    clear bx1_0_12
    have bx1_1_13 := (hb13.cell (p := ⟨w.heap.size + 1, 1, none⟩) (show w.heap.size + 1 < _ by omega)).trans bx1_1_12
    clear bx1_1_12
    have bx2_0_13 := (hb13.cell (p := ⟨w.heap.size + 1 + 1, 0, none⟩) (show w.heap.size + 1 + 1 < _ by omega)).trans bx2_0_12
    clear bx2_0_12
    have bx2_1_13 := (hb13.cell (p := ⟨w.heap.size + 1 + 1, 1, none⟩) (show w.heap.size + 1 + 1 < _ by omega)).trans bx2_1_12
    clear bx2_1_12
    have xb0_0_13 := (hb13.cell (p := ⟨w7.heap.size, 0, none⟩) (show w7.heap.size < _ by omega)).trans xb0_0_12
    clear xb0_0_12
    have xb0_1_13 := (hb13.cell (p := ⟨w7.heap.size, 1, none⟩) (show w7.heap.size < _ by omega)).trans xb0_1_12
    clear xb0_1_12
    have xb0_2_13 := (hb13.cell (p := ⟨w7.heap.size, 2, none⟩) (show w7.heap.size < _ by omega)).trans xb0_2_12
    clear xb0_2_12
    have xb0_3_13 := (hb13.cell (p := ⟨w7.heap.size, 3, none⟩) (show w7.heap.size < _ by omega)).trans xb0_3_12
    clear xb0_3_12
    have h0_13 := h0_12.below (hb13.mono (by omega))
    clear h0_12
    have t7_13 := t7_12.bel hb13
    clear t7_12
    go_region_held3 (fun w' => w'.cell? ⟨w.heap.size, 0, none⟩ = some (.int .i64 a0.v.kind) ∧ w'.cell? ⟨w.heap.size, 1, none⟩ = some (.int .i64 a0.v.storeys) ∧ w'.cell? ⟨w.heap.size, 2, none⟩ = some (.int .i64 a0.v.each) ∧ w'.cell? ⟨w.heap.size, 3, none⟩ = some (.slice a0.r.a a0.r.n a0.r.cap) ∧ w'.cell? ⟨w.heap.size + 1, 0, none⟩ = some (.int .i64 a1.x) ∧ w'.cell? ⟨w.heap.size + 1, 1, none⟩ = some (.int .i64 a1.y) ∧ w'.cell? ⟨w.heap.size + 1 + 1, 0, none⟩ = some (.int .i64 a2.x) ∧ w'.cell? ⟨w.heap.size + 1 + 1, 1, none⟩ = some (.int .i64 a2.y) ∧ w'.cell? ⟨w7.heap.size, 0, none⟩ = some (.int .i64 a0.v.kind) ∧ w'.cell? ⟨w7.heap.size, 1, none⟩ = some (.int .i64 a0.v.storeys) ∧ w'.cell? ⟨w7.heap.size, 2, none⟩ = some (.int .i64 a0.v.each) ∧ w'.cell? ⟨w7.heap.size, 3, none⟩ = some (.slice (some ⟨g7, 0, none⟩) a0.r.n a0.r.n)) (first | exact ⟨bx0_0_13, bx0_1_13, bx0_2_13, bx0_3_13, bx1_0_13, bx1_1_13, bx2_0_13, bx2_1_13, xb0_0_13, xb0_1_13, xb0_2_13, xb0_3_13⟩ | exact ⟨bx0_0_14, bx0_1_14, bx0_2_14, bx0_3_14, bx1_0_14, bx1_1_14, bx2_0_14, bx2_1_14, xb0_0_14, xb0_1_14, xb0_2_14, xb0_3_14⟩ | exact ⟨bx0_0_15, bx0_1_15, bx0_2_15, bx0_3_15, bx1_0_15, bx1_1_15, bx2_0_15, bx2_1_15, xb0_0_15, xb0_1_15, xb0_2_15, xb0_3_15⟩ | go_keep) ((first | (go_at_call 18; refine (toZone_any a0 _ _ (h0_13.more (by omega)) m0).mono ?_; rintro e w14 ⟨g14, rfl, o14, hb14⟩; have B14 := bel2 B13 hb14; have S14 := hb14.size; have bx0_0_14 := (hb14.cell (p := ⟨w.heap.size, 0, none⟩) (show w.heap.size < _ by omega)).trans bx0_0_13; have bx0_1_14 := (hb14.cell (p := ⟨w.heap.size, 1, none⟩) (show w.heap.size < _ by omega)).trans bx0_1_13; have bx0_2_14 := (hb14.cell (p := ⟨w.heap.size, 2, none⟩) (show w.heap.size < _ by omega)).trans bx0_2_13; have bx0_3_14 := (hb14.cell (p := ⟨w.heap.size, 3, none⟩) (show w.heap.size < _ by omega)).trans bx0_3_13; have bx1_0_14 := (hb14.cell (p := ⟨w.heap.size + 1, 0, none⟩) (show w.heap.size + 1 < _ by omega)).trans bx1_0_13; have bx1_1_14 := (hb14.cell (p := ⟨w.heap.size + 1, 1, none⟩) (show w.heap.size + 1 < _ by omega)).trans bx1_1_13; have bx2_0_14 := (hb14.cell (p := ⟨w.heap.size + 1 + 1, 0, none⟩) (show w.heap.size + 1 + 1 < _ by omega)).trans bx2_0_13; have bx2_1_14 := (hb14.cell (p := ⟨w.heap.size + 1 + 1, 1, none⟩) (show w.heap.size + 1 + 1 < _ by omega)).trans bx2_1_13; have xb0_0_14 := (hb14.cell (p := ⟨w7.heap.size, 0, none⟩) (show w7.heap.size < _ by omega)).trans xb0_0_13; have xb0_1_14 := (hb14.cell (p := ⟨w7.heap.size, 1, none⟩) (show w7.heap.size < _ by omega)).trans xb0_1_13; have xb0_2_14 := (hb14.cell (p := ⟨w7.heap.size, 2, none⟩) (show w7.heap.size < _ by omega)).trans xb0_2_13; have xb0_3_14 := (hb14.cell (p := ⟨w7.heap.size, 3, none⟩) (show w7.heap.size < _ by omega)).trans xb0_3_13; have h0_14 := h0_13.below (hb14.mono (by omega)); have t7_14 := t7_13.bel hb14; have t14 := o14) | (go_at_call 21; refine (eqZone_same a0.v ⟨some ⟨g7, 0, none⟩, a0.r.n, a0.r.n, a0.r.xs⟩ ⟨some ⟨g14, 0, none⟩, a0.r.n, a0.r.n, a0.r.xs⟩ _ _ _ rfl ((t7_14.arr Pnt.cs_len).more (by omega)) ((t14.arr Pnt.cs_len).more (by omega)) (Nat.le_trans m0 (by decide))).mono ?_; rintro e w15 ⟨rfl, hb15⟩; have B15 := bel2 B14 hb15; have S15 := hb15.size; have bx0_0_15 := (hb15.cell (p := ⟨w.heap.size, 0, none⟩) (show w.heap.size < _ by omega)).trans bx0_0_14; have bx0_1_15 := (hb15.cell (p := ⟨w.heap.size, 1, none⟩) (show w.heap.size < _ by omega)).trans bx0_1_14; have bx0_2_15 := (hb15.cell (p := ⟨w.heap.size, 2, none⟩) (show w.heap.size < _ by omega)).trans bx0_2_14; have bx0_3_15 := (hb15.cell (p := ⟨w.heap.size, 3, none⟩) (show w.heap.size < _ by omega)).trans bx0_3_14; have bx1_0_15 := (hb15.cell (p := ⟨w.heap.size + 1, 0, none⟩) (show w.heap.size + 1 < _ by omega)).trans bx1_0_14; have bx1_1_15 := (hb15.cell (p := ⟨w.heap.size + 1, 1, none⟩) (show w.heap.size + 1 < _ by omega)).trans bx1_1_14; have bx2_0_15 := (hb15.cell (p := ⟨w.heap.size + 1 + 1, 0, none⟩) (show w.heap.size + 1 + 1 < _ by omega)).trans bx2_0_14; have bx2_1_15 := (hb15.cell (p := ⟨w.heap.size + 1 + 1, 1, none⟩) (show w.heap.size + 1 + 1 < _ by omega)).trans bx2_1_14; have xb0_0_15 := (hb15.cell (p := ⟨w7.heap.size, 0, none⟩) (show w7.heap.size < _ by omega)).trans xb0_0_14; have xb0_1_15 := (hb15.cell (p := ⟨w7.heap.size, 1, none⟩) (show w7.heap.size < _ by omega)).trans xb0_1_14; have xb0_2_15 := (hb15.cell (p := ⟨w7.heap.size, 2, none⟩) (show w7.heap.size < _ by omega)).trans xb0_2_14; have xb0_3_15 := (hb15.cell (p := ⟨w7.heap.size, 3, none⟩) (show w7.heap.size < _ by omega)).trans xb0_3_14; have h0_15 := h0_14.below (hb15.mono (by omega)); have t7_15 := t7_14.bel hb15)))
    clear bx0_0_13 bx0_1_13 bx0_2_13 bx0_3_13 bx1_0_13 bx1_1_13 bx2_0_13 bx2_1_13 xb0_0_13 xb0_1_13 xb0_2_13 xb0_3_13 h0_13 t7_13 o14 bx0_0_14 bx0_1_14 bx0_2_14 bx0_3_14 bx1_0_14 bx1_1_14 bx2_0_14 bx2_1_14 xb0_0_14 xb0_1_14 xb0_2_14 xb0_3_14 h0_14 t7_14 t14
    go_wp2
    go_ret
    exact ⟨rfl, B15⟩
  · go_enter Try.func4, Try.ntmps4
    go_wp2_with fail
    obtain ⟨wa, hwa⟩ : ∃ W, W = (World.alloc (World.alloc (World.alloc w (.cells #[.int .i64 a0.v.kind, .int .i64 a0.v.storeys, .int .i64 a0.v.each, .slice a0.r.a a0.r.n a0.r.cap] 40)) (.cells #[.int .i64 a1.x, .int .i64 a1.y] 42)) (.cells #[.int .i64 a2.x, .int .i64 a2.y] 42)) := ⟨_, rfl⟩
    rw [← hwa]
    have B0 : Below w.heap.size w wa := by rw [hwa]; exact (((Below.refl _ _).alloc (by simp) _).alloc (by simp) _).alloc (by simp; omega) _
    have S0 : w.heap.size + 3 ≤ wa.heap.size := by rw [hwa]; simp
    have BK0 : Blk wa (w.heap.size) 40 #[.int .i64 a0.v.kind, .int .i64 a0.v.storeys, .int .i64 a0.v.each, .slice a0.r.a a0.r.n a0.r.cap] := by rw [hwa]; exact ((Blk.new _ _ _).alloc _).alloc _
    have bx0_0 : wa.cell? ⟨w.heap.size, 0, none⟩ = some (.int .i64 a0.v.kind) := (BK0.cell 0).trans rfl
    have bx0_1 : wa.cell? ⟨w.heap.size, 1, none⟩ = some (.int .i64 a0.v.storeys) := (BK0.cell 1).trans rfl
    have bx0_2 : wa.cell? ⟨w.heap.size, 2, none⟩ = some (.int .i64 a0.v.each) := (BK0.cell 2).trans rfl
    have bx0_3 : wa.cell? ⟨w.heap.size, 3, none⟩ = some (.slice a0.r.a a0.r.n a0.r.cap) := (BK0.cell 3).trans rfl
    have BK1 : Blk wa (w.heap.size + 1) 42 #[.int .i64 a1.x, .int .i64 a1.y] := by rw [hwa]; exact (Blk.new_at rfl (by simp)).alloc _
    have bx1_0 : wa.cell? ⟨w.heap.size + 1, 0, none⟩ = some (.int .i64 a1.x) := (BK1.cell 0).trans rfl
    have bx1_1 : wa.cell? ⟨w.heap.size + 1, 1, none⟩ = some (.int .i64 a1.y) := (BK1.cell 1).trans rfl
    have BK2 : Blk wa (w.heap.size + 1 + 1) 42 #[.int .i64 a2.x, .int .i64 a2.y] := by rw [hwa]; exact Blk.new_at rfl (by simp)
    have bx2_0 : wa.cell? ⟨w.heap.size + 1 + 1, 0, none⟩ = some (.int .i64 a2.x) := (BK2.cell 0).trans rfl
    have bx2_1 : wa.cell? ⟨w.heap.size + 1 + 1, 1, none⟩ = some (.int .i64 a2.y) := (BK2.cell 1).trans rfl
    have h0_0 := (h0.below B0).more (show w.heap.size ≤ w.heap.size from Nat.le_refl _)
    clear h0
    clear hwa
    clear BK0 BK1 BK2
    go_wp2_with fail
    refine (szZone_no a0 _ _ (h0_0.more (by omega)) wf0 (by omega) (by omega) (by omega)).mono ?_
    rintro e w1 ⟨rfl, hb1⟩
    have B1 := bel2 B0 hb1
    have S1 := hb1.size
    have bx0_0_1 := (hb1.cell (p := ⟨w.heap.size, 0, none⟩) (show w.heap.size < _ by omega)).trans bx0_0
    clear bx0_0
    have bx0_1_1 := (hb1.cell (p := ⟨w.heap.size, 1, none⟩) (show w.heap.size < _ by omega)).trans bx0_1
    clear bx0_1
    have bx0_2_1 := (hb1.cell (p := ⟨w.heap.size, 2, none⟩) (show w.heap.size < _ by omega)).trans bx0_2
    clear bx0_2
    have bx0_3_1 := (hb1.cell (p := ⟨w.heap.size, 3, none⟩) (show w.heap.size < _ by omega)).trans bx0_3
    clear bx0_3
    have bx1_0_1 := (hb1.cell (p := ⟨w.heap.size + 1, 0, none⟩) (show w.heap.size + 1 < _ by omega)).trans bx1_0
    clear bx1_0
    have bx1_1_1 := (hb1.cell (p := ⟨w.heap.size + 1, 1, none⟩) (show w.heap.size + 1 < _ by omega)).trans bx1_1
    clear bx1_1
    have bx2_0_1 := (hb1.cell (p := ⟨w.heap.size + 1 + 1, 0, none⟩) (show w.heap.size + 1 + 1 < _ by omega)).trans bx2_0
    clear bx2_0
    have bx2_1_1 := (hb1.cell (p := ⟨w.heap.size + 1 + 1, 1, none⟩) (show w.heap.size + 1 + 1 < _ by omega)).trans bx2_1
    clear bx2_1
    have h0_1 := h0_0.below (hb1.mono (by omega))
    clear h0_0
    go_wp2
    go_ret
    exact ⟨rfl, B1⟩
end Go.Proofs.Ytencnldflnbdiaa.lawLineMeetsZone
