/- LiftDirections of the program and of the reference: ldA, ldB, lrCode. -/
import Derived.Test.YtkegncanmfmmmaaDoorDir3
import Derived.Test.YtkegncanmfmmmaaDoorAbles4
namespace Go.Proofs.YtkegncanmfmmmaaDoor
open Go.RowKit Go.Sort
set_option linter.unusedVariables false
attribute [local irreducible] dirN

def ldA (c : CV) (v : LiftV) : Int := if okB c v then dirN (v.fx - c.1.ax) (v.fy - c.1.ay) else 0
def ldB (c : CV) (v : LiftV) : Int := if okB c v then dirN (v.tx - c.1.ax) (v.ty - c.1.ay) else 0
theorem ld_1 {c : CV} {v : LiftV} (h : okB c v = false) : ldA c v = 0 ∧ ldB c v = 0 ∧ lrCode c v = 1 := by unfold ldA ldB lrCode; rw [h]; exact ⟨rfl, rfl, rfl⟩
theorem ld_0 {c : CV} {v : LiftV} (h : okB c v = true) : ldA c v = dirN (v.fx - c.1.ax) (v.fy - c.1.ay) ∧ ldB c v = dirN (v.tx - c.1.ax) (v.ty - c.1.ay) ∧ lrCode c v = 0 := by unfold ldA ldB lrCode; rw [h]; exact ⟨rfl, rfl, rfl⟩

set_option maxRecDepth 100000 in
set_option maxHeartbeats 1600000 in
theorem liftDirections_any (p : Crane) (l : Lift) (w : World) (lo lo2 : Nat) (hr : Arr ChartStep.cs 2 w lo w.heap.size p.r.a p.r.n p.r.xs) (hn : p.r.n ≤ 9223372036854775807) (hp : p.v.name.size ≤ 9223372036854775807) (hq : l.v.name.size ≤ 9223372036854775807) (hqt : QtrW w) :
    Calls Tryd.prog 13 #[.agg #[.string p.v.name, .int .i64 p.v.ax, .int .i64 p.v.ay, .int .i64 p.v.height, .int .i64 p.v.jib, .int .i64 p.v.back, .slice p.r.a p.r.n p.r.cap], .agg #[.string l.v.name, .int .i64 l.v.weight, .int .i64 l.v.fx, .int .i64 l.v.fy, .int .i64 l.v.tx, .int .i64 l.v.ty, .int .i64 l.v.height, .int .i64 l.v.deadline, .slice l.r.a l.r.n l.r.cap]] w fun e w' => e = .returned (.tuple #[.int .i64 (ldA p.val l.v), .int .i64 (ldB p.val l.v), .int .i64 (lrCode p.val l.v)]) ∧ Below w.heap.size w w' := by
  obtain ⟨W, hW⟩ : ∃ W : World, W = (w.alloc (.cells #[.string p.v.name, .int .i64 p.v.ax, .int .i64 p.v.ay, .int .i64 p.v.height, .int .i64 p.v.jib, .int .i64 p.v.back, .slice p.r.a p.r.n p.r.cap] 38)).alloc (.cells #[.string l.v.name, .int .i64 l.v.weight, .int .i64 l.v.fx, .int .i64 l.v.fy, .int .i64 l.v.tx, .int .i64 l.v.ty, .int .i64 l.v.height, .int .i64 l.v.deadline, .slice l.r.a l.r.n l.r.cap] 41) := ⟨_, rfl⟩
  have B0 : Below w.heap.size w W := by rw [hW]; exact ((Below.refl _ _).alloc (Nat.le_refl _) _).alloc (by simp) _
  have P0 : Blk W w.heap.size 38 #[.string p.v.name, .int .i64 p.v.ax, .int .i64 p.v.ay, .int .i64 p.v.height, .int .i64 p.v.jib, .int .i64 p.v.back, .slice p.r.a p.r.n p.r.cap] := by rw [hW]; exact (Blk.new _ _ _).alloc _
  have Q0 : Blk W (w.heap.size + 1) 41 #[.string l.v.name, .int .i64 l.v.weight, .int .i64 l.v.fx, .int .i64 l.v.fy, .int .i64 l.v.tx, .int .i64 l.v.ty, .int .i64 l.v.height, .int .i64 l.v.deadline, .slice l.r.a l.r.n l.r.cap] := by rw [hW]; exact Blk.new_at rfl (by simp)
  cases h1 : okB p.val l.v
  · have H1 := Lib.hid h1
    have H := Lib.hid (ld_1 h1)
    clear h1
    go_enter Tryd.func13, Tryd.ntmps13
    go_wp2_with fail
    rw [← hW]
    clear hW
    obtain ⟨c0, c1, c2, c3, c4, c5, c6⟩ := Crane.blk P0
    obtain ⟨d0, d1, d2, d3, d4, d5, d6, d7, d8⟩ := Lift.blk Q0
    go_wp2_with fail
    refine (liftOk_any p l _ lo lo2 ((hr.below B0).more B0.size) hn hp hq).mono ?_
    rintro e w1 ⟨rfl, hb1⟩
    have B1 := B0.trans (hb1.mono B0.size)
    have P1 := P0.bel hb1
    have Q1 := Q0.bel hb1
    clear c0 c1 c2 c3 c4 c5 c6 d0 d1 d2 d3 d4 d5 d6 d7 d8 P0 Q0 hb1
    obtain ⟨c0, c1, c2, c3, c4, c5, c6⟩ := Crane.blk P1
    obtain ⟨d0, d1, d2, d3, d4, d5, d6, d7, d8⟩ := Lift.blk Q1
    rw [H1.out]
    go_wp2
    go_ret3
    exact ⟨by rw [H.out.1, H.out.2.1, H.out.2.2]; rfl, B1⟩
  · have H1 := Lib.hid h1
    have H := Lib.hid (ld_0 h1)
    obtain ⟨hok, hpl⟩ := okB_parts h1
    have hpt : Plc p.v.ax p.v.ay := (craneOk_parts hok).at_
    have hP := plainB_parts hpl
    have pA := hP.fp
    have pB := hP.tp
    have HA := Lib.hid (fun (x y : Int) (W' : World) (h : Plc x y) (hq9 : QtrW W') => directionTo_any p x y W' hpt h hq9)
    clear h1 hok hpl hpt hP
    go_enter Tryd.func13, Tryd.ntmps13
    go_wp2_with fail
    rw [← hW]
    clear hW
    obtain ⟨c0, c1, c2, c3, c4, c5, c6⟩ := Crane.blk P0
    obtain ⟨d0, d1, d2, d3, d4, d5, d6, d7, d8⟩ := Lift.blk Q0
    go_wp2_with fail
    refine (liftOk_any p l _ lo lo2 ((hr.below B0).more B0.size) hn hp hq).mono ?_
    rintro e w1 ⟨rfl, hb1⟩
    have B1 := B0.trans (hb1.mono B0.size)
    have P1 := P0.bel hb1
    have Q1 := Q0.bel hb1
    clear c0 c1 c2 c3 c4 c5 c6 d0 d1 d2 d3 d4 d5 d6 d7 d8 P0 Q0 hb1
    obtain ⟨c0, c1, c2, c3, c4, c5, c6⟩ := Crane.blk P1
    obtain ⟨d0, d1, d2, d3, d4, d5, d6, d7, d8⟩ := Lift.blk Q1
    have HA2 := Lib.hid (fun (x y : Int) (d : Nat) (os : Array Obj) (h : Plc x y) => HA.out x y (grow (redrawn w1 d) os) h ((hqt.bel B1).bel (below_regrown w1 d os)))
    rw [H1.out]
    replace c0 := cell_regrown c0
    replace c1 := cell_regrown c1
    replace c2 := cell_regrown c2
    replace c3 := cell_regrown c3
    replace c4 := cell_regrown c4
    replace c5 := cell_regrown c5
    replace c6 := cell_regrown c6
    replace d0 := cell_regrown d0
    replace d1 := cell_regrown d1
    replace d2 := cell_regrown d2
    replace d3 := cell_regrown d3
    replace d4 := cell_regrown d4
    replace d5 := cell_regrown d5
    replace d6 := cell_regrown d6
    replace d7 := cell_regrown d7
    replace d8 := cell_regrown d8
    go_wp2
    refine wp_region_quiet_below (by kernel_rfl) (by kernel_rfl) ?_
    repeat (go_big_quiet_step ((go_at_call 41; exact Calls.regrown_of (HA2.out _ _ _ _ (by assumption)))))
    refine wpQuiet_nil ?_
    intro _ hw9
    obtain ⟨⟨dq, osq⟩, hw9⟩ := hw9
    subst hw9
    have hb9 := below_regrown w1 dq osq
    dsimp only at hb9 ⊢
    clear c0 c1 c2 c3 c4 c5 c6 d0 d1 d2 d3 d4 d5 d6 d7 d8 HA HA2 P1 Q1
    generalize grow (redrawn w1 dq) osq = W2 at hb9 ⊢
    go_wp2
    go_ret3
    exact ⟨by rw [H.out.1, H.out.2.1, H.out.2.2]; rfl, B1.trans (hb9.mono B1.size)⟩

end Go.Proofs.YtkegncanmfmmmaaDoor
