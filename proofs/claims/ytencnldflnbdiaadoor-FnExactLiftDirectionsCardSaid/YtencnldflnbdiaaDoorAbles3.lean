/- Cranes and lifts: liftOk, can, LiftRadii, LiftMargin, CanLift, UsedPercent of the program. -/
import Derived.Test.YtencnldflnbdiaaDoorAbles2
namespace Go.Proofs.YtencnldflnbdiaaDoor
open Go.RowKit Go.Sort
set_option linter.unusedVariables false

def okB (c : CV) (v : LiftV) : Bool := craneOk c && plainB v
def ableB (c : CV) (v : LiftV) : Bool := decide (v.weight ≤ ldF c v) && decide (v.height + 30 ≤ c.1.height)
theorem okB_parts {c : CV} {v : LiftV} (h : okB c v = true) : craneOk c = true ∧ plainB v = true := by unfold okB at h; rwa [Bool.and_eq_true] at h
theorem PlainV.ne {c : CV} {v : LiftV} (h : PlainV v) (h2 : ldF c v < 0) : ableB c v = false := by
  have := h.weight
  unfold ableB; rw [decide_eq_false (by omega)]; rfl

set_option maxRecDepth 100000 in
set_option maxHeartbeats 1600000 in
theorem liftOk_any (p : Crane) (l : Lift) (w : World) (lo lo2 : Nat) (hr : Arr ChartStep.cs 2 w lo w.heap.size p.r.a p.r.n p.r.xs) (hn : p.r.n ≤ 9223372036854775807) (hp : p.v.name.size ≤ 9223372036854775807) (hq : l.v.name.size ≤ 9223372036854775807) :
    Calls Tryd.prog 80 #[.agg #[.string p.v.name, .int .i64 p.v.ax, .int .i64 p.v.ay, .int .i64 p.v.height, .int .i64 p.v.jib, .int .i64 p.v.back, .slice p.r.a p.r.n p.r.cap], .agg #[.string l.v.name, .int .i64 l.v.weight, .int .i64 l.v.fx, .int .i64 l.v.fy, .int .i64 l.v.tx, .int .i64 l.v.ty, .int .i64 l.v.height, .int .i64 l.v.deadline, .slice l.r.a l.r.n l.r.cap]] w fun e w' => e = .returned (.bool (okB p.val l.v)) ∧ Below w.heap.size w w' := by
  obtain ⟨W, hW⟩ : ∃ W : World, W = (w.alloc (.cells #[.string p.v.name, .int .i64 p.v.ax, .int .i64 p.v.ay, .int .i64 p.v.height, .int .i64 p.v.jib, .int .i64 p.v.back, .slice p.r.a p.r.n p.r.cap] 56)).alloc (.cells #[.string l.v.name, .int .i64 l.v.weight, .int .i64 l.v.fx, .int .i64 l.v.fy, .int .i64 l.v.tx, .int .i64 l.v.ty, .int .i64 l.v.height, .int .i64 l.v.deadline, .slice l.r.a l.r.n l.r.cap] 59) := ⟨_, rfl⟩
  have B0 : Below w.heap.size w W := by rw [hW]; exact ((Below.refl _ _).alloc (Nat.le_refl _) _).alloc (by simp) _
  have P0 : Blk W w.heap.size 56 #[.string p.v.name, .int .i64 p.v.ax, .int .i64 p.v.ay, .int .i64 p.v.height, .int .i64 p.v.jib, .int .i64 p.v.back, .slice p.r.a p.r.n p.r.cap] := by rw [hW]; exact (Blk.new _ _ _).alloc _
  have Q0 : Blk W (w.heap.size + 1) 59 #[.string l.v.name, .int .i64 l.v.weight, .int .i64 l.v.fx, .int .i64 l.v.fy, .int .i64 l.v.tx, .int .i64 l.v.ty, .int .i64 l.v.height, .int .i64 l.v.deadline, .slice l.r.a l.r.n l.r.cap] := by rw [hW]; exact Blk.new_at rfl (by simp)
  cases h1 : craneOk p.val
  · have H1 := Lib.hid h1
    have H : Hid (okB p.val l.v = false) := by show _ = _; unfold okB; rw [h1]; rfl
    clear h1
    go_enter Tryd.func80, Tryd.ntmps80
    go_wp2_with fail
    rw [← hW]
    clear hW
    obtain ⟨c0, c1, c2, c3, c4, c5, c6⟩ := Crane.blk P0
    obtain ⟨d0, d1, d2, d3, d4, d5, d6, d7, d8⟩ := Lift.blk Q0
    go_wp2_with fail
    refine (validCrane_any p _ lo hp ((hr.below B0).more B0.size) hn).mono ?_
    rintro e w1 ⟨rfl, hb1⟩
    have B1 := B0.trans (hb1.mono B0.size)
    have P1 := P0.bel hb1
    have Q1 := Q0.bel hb1
    clear c0 c1 c2 c3 c4 c5 c6 d0 d1 d2 d3 d4 d5 d6 d7 d8 P0 Q0 hb1
    obtain ⟨c0, c1, c2, c3, c4, c5, c6⟩ := Crane.blk P1
    obtain ⟨d0, d1, d2, d3, d4, d5, d6, d7, d8⟩ := Lift.blk Q1
    rw [H1.out]
    go_wp2
    go_ret
    exact ⟨by rw [H.out]; rfl, B1⟩
  · have H1 := Lib.hid h1
    have H : Hid (okB p.val l.v = plainB l.v) := by show _ = _; unfold okB; rw [h1]; rfl
    clear h1
    go_enter Tryd.func80, Tryd.ntmps80
    go_wp2_with fail
    rw [← hW]
    clear hW
    obtain ⟨c0, c1, c2, c3, c4, c5, c6⟩ := Crane.blk P0
    obtain ⟨d0, d1, d2, d3, d4, d5, d6, d7, d8⟩ := Lift.blk Q0
    go_wp2_with fail
    refine (validCrane_any p _ lo hp ((hr.below B0).more B0.size) hn).mono ?_
    rintro e w1 ⟨rfl, hb1⟩
    have B1 := B0.trans (hb1.mono B0.size)
    have P1 := P0.bel hb1
    have Q1 := Q0.bel hb1
    clear c0 c1 c2 c3 c4 c5 c6 d0 d1 d2 d3 d4 d5 d6 d7 d8 P0 Q0 hb1
    obtain ⟨c0, c1, c2, c3, c4, c5, c6⟩ := Crane.blk P1
    obtain ⟨d0, d1, d2, d3, d4, d5, d6, d7, d8⟩ := Lift.blk Q1
    rw [H1.out]
    go_wp2_with fail
    refine (plain_any l _ hq).mono ?_
    rintro e w2 ⟨rfl, hb2⟩
    have B2 := B1.trans (hb2.mono B1.size)
    have P2 := P1.bel hb2
    have Q2 := Q1.bel hb2
    clear c0 c1 c2 c3 c4 c5 c6 d0 d1 d2 d3 d4 d5 d6 d7 d8 P1 Q1 hb2
    obtain ⟨c0, c1, c2, c3, c4, c5, c6⟩ := Crane.blk P2
    obtain ⟨d0, d1, d2, d3, d4, d5, d6, d7, d8⟩ := Lift.blk Q2
    go_wp2
    go_ret
    exact ⟨by rw [H.out]; rfl, B2⟩
def mgVal (c : CV) (v : LiftV) : Int := if okB c v then (if ldF c v < 0 then 0 else ldF c v - v.weight) else 0
def mgCode (c : CV) (v : LiftV) : Int := if okB c v then (if ldF c v < 0 then 3 else 0) else 1
theorem mg_1 {c : CV} {v : LiftV} (h : okB c v = false) : mgVal c v = 0 ∧ mgCode c v = 1 := by unfold mgVal mgCode; rw [h]; exact ⟨rfl, rfl⟩
theorem mg_3 {c : CV} {v : LiftV} (h : okB c v = true) (h2 : ldF c v < 0) : mgVal c v = 0 ∧ mgCode c v = 3 := by unfold mgVal mgCode; rw [h, if_pos h2, if_pos h2]; exact ⟨rfl, rfl⟩
theorem mg_0 {c : CV} {v : LiftV} (h : okB c v = true) (h2 : ¬ ldF c v < 0) : mgVal c v = ldF c v - v.weight ∧ mgCode c v = 0 := by unfold mgVal mgCode; rw [h, if_neg h2, if_neg h2]; exact ⟨rfl, rfl⟩

def upVal (c : CV) (v : LiftV) : Int := if okB c v then (if ldF c v < 0 then 0 else if ldF c v = 0 then 0 else cdiv (100 * v.weight) (ldF c v)) else 0
def upCode (c : CV) (v : LiftV) : Int := if okB c v then (if ldF c v < 0 then 3 else if ldF c v = 0 then 6 else 0) else 1
theorem up_1 {c : CV} {v : LiftV} (h : okB c v = false) : upVal c v = 0 ∧ upCode c v = 1 := by unfold upVal upCode; rw [h]; exact ⟨rfl, rfl⟩
theorem up_3 {c : CV} {v : LiftV} (h : okB c v = true) (h2 : ldF c v < 0) : upVal c v = 0 ∧ upCode c v = 3 := by unfold upVal upCode; rw [h, if_pos h2, if_pos h2]; exact ⟨rfl, rfl⟩
theorem up_6 {c : CV} {v : LiftV} (h : okB c v = true) (h2 : ldF c v = 0) : upVal c v = 0 ∧ upCode c v = 6 := by unfold upVal upCode; rw [h, h2]; exact ⟨rfl, rfl⟩
theorem up_0 {c : CV} {v : LiftV} (h : okB c v = true) (h2 : ¬ ldF c v < 0) (h3 : ¬ ldF c v = 0) : upVal c v = cdiv (100 * v.weight) (ldF c v) ∧ upCode c v = 0 := by unfold upVal upCode; rw [h, if_neg h2, if_neg h2, if_neg h3, if_neg h3]; exact ⟨rfl, rfl⟩

def lrA (c : CV) (v : LiftV) : Int := if okB c v then rt (sqD c.1.ax c.1.ay v.fx v.fy) else 0
def lrB (c : CV) (v : LiftV) : Int := if okB c v then rt (sqD c.1.ax c.1.ay v.tx v.ty) else 0
def lrCode (c : CV) (v : LiftV) : Int := if okB c v then 0 else 1
theorem lr_1 {c : CV} {v : LiftV} (h : okB c v = false) : lrA c v = 0 ∧ lrB c v = 0 ∧ lrCode c v = 1 := by unfold lrA lrB lrCode; rw [h]; exact ⟨rfl, rfl, rfl⟩
theorem lr_0 {c : CV} {v : LiftV} (h : okB c v = true) : lrA c v = rt (sqD c.1.ax c.1.ay v.fx v.fy) ∧ lrB c v = rt (sqD c.1.ax c.1.ay v.tx v.ty) ∧ lrCode c v = 0 := by unfold lrA lrB lrCode; rw [h]; exact ⟨rfl, rfl, rfl⟩

set_option maxRecDepth 100000 in
set_option maxHeartbeats 1600000 in
theorem liftRadii_any (p : Crane) (l : Lift) (w : World) (lo lo2 : Nat) (hr : Arr ChartStep.cs 2 w lo w.heap.size p.r.a p.r.n p.r.xs) (hn : p.r.n ≤ 9223372036854775807) (hp : p.v.name.size ≤ 9223372036854775807) (hq : l.v.name.size ≤ 9223372036854775807) :
    Calls Tryd.prog 26 #[.agg #[.string p.v.name, .int .i64 p.v.ax, .int .i64 p.v.ay, .int .i64 p.v.height, .int .i64 p.v.jib, .int .i64 p.v.back, .slice p.r.a p.r.n p.r.cap], .agg #[.string l.v.name, .int .i64 l.v.weight, .int .i64 l.v.fx, .int .i64 l.v.fy, .int .i64 l.v.tx, .int .i64 l.v.ty, .int .i64 l.v.height, .int .i64 l.v.deadline, .slice l.r.a l.r.n l.r.cap]] w fun e w' => e = .returned (.tuple #[.int .i64 (lrA p.val l.v), .int .i64 (lrB p.val l.v), .int .i64 (lrCode p.val l.v)]) ∧ Below w.heap.size w w' := by
  obtain ⟨W, hW⟩ : ∃ W : World, W = (w.alloc (.cells #[.string p.v.name, .int .i64 p.v.ax, .int .i64 p.v.ay, .int .i64 p.v.height, .int .i64 p.v.jib, .int .i64 p.v.back, .slice p.r.a p.r.n p.r.cap] 56)).alloc (.cells #[.string l.v.name, .int .i64 l.v.weight, .int .i64 l.v.fx, .int .i64 l.v.fy, .int .i64 l.v.tx, .int .i64 l.v.ty, .int .i64 l.v.height, .int .i64 l.v.deadline, .slice l.r.a l.r.n l.r.cap] 59) := ⟨_, rfl⟩
  have B0 : Below w.heap.size w W := by rw [hW]; exact ((Below.refl _ _).alloc (Nat.le_refl _) _).alloc (by simp) _
  have P0 : Blk W w.heap.size 56 #[.string p.v.name, .int .i64 p.v.ax, .int .i64 p.v.ay, .int .i64 p.v.height, .int .i64 p.v.jib, .int .i64 p.v.back, .slice p.r.a p.r.n p.r.cap] := by rw [hW]; exact (Blk.new _ _ _).alloc _
  have Q0 : Blk W (w.heap.size + 1) 59 #[.string l.v.name, .int .i64 l.v.weight, .int .i64 l.v.fx, .int .i64 l.v.fy, .int .i64 l.v.tx, .int .i64 l.v.ty, .int .i64 l.v.height, .int .i64 l.v.deadline, .slice l.r.a l.r.n l.r.cap] := by rw [hW]; exact Blk.new_at rfl (by simp)
  cases h1 : okB p.val l.v
  · have H1 := Lib.hid h1
    have H := Lib.hid (lr_1 h1)
    clear h1
    go_enter Tryd.func26, Tryd.ntmps26
    go_wp2_with fail
    rw [← hW]
    clear hW
    obtain ⟨c0, c1, c2, c3, c4, c5, c6⟩ := Crane.blk P0
    obtain ⟨d0, d1, d2, d3, d4, d5, d6, d7, d8⟩ := Lift.blk Q0
    go_wp2_with fail
    refine (liftOk_any p l _ lo lo2 ((hr.below B0).more B0.size) hn hp hq).mono ?_
    rintro e w1 ⟨rfl, hb1⟩
    have B1 := B0.trans (hb1.mono B0.size)
    have P1 := P0.bel hb1
    have Q1 := Q0.bel hb1
    clear c0 c1 c2 c3 c4 c5 c6 d0 d1 d2 d3 d4 d5 d6 d7 d8 P0 Q0 hb1
    obtain ⟨c0, c1, c2, c3, c4, c5, c6⟩ := Crane.blk P1
    obtain ⟨d0, d1, d2, d3, d4, d5, d6, d7, d8⟩ := Lift.blk Q1
    rw [H1.out]
    go_wp2
    go_ret3
    exact ⟨by rw [H.out.1, H.out.2.1, H.out.2.2]; rfl, B1⟩
  · have H1 := Lib.hid h1
    have H := Lib.hid (lr_0 h1)
    obtain ⟨hok, hpl⟩ := okB_parts h1
    have hpt : Plc p.v.ax p.v.ay := (craneOk_parts hok).at_
    have hP := plainB_parts hpl
    have pA := hP.fp
    have pB := hP.tp
    have HA := Lib.hid (show ∀ x y W', Plc x y → Calls Tryd.prog 81 #[.agg #[.string p.v.name, .int .i64 p.v.ax, .int .i64 p.v.ay, .int .i64 p.v.height, .int .i64 p.v.jib, .int .i64 p.v.back, .slice p.r.a p.r.n p.r.cap], .agg #[.int .i64 x, .int .i64 y]] W' fun e w' => e = .returned (.int .i64 (rt (sqD p.v.ax p.v.ay x y))) ∧ Below W'.heap.size W' w' from fun x y W' h => radiusTo_any p _ _ W' hpt h)
    clear h1 hok hpl hpt hP
    go_enter Tryd.func26, Tryd.ntmps26
    go_wp2_with fail
    rw [← hW]
    clear hW
    obtain ⟨c0, c1, c2, c3, c4, c5, c6⟩ := Crane.blk P0
    obtain ⟨d0, d1, d2, d3, d4, d5, d6, d7, d8⟩ := Lift.blk Q0
    go_wp2_with fail
    refine (liftOk_any p l _ lo lo2 ((hr.below B0).more B0.size) hn hp hq).mono ?_
    rintro e w1 ⟨rfl, hb1⟩
    have B1 := B0.trans (hb1.mono B0.size)
    have P1 := P0.bel hb1
    have Q1 := Q0.bel hb1
    clear c0 c1 c2 c3 c4 c5 c6 d0 d1 d2 d3 d4 d5 d6 d7 d8 P0 Q0 hb1
    obtain ⟨c0, c1, c2, c3, c4, c5, c6⟩ := Crane.blk P1
    obtain ⟨d0, d1, d2, d3, d4, d5, d6, d7, d8⟩ := Lift.blk Q1
    rw [H1.out]
    replace c0 := cell_regrown c0
    replace c1 := cell_regrown c1
    replace c2 := cell_regrown c2
    replace c3 := cell_regrown c3
    replace c4 := cell_regrown c4
    replace c5 := cell_regrown c5
    replace c6 := cell_regrown c6
    replace d0 := cell_regrown d0
    replace d1 := cell_regrown d1
    replace d2 := cell_regrown d2
    replace d3 := cell_regrown d3
    replace d4 := cell_regrown d4
    replace d5 := cell_regrown d5
    replace d6 := cell_regrown d6
    replace d7 := cell_regrown d7
    replace d8 := cell_regrown d8
    go_wp2
    refine wp_region_quiet_below (by kernel_rfl) (by kernel_rfl) ?_
    repeat (go_big_quiet_step ((go_at_call 81; exact Calls.regrown_of (HA.out _ _ _ (by assumption)))))
    refine wpQuiet_nil ?_
    intro _ hw9
    obtain ⟨⟨dq, osq⟩, hw9⟩ := hw9
    subst hw9
    have hb9 := below_regrown w1 dq osq
    dsimp only at hb9 ⊢
    clear c0 c1 c2 c3 c4 c5 c6 d0 d1 d2 d3 d4 d5 d6 d7 d8 HA P1 Q1
    generalize grow (redrawn w1 dq) osq = W2 at hb9 ⊢
    go_wp2
    go_ret3
    exact ⟨by rw [H.out.1, H.out.2.1, H.out.2.2]; rfl, B1.trans (hb9.mono B1.size)⟩
end Go.Proofs.YtencnldflnbdiaaDoor
