/- Made by merge.py of XAbles, XAbles2, XAbles3, XAbles4. -/
import Derived.Test.YtkegncanmfmmmaaDoorCranes
import Derived.Test.YtkegncanmfmmmaaDoorRoots
/- XAbles: The load of a crane at a place and for a lift: loadAtPlace, radiusTo, loadFor, liftOk, can of the program; l04Load, l09Load, l09Plain, l09Code, l09Can of the reference. -/
namespace Go.Proofs.YtkegncanmfmmmaaDoor
open Go.RowKit Go.Sort
set_option linter.unusedVariables false

theorem rt_place {ax ay bx by_ : Int} (h1 : Plc ax ay) (h2 : Plc bx by_) : 0 ≤ rt (sqD ax ay bx by_) ∧ rt (sqD ax ay bx by_) ≤ 28285 := by
  have := sqD_bd h1 h2
  exact ⟨rt_low _, rt_high (by omega) (by omega)⟩
theorem plc_of {x y : Int} (h : plcB x y = true) : Plc x y := plcB_iff h

set_option maxHeartbeats 800000 in
theorem radiusTo_any (p : Crane) (x y : Int) (w : World) (h1 : Plc p.v.ax p.v.ay) (h2 : Plc x y) :
    Calls Tryd.prog 40 #[.agg #[.string p.v.name, .int .i64 p.v.ax, .int .i64 p.v.ay, .int .i64 p.v.height, .int .i64 p.v.jib, .int .i64 p.v.back, .slice p.r.a p.r.n p.r.cap], .agg #[.int .i64 x, .int .i64 y]] w fun e w' => e = .returned (.int .i64 (rt (sqD p.v.ax p.v.ay x y))) ∧ Below w.heap.size w w' := by
  have hs := sqD_bd h1 h2
  go_enter Tryd.func40, Tryd.ntmps40
  go_wp2_with fail
  refine (square_any _ _ _ _ h1 h2 _).mono ?_
  rintro e w1 ⟨rfl, hb⟩
  go_wp2_with fail
  refine (rootUp_any _ hs.1 (by omega) _).mono ?_
  rintro e w2 ⟨rfl, rfl⟩
  go_wp2
  go_ret
  exact ⟨rfl, (((Below.refl _ _).alloc (Nat.le_refl _) _).alloc (by simp) _).trans (hb.mono (by simp; omega))⟩

/-- the load of a crane at a place, -1 for none -/
def ldP (c : CV) (x y : Int) : Int := ldI c.2 (rt (sqD c.1.ax c.1.ay x y))
theorem ldP_range {c : CV} (h : craneOk c = true) (x y : Int) : -1 ≤ ldP c x y ∧ ldP c x y ≤ 50000 := ldI_range (craneOk_parts h).chart _

theorem loadAt_eq (A : Option Addr) (n c : Nat) (xs : List ChartStep) (r : Int) (w : World) (lo : Nat) (h : Arr ChartStep.cs 2 w lo w.heap.size A n xs) (hn : n ≤ 9223372036854775807) (hok : chartOk xs = true) (hr0 : -1000000 ≤ r) (hr : r ≤ 1000000) {v b : Value} (hv : ldRet (ldI xs r) = .tuple #[v, b]) :
    Calls Tryd.prog 78 #[.slice A n c, .int .i64 r] w fun e w' => e = .returned (.tuple #[v, b]) ∧ Below w.heap.size w w' := by
  rw [← hv]; exact loadAt_any A n c xs r w lo h hn hok hr0 hr
theorem ldRet_shape (v : Int) : ∃ (a : Int) (b : Bool), ldRet v = .tuple #[.int .i64 a, .bool b] := ⟨_, _, rfl⟩

set_option maxRecDepth 100000 in
set_option maxHeartbeats 1600000 in
theorem loadAtPlace_any (p : Crane) (x y : Int) (w : World) (lo : Nat) (hr : Arr ChartStep.cs 2 w lo w.heap.size p.r.a p.r.n p.r.xs) (hn : p.r.n ≤ 9223372036854775807) (hok : craneOk p.val = true) (h2 : Plc x y) :
    Calls Tryd.prog 35 #[.agg #[.string p.v.name, .int .i64 p.v.ax, .int .i64 p.v.ay, .int .i64 p.v.height, .int .i64 p.v.jib, .int .i64 p.v.back, .slice p.r.a p.r.n p.r.cap], .agg #[.int .i64 x, .int .i64 y]] w fun e w' => e = .returned (ldRet (ldP p.val x y)) ∧ Below w.heap.size w w' := by
  have hpt := craneOk_parts hok
  have h1 : Plc p.v.ax p.v.ay := hpt.at_
  have hch : chartOk p.r.xs = true := hpt.chart
  have hs := sqD_bd h1 h2
  have hrt := rt_place h1 h2
  have HS := Lib.hid (show ∀ W, Calls Tryd.prog 80 #[.agg #[.int .i64 p.v.ax, .int .i64 p.v.ay], .agg #[.int .i64 x, .int .i64 y]] W fun e w' => e = .returned (.int .i64 (sqD p.v.ax p.v.ay x y)) ∧ Below W.heap.size W w' from fun W => square_any _ _ _ _ h1 h2 W)
  have HRT := Lib.hid (show ∀ W, Calls Tryd.prog 79 #[.int .i64 (sqD p.v.ax p.v.ay x y)] W fun e w' => e = .returned (.int .i64 (rt (sqD p.v.ax p.v.ay x y))) ∧ Below W.heap.size W w' from fun W => same_bel (rootUp_any _ hs.1 (by omega) W))
  obtain ⟨va, vb, hv⟩ := ldRet_shape (ldP p.val x y)
  obtain ⟨W, hW⟩ : ∃ W : World, W = (w.alloc (.cells #[.string p.v.name, .int .i64 p.v.ax, .int .i64 p.v.ay, .int .i64 p.v.height, .int .i64 p.v.jib, .int .i64 p.v.back, .slice p.r.a p.r.n p.r.cap] 38)).alloc (.cells #[.int .i64 x, .int .i64 y] 29) := ⟨_, rfl⟩
  have B0 : Below w.heap.size w W := by rw [hW]; exact ((Below.refl _ _).alloc (Nat.le_refl _) _).alloc (by simp) _
  have P0 : Blk W w.heap.size 38 #[.string p.v.name, .int .i64 p.v.ax, .int .i64 p.v.ay, .int .i64 p.v.height, .int .i64 p.v.jib, .int .i64 p.v.back, .slice p.r.a p.r.n p.r.cap] := by rw [hW]; exact (Blk.new _ _ _).alloc _
  have P1 : Blk W (w.heap.size + 1) 29 #[.int .i64 x, .int .i64 y] := by rw [hW]; exact Blk.new_at rfl (by simp)
  have HL := Lib.hid (show ∀ d os, Calls Tryd.prog 78 #[.slice p.r.a p.r.n p.r.cap, .int .i64 (rt (sqD p.v.ax p.v.ay x y))] (grow (redrawn W d) os) fun e w' => e = .returned (.tuple #[.int .i64 va, .bool vb]) ∧ Below (grow (redrawn W d) os).heap.size (grow (redrawn W d) os) w' from fun d os => by
    have hb9 := B0.trans ((below_regrown W d os).mono B0.size)
    exact loadAt_eq _ _ _ p.r.xs _ _ lo ((hr.below hb9).more hb9.size) hn hch (by omega) (by omega) hv)
  have c1 := cell_regrown (P0.cell 1)
  have c2 := cell_regrown (P0.cell 2)
  have c6 := cell_regrown (P0.cell 6)
  have e0 := cell_regrown (P1.cell 0)
  have e1 := cell_regrown (P1.cell 1)
  have HV := Lib.hid hv
  clear hv hs hrt hch hpt P0 P1
  go_enter Tryd.func35, Tryd.ntmps35
  go_wp2
  rw [← hW]
  clear hW
  refine wp_region_quiet_below (by kernel_rfl) (by kernel_rfl) ?_
  repeat (go_big_quiet_step (first | (go_at_call 80; exact Calls.regrown_of (HS.out _)) | (go_at_call 79; exact Calls.regrown_of (HRT.out _)) | (go_at_call 78; exact Calls.regrown_of (HL.out _ _))))
  refine wpQuiet_nil ?_
  intro _ hw9
  obtain ⟨⟨dq, osq⟩, hw9⟩ := hw9
  subst hw9
  have hb1 := below_regrown W dq osq
  dsimp only at hb1 ⊢
  clear c1 c2 c6 e0 e1 HL HS HRT
  generalize grow (redrawn W dq) osq = W2 at hb1 ⊢
  go_wp2
  go_ret2
  exact ⟨by rw [HV.out]; rfl, B0.trans (hb1.mono B0.size)⟩

set_option maxRecDepth 100000 in
set_option maxHeartbeats 1600000 in
theorem l04Load_any (b off : Nat) (p : Crane) (x y : Int) (w : World) (lo : Nat) (hr : Arr ChartStep.cs 2 w lo w.heap.size p.r.a p.r.n p.r.xs) (hn : p.r.n ≤ 9223372036854775807) (hok : craneOk p.val = true) (h2 : Plc x y) (hbl : b < w.heap.size)
    (c1 : w.cell? ⟨b, off + 1, none⟩ = some (.int .i64 p.v.ax)) (c2 : w.cell? ⟨b, off + 2, none⟩ = some (.int .i64 p.v.ay)) (c6 : w.cell? ⟨b, off + 6, none⟩ = some (.slice p.r.a p.r.n p.r.cap)) :
    Calls Tryd.prog 38 #[.pointer (some ⟨b, off, none⟩), .agg #[.int .i64 x, .int .i64 y]] w fun e w' => e = .returned (.int .i64 (ldP p.val x y)) ∧ Below w.heap.size w w' := by
  have hpt := craneOk_parts hok
  have h1 : Plc p.v.ax p.v.ay := hpt.at_
  have hch : chartOk p.r.xs = true := hpt.chart
  have hs := sqD_bd h1 h2
  have hrt := rt_place h1 h2
  have HS := Lib.hid (show ∀ W, Calls Tryd.prog 43 #[.agg #[.int .i64 p.v.ax, .int .i64 p.v.ay], .agg #[.int .i64 x, .int .i64 y]] W fun e w' => e = .returned (.int .i64 (sqD p.v.ax p.v.ay x y)) ∧ Below W.heap.size W w' from fun W => l02Square_any _ _ _ _ h1 h2 W)
  have HRT := Lib.hid (show ∀ W, Calls Tryd.prog 42 #[.int .i64 (sqD p.v.ax p.v.ay x y)] W fun e w' => e = .returned (.int .i64 (rt (sqD p.v.ax p.v.ay x y))) ∧ Below W.heap.size W w' from fun W => same_bel (l02Root_any _ hs.1 (by omega) W))
  obtain ⟨W, hW⟩ : ∃ W : World, W = w.alloc (.cells #[.int .i64 x, .int .i64 y] 29) := ⟨_, rfl⟩
  have B0 : Below w.heap.size w W := by rw [hW]; exact (Below.refl _ _).alloc (Nat.le_refl _) _
  have P1 : Blk W w.heap.size 29 #[.int .i64 x, .int .i64 y] := by rw [hW]; exact Blk.new _ _ _
  have g1 := cell_regrown ((B0.cell (p := ⟨b, off + 1, none⟩) hbl).trans c1)
  have g2 := cell_regrown ((B0.cell (p := ⟨b, off + 2, none⟩) hbl).trans c2)
  have g6 := (B0.cell (p := ⟨b, off + 6, none⟩) hbl).trans c6
  have e0 := cell_regrown (P1.cell 0)
  have e1 := cell_regrown (P1.cell 1)
  have hbW : b < W.heap.size := by have := B0.size; omega
  obtain ⟨R, hR⟩ : ∃ R, rt (sqD p.v.ax p.v.ay x y) = R := ⟨_, rfl⟩
  rw [hR] at hrt HRT
  have HR := Lib.hid hR
  have HCH := Lib.hid hch
  clear hs hch hpt P1 hR c1 c2 c6
  by_cases hbig : 1000 < R
  · have HZ : Hid (ldP p.val x y = -1) := by show _ = _; unfold ldP; simp only [Crane.val]; rw [HR.out]; exact ldI_far HCH.out hbig
    go_enter Tryd.func38, Tryd.ntmps38
    go_wp2
    rw [← hW]
    clear hW
    refine wp_region_quiet_below (by kernel_rfl) (by kernel_rfl) ?_
    repeat (go_big_quiet_step (first | (go_at_call 43; exact Calls.regrown_of (HS.out _)) | (go_at_call 42; exact Calls.regrown_of (HRT.out _))))
    refine wpQuiet_nil ?_
    intro _ hw9
    obtain ⟨⟨dq, osq⟩, hw9⟩ := hw9
    subst hw9
    have hb1 := below_regrown W dq osq
    dsimp only at hb1 ⊢
    clear g1 g2 e0 e1 HS HRT
    generalize grow (redrawn W dq) osq = W2 at hb1 ⊢
    go_wp2
    go_ret
    exact ⟨by rw [HZ.out]; rfl, B0.trans (hb1.mono B0.size)⟩
  · have HZ : Hid (ldP p.val x y = ldI p.r.xs R) := by show _ = _; unfold ldP; simp only [Crane.val]; rw [HR.out]
    have hsm : R ≤ 1000 := by omega
    clear hbig
    go_enter Tryd.func38, Tryd.ntmps38
    go_wp2
    rw [← hW]
    clear hW
    refine wp_region_quiet_below (by kernel_rfl) (by kernel_rfl) ?_
    repeat (go_big_quiet_step (first | (go_at_call 43; exact Calls.regrown_of (HS.out _)) | (go_at_call 42; exact Calls.regrown_of (HRT.out _))))
    refine wpQuiet_nil ?_
    intro _ hw9
    obtain ⟨⟨dq, osq⟩, hw9⟩ := hw9
    subst hw9
    have hb1 := below_regrown W dq osq
    dsimp only at hb1 ⊢
    clear g1 g2 e0 e1 HS HRT
    generalize grow (redrawn W dq) osq = W2 at hb1 ⊢
    have B2 := B0.trans (hb1.mono B0.size)
    replace g6 := (hb1.cell (p := ⟨b, off + 6, none⟩) hbW).trans g6
    go_wp2_with fail
    refine (quiet_bel (l03Load_any _ _ _ p.r.xs R _ lo _ ((hr.below B2).more B2.size) hn HCH.out (by omega) (by omega))).mono ?_
    rintro e w3 ⟨rfl, hb3⟩
    go_wp2
    go_ret
    exact ⟨by rw [HZ.out]; rfl, B2.trans (hb3.mono B2.size)⟩
end Go.Proofs.YtkegncanmfmmmaaDoor
/- XAbles2: The load of a crane for a lift: loadFor, liftOk, can of the program; l09Load, l09Plain, l09Code, l09Can of the reference. -/
namespace Go.Proofs.YtkegncanmfmmmaaDoor
open Go.RowKit Go.Sort
set_option linter.unusedVariables false

/-- a record of that type lies at that place -/
def CraneAt (w : World) (b off : Nat) (p : Crane) : Prop := w.cell? ⟨b, off, none⟩ = some (.string p.v.name) ∧ w.cell? ⟨b, off + 1, none⟩ = some (.int .i64 p.v.ax) ∧ w.cell? ⟨b, off + 2, none⟩ = some (.int .i64 p.v.ay) ∧ w.cell? ⟨b, off + 3, none⟩ = some (.int .i64 p.v.height) ∧ w.cell? ⟨b, off + 4, none⟩ = some (.int .i64 p.v.jib) ∧ w.cell? ⟨b, off + 5, none⟩ = some (.int .i64 p.v.back) ∧ w.cell? ⟨b, off + 6, none⟩ = some (.slice p.r.a p.r.n p.r.cap)
theorem CraneAt.below {w w' : World} {b off B : Nat} {p : Crane} (h : CraneAt w b off p) (hb : Below B w w') (hB : b < B) : CraneAt w' b off p := by
  obtain ⟨c0, c1, c2, c3, c4, c5, c6⟩ := h
  exact ⟨(hb.cell (p := ⟨b, off, none⟩) hB).trans c0, (hb.cell (p := ⟨b, off + 1, none⟩) hB).trans c1, (hb.cell (p := ⟨b, off + 2, none⟩) hB).trans c2, (hb.cell (p := ⟨b, off + 3, none⟩) hB).trans c3, (hb.cell (p := ⟨b, off + 4, none⟩) hB).trans c4, (hb.cell (p := ⟨b, off + 5, none⟩) hB).trans c5, (hb.cell (p := ⟨b, off + 6, none⟩) hB).trans c6⟩
theorem CraneAt.blk {w : World} {g : Nat} {t : TypeId} {p : Crane} (h : Blk w g t #[.string p.v.name, .int .i64 p.v.ax, .int .i64 p.v.ay, .int .i64 p.v.height, .int .i64 p.v.jib, .int .i64 p.v.back, .slice p.r.a p.r.n p.r.cap]) : CraneAt w g 0 p := ⟨h.cell 0, h.cell 1, h.cell 2, h.cell 3, h.cell 4, h.cell 5, h.cell 6⟩
/-- a record of that type lies at that place -/
def LiftAt (w : World) (b off : Nat) (l : Lift) : Prop := w.cell? ⟨b, off, none⟩ = some (.string l.v.name) ∧ w.cell? ⟨b, off + 1, none⟩ = some (.int .i64 l.v.weight) ∧ w.cell? ⟨b, off + 2, none⟩ = some (.int .i64 l.v.fx) ∧ w.cell? ⟨b, off + 3, none⟩ = some (.int .i64 l.v.fy) ∧ w.cell? ⟨b, off + 4, none⟩ = some (.int .i64 l.v.tx) ∧ w.cell? ⟨b, off + 5, none⟩ = some (.int .i64 l.v.ty) ∧ w.cell? ⟨b, off + 6, none⟩ = some (.int .i64 l.v.height) ∧ w.cell? ⟨b, off + 7, none⟩ = some (.int .i64 l.v.deadline) ∧ w.cell? ⟨b, off + 8, none⟩ = some (.slice l.r.a l.r.n l.r.cap)
theorem LiftAt.below {w w' : World} {b off B : Nat} {l : Lift} (h : LiftAt w b off l) (hb : Below B w w') (hB : b < B) : LiftAt w' b off l := by
  obtain ⟨c0, c1, c2, c3, c4, c5, c6, c7, c8⟩ := h
  exact ⟨(hb.cell (p := ⟨b, off, none⟩) hB).trans c0, (hb.cell (p := ⟨b, off + 1, none⟩) hB).trans c1, (hb.cell (p := ⟨b, off + 2, none⟩) hB).trans c2, (hb.cell (p := ⟨b, off + 3, none⟩) hB).trans c3, (hb.cell (p := ⟨b, off + 4, none⟩) hB).trans c4, (hb.cell (p := ⟨b, off + 5, none⟩) hB).trans c5, (hb.cell (p := ⟨b, off + 6, none⟩) hB).trans c6, (hb.cell (p := ⟨b, off + 7, none⟩) hB).trans c7, (hb.cell (p := ⟨b, off + 8, none⟩) hB).trans c8⟩
theorem LiftAt.blk {w : World} {g : Nat} {t : TypeId} {l : Lift} (h : Blk w g t #[.string l.v.name, .int .i64 l.v.weight, .int .i64 l.v.fx, .int .i64 l.v.fy, .int .i64 l.v.tx, .int .i64 l.v.ty, .int .i64 l.v.height, .int .i64 l.v.deadline, .slice l.r.a l.r.n l.r.cap]) : LiftAt w g 0 l := ⟨h.cell 0, h.cell 1, h.cell 2, h.cell 3, h.cell 4, h.cell 5, h.cell 6, h.cell 7, h.cell 8⟩

/-- the load of a crane for a lift, -1 for none -/
def ldF (c : CV) (v : LiftV) : Int := if ldP c v.fx v.fy < ldP c v.tx v.ty then ldP c v.fx v.fy else ldP c v.tx v.ty
theorem ldF_range {c : CV} (h : craneOk c = true) (v : LiftV) : -1 ≤ ldF c v ∧ ldF c v ≤ 50000 := by
  have h1 := ldP_range h v.fx v.fy; have h2 := ldP_range h v.tx v.ty
  unfold ldF; split <;> omega
theorem ret2_int {x y : Int} {v : Value} (h : x = y) : Ending.returned (.tuple #[.int .i64 x, v]) = .returned (.tuple #[.int .i64 y, v]) := by rw [h]
theorem PlainV.fp {v : LiftV} (h : PlainV v) : Plc v.fx v.fy := ⟨h.fx, h.fy⟩
theorem PlainV.tp {v : LiftV} (h : PlainV v) : Plc v.tx v.ty := ⟨h.tx, h.ty⟩

end Go.Proofs.YtkegncanmfmmmaaDoor
/- XAbles3: Cranes and lifts: liftOk, can, LiftRadii, LiftMargin, CanLift, UsedPercent of the program. -/
namespace Go.Proofs.YtkegncanmfmmmaaDoor
open Go.RowKit Go.Sort
set_option linter.unusedVariables false

def okB (c : CV) (v : LiftV) : Bool := craneOk c && plainB v
def ableB (c : CV) (v : LiftV) : Bool := decide (v.weight ≤ ldF c v) && decide (v.height + 30 ≤ c.1.height)
theorem okB_parts {c : CV} {v : LiftV} (h : okB c v = true) : craneOk c = true ∧ plainB v = true := by unfold okB at h; rwa [Bool.and_eq_true] at h
theorem PlainV.ne {c : CV} {v : LiftV} (h : PlainV v) (h2 : ldF c v < 0) : ableB c v = false := by
  have := h.weight
  unfold ableB; rw [decide_eq_false (by omega)]; rfl

set_option maxRecDepth 100000 in
set_option maxHeartbeats 1600000 in
theorem liftOk_any (p : Crane) (l : Lift) (w : World) (lo lo2 : Nat) (hr : Arr ChartStep.cs 2 w lo w.heap.size p.r.a p.r.n p.r.xs) (hn : p.r.n ≤ 9223372036854775807) (hp : p.v.name.size ≤ 9223372036854775807) (hq : l.v.name.size ≤ 9223372036854775807) :
    Calls Tryd.prog 39 #[.agg #[.string p.v.name, .int .i64 p.v.ax, .int .i64 p.v.ay, .int .i64 p.v.height, .int .i64 p.v.jib, .int .i64 p.v.back, .slice p.r.a p.r.n p.r.cap], .agg #[.string l.v.name, .int .i64 l.v.weight, .int .i64 l.v.fx, .int .i64 l.v.fy, .int .i64 l.v.tx, .int .i64 l.v.ty, .int .i64 l.v.height, .int .i64 l.v.deadline, .slice l.r.a l.r.n l.r.cap]] w fun e w' => e = .returned (.bool (okB p.val l.v)) ∧ Below w.heap.size w w' := by
  obtain ⟨W, hW⟩ : ∃ W : World, W = (w.alloc (.cells #[.string p.v.name, .int .i64 p.v.ax, .int .i64 p.v.ay, .int .i64 p.v.height, .int .i64 p.v.jib, .int .i64 p.v.back, .slice p.r.a p.r.n p.r.cap] 38)).alloc (.cells #[.string l.v.name, .int .i64 l.v.weight, .int .i64 l.v.fx, .int .i64 l.v.fy, .int .i64 l.v.tx, .int .i64 l.v.ty, .int .i64 l.v.height, .int .i64 l.v.deadline, .slice l.r.a l.r.n l.r.cap] 41) := ⟨_, rfl⟩
  have B0 : Below w.heap.size w W := by rw [hW]; exact ((Below.refl _ _).alloc (Nat.le_refl _) _).alloc (by simp) _
  have P0 : Blk W w.heap.size 38 #[.string p.v.name, .int .i64 p.v.ax, .int .i64 p.v.ay, .int .i64 p.v.height, .int .i64 p.v.jib, .int .i64 p.v.back, .slice p.r.a p.r.n p.r.cap] := by rw [hW]; exact (Blk.new _ _ _).alloc _
  have Q0 : Blk W (w.heap.size + 1) 41 #[.string l.v.name, .int .i64 l.v.weight, .int .i64 l.v.fx, .int .i64 l.v.fy, .int .i64 l.v.tx, .int .i64 l.v.ty, .int .i64 l.v.height, .int .i64 l.v.deadline, .slice l.r.a l.r.n l.r.cap] := by rw [hW]; exact Blk.new_at rfl (by simp)
  cases h1 : craneOk p.val
  · have H1 := Lib.hid h1
    have H : Hid (okB p.val l.v = false) := by show _ = _; unfold okB; rw [h1]; rfl
    clear h1
    go_enter Tryd.func39, Tryd.ntmps39
    go_wp2_with fail
    rw [← hW]
    clear hW
    obtain ⟨c0, c1, c2, c3, c4, c5, c6⟩ := Crane.blk P0
    obtain ⟨d0, d1, d2, d3, d4, d5, d6, d7, d8⟩ := Lift.blk Q0
    go_wp2_with fail
    refine (validCrane_any p _ lo hp ((hr.below B0).more B0.size) hn).mono ?_
    rintro e w1 ⟨rfl, hb1⟩
    have B1 := B0.trans (hb1.mono B0.size)
    have P1 := P0.bel hb1
    have Q1 := Q0.bel hb1
    clear c0 c1 c2 c3 c4 c5 c6 d0 d1 d2 d3 d4 d5 d6 d7 d8 P0 Q0 hb1
    obtain ⟨c0, c1, c2, c3, c4, c5, c6⟩ := Crane.blk P1
    obtain ⟨d0, d1, d2, d3, d4, d5, d6, d7, d8⟩ := Lift.blk Q1
    rw [H1.out]
    go_wp2
    go_ret
    exact ⟨by rw [H.out]; rfl, B1⟩
  · have H1 := Lib.hid h1
    have H : Hid (okB p.val l.v = plainB l.v) := by show _ = _; unfold okB; rw [h1]; rfl
    clear h1
    go_enter Tryd.func39, Tryd.ntmps39
    go_wp2_with fail
    rw [← hW]
    clear hW
    obtain ⟨c0, c1, c2, c3, c4, c5, c6⟩ := Crane.blk P0
    obtain ⟨d0, d1, d2, d3, d4, d5, d6, d7, d8⟩ := Lift.blk Q0
    go_wp2_with fail
    refine (validCrane_any p _ lo hp ((hr.below B0).more B0.size) hn).mono ?_
    rintro e w1 ⟨rfl, hb1⟩
    have B1 := B0.trans (hb1.mono B0.size)
    have P1 := P0.bel hb1
    have Q1 := Q0.bel hb1
    clear c0 c1 c2 c3 c4 c5 c6 d0 d1 d2 d3 d4 d5 d6 d7 d8 P0 Q0 hb1
    obtain ⟨c0, c1, c2, c3, c4, c5, c6⟩ := Crane.blk P1
    obtain ⟨d0, d1, d2, d3, d4, d5, d6, d7, d8⟩ := Lift.blk Q1
    rw [H1.out]
    go_wp2_with fail
    refine (plain_any l _ hq).mono ?_
    rintro e w2 ⟨rfl, hb2⟩
    have B2 := B1.trans (hb2.mono B1.size)
    have P2 := P1.bel hb2
    have Q2 := Q1.bel hb2
    clear c0 c1 c2 c3 c4 c5 c6 d0 d1 d2 d3 d4 d5 d6 d7 d8 P1 Q1 hb2
    obtain ⟨c0, c1, c2, c3, c4, c5, c6⟩ := Crane.blk P2
    obtain ⟨d0, d1, d2, d3, d4, d5, d6, d7, d8⟩ := Lift.blk Q2
    go_wp2
    go_ret
    exact ⟨by rw [H.out]; rfl, B2⟩
def mgVal (c : CV) (v : LiftV) : Int := if okB c v then (if ldF c v < 0 then 0 else ldF c v - v.weight) else 0
def mgCode (c : CV) (v : LiftV) : Int := if okB c v then (if ldF c v < 0 then 3 else 0) else 1
theorem mg_1 {c : CV} {v : LiftV} (h : okB c v = false) : mgVal c v = 0 ∧ mgCode c v = 1 := by unfold mgVal mgCode; rw [h]; exact ⟨rfl, rfl⟩
theorem mg_3 {c : CV} {v : LiftV} (h : okB c v = true) (h2 : ldF c v < 0) : mgVal c v = 0 ∧ mgCode c v = 3 := by unfold mgVal mgCode; rw [h, if_pos h2, if_pos h2]; exact ⟨rfl, rfl⟩
theorem mg_0 {c : CV} {v : LiftV} (h : okB c v = true) (h2 : ¬ ldF c v < 0) : mgVal c v = ldF c v - v.weight ∧ mgCode c v = 0 := by unfold mgVal mgCode; rw [h, if_neg h2, if_neg h2]; exact ⟨rfl, rfl⟩

def upVal (c : CV) (v : LiftV) : Int := if okB c v then (if ldF c v < 0 then 0 else if ldF c v = 0 then 0 else cdiv (100 * v.weight) (ldF c v)) else 0
def upCode (c : CV) (v : LiftV) : Int := if okB c v then (if ldF c v < 0 then 3 else if ldF c v = 0 then 6 else 0) else 1
theorem up_1 {c : CV} {v : LiftV} (h : okB c v = false) : upVal c v = 0 ∧ upCode c v = 1 := by unfold upVal upCode; rw [h]; exact ⟨rfl, rfl⟩
theorem up_3 {c : CV} {v : LiftV} (h : okB c v = true) (h2 : ldF c v < 0) : upVal c v = 0 ∧ upCode c v = 3 := by unfold upVal upCode; rw [h, if_pos h2, if_pos h2]; exact ⟨rfl, rfl⟩
theorem up_6 {c : CV} {v : LiftV} (h : okB c v = true) (h2 : ldF c v = 0) : upVal c v = 0 ∧ upCode c v = 6 := by unfold upVal upCode; rw [h, h2]; exact ⟨rfl, rfl⟩
theorem up_0 {c : CV} {v : LiftV} (h : okB c v = true) (h2 : ¬ ldF c v < 0) (h3 : ¬ ldF c v = 0) : upVal c v = cdiv (100 * v.weight) (ldF c v) ∧ upCode c v = 0 := by unfold upVal upCode; rw [h, if_neg h2, if_neg h2, if_neg h3, if_neg h3]; exact ⟨rfl, rfl⟩

def lrA (c : CV) (v : LiftV) : Int := if okB c v then rt (sqD c.1.ax c.1.ay v.fx v.fy) else 0
def lrB (c : CV) (v : LiftV) : Int := if okB c v then rt (sqD c.1.ax c.1.ay v.tx v.ty) else 0
def lrCode (c : CV) (v : LiftV) : Int := if okB c v then 0 else 1
theorem lr_1 {c : CV} {v : LiftV} (h : okB c v = false) : lrA c v = 0 ∧ lrB c v = 0 ∧ lrCode c v = 1 := by unfold lrA lrB lrCode; rw [h]; exact ⟨rfl, rfl, rfl⟩
theorem lr_0 {c : CV} {v : LiftV} (h : okB c v = true) : lrA c v = rt (sqD c.1.ax c.1.ay v.fx v.fy) ∧ lrB c v = rt (sqD c.1.ax c.1.ay v.tx v.ty) ∧ lrCode c v = 0 := by unfold lrA lrB lrCode; rw [h]; exact ⟨rfl, rfl, rfl⟩

set_option maxRecDepth 100000 in
set_option maxHeartbeats 1600000 in
theorem liftRadii_any (p : Crane) (l : Lift) (w : World) (lo lo2 : Nat) (hr : Arr ChartStep.cs 2 w lo w.heap.size p.r.a p.r.n p.r.xs) (hn : p.r.n ≤ 9223372036854775807) (hp : p.v.name.size ≤ 9223372036854775807) (hq : l.v.name.size ≤ 9223372036854775807) :
    Calls Tryd.prog 12 #[.agg #[.string p.v.name, .int .i64 p.v.ax, .int .i64 p.v.ay, .int .i64 p.v.height, .int .i64 p.v.jib, .int .i64 p.v.back, .slice p.r.a p.r.n p.r.cap], .agg #[.string l.v.name, .int .i64 l.v.weight, .int .i64 l.v.fx, .int .i64 l.v.fy, .int .i64 l.v.tx, .int .i64 l.v.ty, .int .i64 l.v.height, .int .i64 l.v.deadline, .slice l.r.a l.r.n l.r.cap]] w fun e w' => e = .returned (.tuple #[.int .i64 (lrA p.val l.v), .int .i64 (lrB p.val l.v), .int .i64 (lrCode p.val l.v)]) ∧ Below w.heap.size w w' := by
  obtain ⟨W, hW⟩ : ∃ W : World, W = (w.alloc (.cells #[.string p.v.name, .int .i64 p.v.ax, .int .i64 p.v.ay, .int .i64 p.v.height, .int .i64 p.v.jib, .int .i64 p.v.back, .slice p.r.a p.r.n p.r.cap] 38)).alloc (.cells #[.string l.v.name, .int .i64 l.v.weight, .int .i64 l.v.fx, .int .i64 l.v.fy, .int .i64 l.v.tx, .int .i64 l.v.ty, .int .i64 l.v.height, .int .i64 l.v.deadline, .slice l.r.a l.r.n l.r.cap] 41) := ⟨_, rfl⟩
  have B0 : Below w.heap.size w W := by rw [hW]; exact ((Below.refl _ _).alloc (Nat.le_refl _) _).alloc (by simp) _
  have P0 : Blk W w.heap.size 38 #[.string p.v.name, .int .i64 p.v.ax, .int .i64 p.v.ay, .int .i64 p.v.height, .int .i64 p.v.jib, .int .i64 p.v.back, .slice p.r.a p.r.n p.r.cap] := by rw [hW]; exact (Blk.new _ _ _).alloc _
  have Q0 : Blk W (w.heap.size + 1) 41 #[.string l.v.name, .int .i64 l.v.weight, .int .i64 l.v.fx, .int .i64 l.v.fy, .int .i64 l.v.tx, .int .i64 l.v.ty, .int .i64 l.v.height, .int .i64 l.v.deadline, .slice l.r.a l.r.n l.r.cap] := by rw [hW]; exact Blk.new_at rfl (by simp)
  cases h1 : okB p.val l.v
  · have H1 := Lib.hid h1
    have H := Lib.hid (lr_1 h1)
    clear h1
    go_enter Tryd.func12, Tryd.ntmps12
    go_wp2_with fail
    rw [← hW]
    clear hW
    obtain ⟨c0, c1, c2, c3, c4, c5, c6⟩ := Crane.blk P0
    obtain ⟨d0, d1, d2, d3, d4, d5, d6, d7, d8⟩ := Lift.blk Q0
    go_wp2_with fail
    refine (liftOk_any p l _ lo lo2 ((hr.below B0).more B0.size) hn hp hq).mono ?_
    rintro e w1 ⟨rfl, hb1⟩
    have B1 := B0.trans (hb1.mono B0.size)
    have P1 := P0.bel hb1
    have Q1 := Q0.bel hb1
    clear c0 c1 c2 c3 c4 c5 c6 d0 d1 d2 d3 d4 d5 d6 d7 d8 P0 Q0 hb1
    obtain ⟨c0, c1, c2, c3, c4, c5, c6⟩ := Crane.blk P1
    obtain ⟨d0, d1, d2, d3, d4, d5, d6, d7, d8⟩ := Lift.blk Q1
    rw [H1.out]
    go_wp2
    go_ret3
    exact ⟨by rw [H.out.1, H.out.2.1, H.out.2.2]; rfl, B1⟩
  · have H1 := Lib.hid h1
    have H := Lib.hid (lr_0 h1)
    obtain ⟨hok, hpl⟩ := okB_parts h1
    have hpt : Plc p.v.ax p.v.ay := (craneOk_parts hok).at_
    have hP := plainB_parts hpl
    have pA := hP.fp
    have pB := hP.tp
    have HA := Lib.hid (show ∀ x y W', Plc x y → Calls Tryd.prog 40 #[.agg #[.string p.v.name, .int .i64 p.v.ax, .int .i64 p.v.ay, .int .i64 p.v.height, .int .i64 p.v.jib, .int .i64 p.v.back, .slice p.r.a p.r.n p.r.cap], .agg #[.int .i64 x, .int .i64 y]] W' fun e w' => e = .returned (.int .i64 (rt (sqD p.v.ax p.v.ay x y))) ∧ Below W'.heap.size W' w' from fun x y W' h => radiusTo_any p _ _ W' hpt h)
    clear h1 hok hpl hpt hP
    go_enter Tryd.func12, Tryd.ntmps12
    go_wp2_with fail
    rw [← hW]
    clear hW
    obtain ⟨c0, c1, c2, c3, c4, c5, c6⟩ := Crane.blk P0
    obtain ⟨d0, d1, d2, d3, d4, d5, d6, d7, d8⟩ := Lift.blk Q0
    go_wp2_with fail
    refine (liftOk_any p l _ lo lo2 ((hr.below B0).more B0.size) hn hp hq).mono ?_
    rintro e w1 ⟨rfl, hb1⟩
    have B1 := B0.trans (hb1.mono B0.size)
    have P1 := P0.bel hb1
    have Q1 := Q0.bel hb1
    clear c0 c1 c2 c3 c4 c5 c6 d0 d1 d2 d3 d4 d5 d6 d7 d8 P0 Q0 hb1
    obtain ⟨c0, c1, c2, c3, c4, c5, c6⟩ := Crane.blk P1
    obtain ⟨d0, d1, d2, d3, d4, d5, d6, d7, d8⟩ := Lift.blk Q1
    rw [H1.out]
    replace c0 := cell_regrown c0
    replace c1 := cell_regrown c1
    replace c2 := cell_regrown c2
    replace c3 := cell_regrown c3
    replace c4 := cell_regrown c4
    replace c5 := cell_regrown c5
    replace c6 := cell_regrown c6
    replace d0 := cell_regrown d0
    replace d1 := cell_regrown d1
    replace d2 := cell_regrown d2
    replace d3 := cell_regrown d3
    replace d4 := cell_regrown d4
    replace d5 := cell_regrown d5
    replace d6 := cell_regrown d6
    replace d7 := cell_regrown d7
    replace d8 := cell_regrown d8
    go_wp2
    refine wp_region_quiet_below (by kernel_rfl) (by kernel_rfl) ?_
    repeat (go_big_quiet_step ((go_at_call 40; exact Calls.regrown_of (HA.out _ _ _ (by assumption)))))
    refine wpQuiet_nil ?_
    intro _ hw9
    obtain ⟨⟨dq, osq⟩, hw9⟩ := hw9
    subst hw9
    have hb9 := below_regrown w1 dq osq
    dsimp only at hb9 ⊢
    clear c0 c1 c2 c3 c4 c5 c6 d0 d1 d2 d3 d4 d5 d6 d7 d8 HA P1 Q1
    generalize grow (redrawn w1 dq) osq = W2 at hb9 ⊢
    go_wp2
    go_ret3
    exact ⟨by rw [H.out.1, H.out.2.1, H.out.2.2]; rfl, B1.trans (hb9.mono B1.size)⟩
end Go.Proofs.YtkegncanmfmmmaaDoor
/- XAbles4: Cranes and lifts: l09Plain, l09Code, l09Load, l09Can, LiftRadii, LiftMargin, CanLift, UsedPercent of the reference. -/
namespace Go.Proofs.YtkegncanmfmmmaaDoor
open Go.RowKit Go.Sort
set_option linter.unusedVariables false

theorem oneB_nil (v : LiftV) : oneB v [] 0 = plainB v := by unfold oneB; rw [show risesB [] 0 = true from rfl, Bool.and_true]
theorem l00Min_any (a b : Int) (w : World) : Calls Tryd.prog 147 #[.int .i64 a, .int .i64 b] w fun e w' => e = .returned (.int .i64 (if a < b then a else b)) ∧ w = w' := by
  by_cases h : a < b
  · rw [if_pos h]
    go_enter Tryd.func147, Tryd.ntmps147
    go_wp2
    go_ret
    exact ⟨rfl, rfl⟩
  · rw [if_neg h]
    go_enter Tryd.func147, Tryd.ntmps147
    go_wp2
    go_ret
    exact ⟨rfl, rfl⟩

end Go.Proofs.YtkegncanmfmmmaaDoor
