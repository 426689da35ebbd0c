/- The load of a crane at a place and for a lift: loadAtPlace, radiusTo, loadFor, liftOk, can of the program; l04Load, l09Load, l09Plain, l09Code, l09Can of the reference. -/
import Derived.Test.YtencnldflnbdiaaDoorCranes
import Derived.Test.YtencnldflnbdiaaDoorRoots
namespace Go.Proofs.YtencnldflnbdiaaDoor
open Go.RowKit Go.Sort
set_option linter.unusedVariables false

theorem rt_place {ax ay bx by_ : Int} (h1 : Plc ax ay) (h2 : Plc bx by_) : 0 ≤ rt (sqD ax ay bx by_) ∧ rt (sqD ax ay bx by_) ≤ 28285 := by
  have := sqD_bd h1 h2
  exact ⟨rt_low _, rt_high (by omega) (by omega)⟩
theorem plc_of {x y : Int} (h : plcB x y = true) : Plc x y := plcB_iff h

set_option maxHeartbeats 800000 in
theorem radiusTo_any (p : Crane) (x y : Int) (w : World) (h1 : Plc p.v.ax p.v.ay) (h2 : Plc x y) :
    Calls Tryd.prog 81 #[.agg #[.string p.v.name, .int .i64 p.v.ax, .int .i64 p.v.ay, .int .i64 p.v.height, .int .i64 p.v.jib, .int .i64 p.v.back, .slice p.r.a p.r.n p.r.cap], .agg #[.int .i64 x, .int .i64 y]] w fun e w' => e = .returned (.int .i64 (rt (sqD p.v.ax p.v.ay x y))) ∧ Below w.heap.size w w' := by
  have hs := sqD_bd h1 h2
  go_enter Tryd.func81, Tryd.ntmps81
  go_wp2_with fail
  refine (square_any _ _ _ _ h1 h2 _).mono ?_
  rintro e w1 ⟨rfl, hb⟩
  go_wp2_with fail
  refine (rootUp_any _ hs.1 (by omega) _).mono ?_
  rintro e w2 ⟨rfl, rfl⟩
  go_wp2
  go_ret
  exact ⟨rfl, (((Below.refl _ _).alloc (Nat.le_refl _) _).alloc (by simp) _).trans (hb.mono (by simp; omega))⟩

/-- the load of a crane at a place, -1 for none -/
def ldP (c : CV) (x y : Int) : Int := ldI c.2 (rt (sqD c.1.ax c.1.ay x y))
theorem ldP_range {c : CV} (h : craneOk c = true) (x y : Int) : -1 ≤ ldP c x y ∧ ldP c x y ≤ 50000 := ldI_range (craneOk_parts h).chart _

theorem loadAt_eq (A : Option Addr) (n c : Nat) (xs : List ChartStep) (r : Int) (w : World) (lo : Nat) (h : Arr ChartStep.cs 2 w lo w.heap.size A n xs) (hn : n ≤ 9223372036854775807) (hok : chartOk xs = true) (hr0 : -1000000 ≤ r) (hr : r ≤ 1000000) {v b : Value} (hv : ldRet (ldI xs r) = .tuple #[v, b]) :
    Calls Tryd.prog 137 #[.slice A n c, .int .i64 r] w fun e w' => e = .returned (.tuple #[v, b]) ∧ Below w.heap.size w w' := by
  rw [← hv]; exact loadAt_any A n c xs r w lo h hn hok hr0 hr
theorem ldRet_shape (v : Int) : ∃ (a : Int) (b : Bool), ldRet v = .tuple #[.int .i64 a, .bool b] := ⟨_, _, rfl⟩

set_option maxRecDepth 100000 in
set_option maxHeartbeats 1600000 in
theorem loadAtPlace_any (p : Crane) (x y : Int) (w : World) (lo : Nat) (hr : Arr ChartStep.cs 2 w lo w.heap.size p.r.a p.r.n p.r.xs) (hn : p.r.n ≤ 9223372036854775807) (hok : craneOk p.val = true) (h2 : Plc x y) :
    Calls Tryd.prog 77 #[.agg #[.string p.v.name, .int .i64 p.v.ax, .int .i64 p.v.ay, .int .i64 p.v.height, .int .i64 p.v.jib, .int .i64 p.v.back, .slice p.r.a p.r.n p.r.cap], .agg #[.int .i64 x, .int .i64 y]] w fun e w' => e = .returned (ldRet (ldP p.val x y)) ∧ Below w.heap.size w w' := by
  have hpt := craneOk_parts hok
  have h1 : Plc p.v.ax p.v.ay := hpt.at_
  have hch : chartOk p.r.xs = true := hpt.chart
  have hs := sqD_bd h1 h2
  have hrt := rt_place h1 h2
  have HS := Lib.hid (show ∀ W, Calls Tryd.prog 123 #[.agg #[.int .i64 p.v.ax, .int .i64 p.v.ay], .agg #[.int .i64 x, .int .i64 y]] W fun e w' => e = .returned (.int .i64 (sqD p.v.ax p.v.ay x y)) ∧ Below W.heap.size W w' from fun W => square_any _ _ _ _ h1 h2 W)
  have HRT := Lib.hid (show ∀ W, Calls Tryd.prog 138 #[.int .i64 (sqD p.v.ax p.v.ay x y)] W fun e w' => e = .returned (.int .i64 (rt (sqD p.v.ax p.v.ay x y))) ∧ Below W.heap.size W w' from fun W => same_bel (rootUp_any _ hs.1 (by omega) W))
  obtain ⟨va, vb, hv⟩ := ldRet_shape (ldP p.val x y)
  obtain ⟨W, hW⟩ : ∃ W : World, W = (w.alloc (.cells #[.string p.v.name, .int .i64 p.v.ax, .int .i64 p.v.ay, .int .i64 p.v.height, .int .i64 p.v.jib, .int .i64 p.v.back, .slice p.r.a p.r.n p.r.cap] 56)).alloc (.cells #[.int .i64 x, .int .i64 y] 25) := ⟨_, rfl⟩
  have B0 : Below w.heap.size w W := by rw [hW]; exact ((Below.refl _ _).alloc (Nat.le_refl _) _).alloc (by simp) _
  have P0 : Blk W w.heap.size 56 #[.string p.v.name, .int .i64 p.v.ax, .int .i64 p.v.ay, .int .i64 p.v.height, .int .i64 p.v.jib, .int .i64 p.v.back, .slice p.r.a p.r.n p.r.cap] := by rw [hW]; exact (Blk.new _ _ _).alloc _
  have P1 : Blk W (w.heap.size + 1) 25 #[.int .i64 x, .int .i64 y] := by rw [hW]; exact Blk.new_at rfl (by simp)
  have HL := Lib.hid (show ∀ d os, Calls Tryd.prog 137 #[.slice p.r.a p.r.n p.r.cap, .int .i64 (rt (sqD p.v.ax p.v.ay x y))] (grow (redrawn W d) os) fun e w' => e = .returned (.tuple #[.int .i64 va, .bool vb]) ∧ Below (grow (redrawn W d) os).heap.size (grow (redrawn W d) os) w' from fun d os => by
    have hb9 := B0.trans ((below_regrown W d os).mono B0.size)
    exact loadAt_eq _ _ _ p.r.xs _ _ lo ((hr.below hb9).more hb9.size) hn hch (by omega) (by omega) hv)
  have c1 := cell_regrown (P0.cell 1)
  have c2 := cell_regrown (P0.cell 2)
  have c6 := cell_regrown (P0.cell 6)
  have e0 := cell_regrown (P1.cell 0)
  have e1 := cell_regrown (P1.cell 1)
  have HV := Lib.hid hv
  clear hv hs hrt hch hpt P0 P1
  go_enter Tryd.func77, Tryd.ntmps77
  go_wp2
  rw [← hW]
  clear hW
  refine wp_region_quiet_below (by kernel_rfl) (by kernel_rfl) ?_
  repeat (go_big_quiet_step (first | (go_at_call 123; exact Calls.regrown_of (HS.out _)) | (go_at_call 138; exact Calls.regrown_of (HRT.out _)) | (go_at_call 137; exact Calls.regrown_of (HL.out _ _))))
  refine wpQuiet_nil ?_
  intro _ hw9
  obtain ⟨⟨dq, osq⟩, hw9⟩ := hw9
  subst hw9
  have hb1 := below_regrown W dq osq
  dsimp only at hb1 ⊢
  clear c1 c2 c6 e0 e1 HL HS HRT
  generalize grow (redrawn W dq) osq = W2 at hb1 ⊢
  go_wp2
  go_ret2
  exact ⟨by rw [HV.out]; rfl, B0.trans (hb1.mono B0.size)⟩

set_option maxRecDepth 100000 in
set_option maxHeartbeats 1600000 in
theorem l04Load_any (b off : Nat) (p : Crane) (x y : Int) (w : World) (lo : Nat) (hr : Arr ChartStep.cs 2 w lo w.heap.size p.r.a p.r.n p.r.xs) (hn : p.r.n ≤ 9223372036854775807) (hok : craneOk p.val = true) (h2 : Plc x y) (hbl : b < w.heap.size)
    (c1 : w.cell? ⟨b, off + 1, none⟩ = some (.int .i64 p.v.ax)) (c2 : w.cell? ⟨b, off + 2, none⟩ = some (.int .i64 p.v.ay)) (c6 : w.cell? ⟨b, off + 6, none⟩ = some (.slice p.r.a p.r.n p.r.cap)) :
    Calls Tryd.prog 79 #[.pointer (some ⟨b, off, none⟩), .agg #[.int .i64 x, .int .i64 y]] w fun e w' => e = .returned (.int .i64 (ldP p.val x y)) ∧ Below w.heap.size w w' := by
  have hpt := craneOk_parts hok
  have h1 : Plc p.v.ax p.v.ay := hpt.at_
  have hch : chartOk p.r.xs = true := hpt.chart
  have hs := sqD_bd h1 h2
  have hrt := rt_place h1 h2
  have HS := Lib.hid (show ∀ W, Calls Tryd.prog 67 #[.agg #[.int .i64 p.v.ax, .int .i64 p.v.ay], .agg #[.int .i64 x, .int .i64 y]] W fun e w' => e = .returned (.int .i64 (sqD p.v.ax p.v.ay x y)) ∧ Below W.heap.size W w' from fun W => l02Square_any _ _ _ _ h1 h2 W)
  have HRT := Lib.hid (show ∀ W, Calls Tryd.prog 83 #[.int .i64 (sqD p.v.ax p.v.ay x y)] W fun e w' => e = .returned (.int .i64 (rt (sqD p.v.ax p.v.ay x y))) ∧ Below W.heap.size W w' from fun W => same_bel (l02Root_any _ hs.1 (by omega) W))
  obtain ⟨W, hW⟩ : ∃ W : World, W = w.alloc (.cells #[.int .i64 x, .int .i64 y] 25) := ⟨_, rfl⟩
  have B0 : Below w.heap.size w W := by rw [hW]; exact (Below.refl _ _).alloc (Nat.le_refl _) _
  have P1 : Blk W w.heap.size 25 #[.int .i64 x, .int .i64 y] := by rw [hW]; exact Blk.new _ _ _
  have g1 := cell_regrown ((B0.cell (p := ⟨b, off + 1, none⟩) hbl).trans c1)
  have g2 := cell_regrown ((B0.cell (p := ⟨b, off + 2, none⟩) hbl).trans c2)
  have g6 := (B0.cell (p := ⟨b, off + 6, none⟩) hbl).trans c6
  have e0 := cell_regrown (P1.cell 0)
  have e1 := cell_regrown (P1.cell 1)
  have hbW : b < W.heap.size := by have := B0.size; omega
  obtain ⟨R, hR⟩ : ∃ R, rt (sqD p.v.ax p.v.ay x y) = R := ⟨_, rfl⟩
  rw [hR] at hrt HRT
  have HR := Lib.hid hR
  have HCH := Lib.hid hch
  clear hs hch hpt P1 hR c1 c2 c6
  by_cases hbig : 1000 < R
  · have HZ : Hid (ldP p.val x y = -1) := by show _ = _; unfold ldP; simp only [Crane.val]; rw [HR.out]; exact ldI_far HCH.out hbig
    go_enter Tryd.func79, Tryd.ntmps79
    go_wp2
    rw [← hW]
    clear hW
    refine wp_region_quiet_below (by kernel_rfl) (by kernel_rfl) ?_
    repeat (go_big_quiet_step (first | (go_at_call 67; exact Calls.regrown_of (HS.out _)) | (go_at_call 83; exact Calls.regrown_of (HRT.out _))))
    refine wpQuiet_nil ?_
    intro _ hw9
    obtain ⟨⟨dq, osq⟩, hw9⟩ := hw9
    subst hw9
    have hb1 := below_regrown W dq osq
    dsimp only at hb1 ⊢
    clear g1 g2 e0 e1 HS HRT
    generalize grow (redrawn W dq) osq = W2 at hb1 ⊢
    go_wp2
    go_ret
    exact ⟨by rw [HZ.out]; rfl, B0.trans (hb1.mono B0.size)⟩
  · have HZ : Hid (ldP p.val x y = ldI p.r.xs R) := by show _ = _; unfold ldP; simp only [Crane.val]; rw [HR.out]
    have hsm : R ≤ 1000 := by omega
    clear hbig
    go_enter Tryd.func79, Tryd.ntmps79
    go_wp2
    rw [← hW]
    clear hW
    refine wp_region_quiet_below (by kernel_rfl) (by kernel_rfl) ?_
    repeat (go_big_quiet_step (first | (go_at_call 67; exact Calls.regrown_of (HS.out _)) | (go_at_call 83; exact Calls.regrown_of (HRT.out _))))
    refine wpQuiet_nil ?_
    intro _ hw9
    obtain ⟨⟨dq, osq⟩, hw9⟩ := hw9
    subst hw9
    have hb1 := below_regrown W dq osq
    dsimp only at hb1 ⊢
    clear g1 g2 e0 e1 HS HRT
    generalize grow (redrawn W dq) osq = W2 at hb1 ⊢
    have B2 := B0.trans (hb1.mono B0.size)
    replace g6 := (hb1.cell (p := ⟨b, off + 6, none⟩) hbW).trans g6
    go_wp2_with fail
    refine (quiet_bel (l03Load_any _ _ _ p.r.xs R _ lo _ ((hr.below B2).more B2.size) hn HCH.out (by omega) (by omega))).mono ?_
    rintro e w3 ⟨rfl, hb3⟩
    go_wp2
    go_ret
    exact ⟨by rw [HZ.out]; rfl, B2.trans (hb3.mono B2.size)⟩
end Go.Proofs.YtencnldflnbdiaaDoor
