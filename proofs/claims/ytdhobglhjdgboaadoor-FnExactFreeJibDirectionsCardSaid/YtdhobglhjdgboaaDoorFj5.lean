/- Made by merge.py of XFj1, XFj2, XFj3, XFj4, XFj5. -/
import Derived.Test.YtdhobglhjdgboaaDoorZoneLaw
import Derived.Test.YtdhobglhjdgboaaDoorVec
import Derived.Test.YtdhobglhjdgboaaDoorRCrane
import Derived.Test.YtdhobglhjdgboaaDoorCranes
import Derived.Test.YtdhobglhjdgboaaDoorQuietTail
import Derived.Test.YtdhobglhjdgboaaDoorZoneB3
/- XFj1: FreeJibDirections: the end of a jib: placeAt, jibEnd of the program, l02At, l04Jib of the reference. -/
namespace Go.Proofs.YtdhobglhjdgboaaDoor
open Go.RowKit Go.Sort
set_option linter.unusedVariables false
attribute [local irreducible] vecN

def atN (d : Nat) (r x y : Int) : Pnt := ⟨x + ((vecN d).x * r).tdiv 1000, y + ((vecN d).y * r).tdiv 1000⟩
theorem tdiv_bd {v r : Int} (hv : -1000 ≤ v ∧ v ≤ 1000) (hr : 0 ≤ r ∧ r ≤ 1000) : (-1000000 ≤ v * r ∧ v * r ≤ 1000000) ∧ (-1000 ≤ (v * r).tdiv 1000 ∧ (v * r).tdiv 1000 ≤ 1000) := by
  have h1 : -1000000 ≤ v * r ∧ v * r ≤ 1000000 := by
    rcases Int.le_total 0 v with h | h
    · have a := Int.mul_le_mul hv.2 hr.2 hr.1 (by omega : (0 : Int) ≤ 1000)
      have b := Int.mul_nonneg h hr.1
      omega
    · have a := Int.mul_le_mul (show -v ≤ 1000 by omega) hr.2 hr.1 (by omega : (0 : Int) ≤ 1000)
      have b := Int.mul_nonneg (show 0 ≤ -v by omega) hr.1
      rw [Int.neg_mul] at a b
      omega
  refine ⟨h1, ?_⟩
  generalize v * r = P at h1
  rcases Int.le_total 0 P with h | h
  · rw [Int.tdiv_eq_ediv_of_nonneg h]; omega
  · have e : P.tdiv 1000 = -((-P).tdiv 1000) := by rw [Int.neg_tdiv, Int.neg_neg]
    rw [e, Int.tdiv_eq_ediv_of_nonneg (by omega)]; omega
theorem atN_wide {d : Nat} {r x y : Int} (hr : 0 ≤ r ∧ r ≤ 1000) (hp : plcB x y = true) : plcW (atN d r x y).x (atN d r x y).y = true := by
  obtain ⟨v1, v2, v3, v4⟩ := vecN_small d
  have a := (tdiv_bd (v := (vecN d).x) (r := r) ⟨v1, v2⟩ hr).2
  have b := (tdiv_bd (v := (vecN d).y) (r := r) ⟨v3, v4⟩ hr).2
  have c := plcB_iff hp
  unfold plcW atN
  rw [inB_true.2 (by dsimp only; omega), inB_true.2 (by dsimp only; omega)]; rfl
theorem wrapJ {n : Int} (h : -9223372036854775808 ≤ n ∧ n ≤ 9223372036854775807) : IntKind.i64.wrap n = n := by rw [IntKind.wrap_i64]; omega

set_option maxRecDepth 100000 in
set_option maxHeartbeats 1000000 in
theorem placeAt_any (d : Nat) (r x y : Int) (hd : d < 24) (hr : 0 ≤ r ∧ r ≤ 1000) (hp : plcB x y = true) (w : World) (hq : QtrW w) :
    Calls Tryd.prog 176 #[.agg #[.int .i64 x, .int .i64 y], .int .i64 (d : Int), .int .i64 r] w fun e w' => e = .returned (.agg #[.int .i64 (atN d r x y).x, .int .i64 (atN d r x y).y]) ∧ RowKit.Below w.heap.size w w' := by
  obtain ⟨v1, v2, v3, v4⟩ := vecN_small d
  obtain ⟨m1, t1⟩ := tdiv_bd (v := (vecN d).x) (r := r) ⟨v1, v2⟩ hr
  obtain ⟨m2, t2⟩ := tdiv_bd (v := (vecN d).y) (r := r) ⟨v3, v4⟩ hr
  have hpi := plcB_iff hp
  obtain ⟨W, hW⟩ : ∃ W : World, W = (w.alloc (.cells #[.int .i64 x, .int .i64 y] 41)).alloc (.cells #[.int .i64 0, .int .i64 0] 41) := ⟨_, rfl⟩
  have B0 : RowKit.Below w.heap.size w W := by rw [hW]; exact ((Below.refl _ _).alloc (Nat.le_refl _) _).alloc (by simp) _
  have P0 : Blk W w.heap.size 41 #[.int .i64 x, .int .i64 y] := by rw [hW]; exact (Blk.new _ _ _).alloc _
  have R0 : Blk W (w.heap.size + 1) 41 #[.int .i64 0, .int .i64 0] := by rw [hW]; exact Blk.new_at rfl (by simp)
  have HV := Lib.hid (vector_any d hd W (hq.bel B0))
  have HP0 := Lib.hid P0
  have HR0 := Lib.hid R0
  have HB0 := Lib.hid B0
  have HAT : Hid (atN d r x y = ⟨x + ((vecN d).x * r).tdiv 1000, y + ((vecN d).y * r).tdiv 1000⟩) := rfl
  clear P0 R0 B0 hq hp
  obtain ⟨⟨vx, vy⟩, hv⟩ : ∃ v, vecN d = v := ⟨_, rfl⟩
  rw [hv] at v1 v2 v3 v4 m1 t1 m2 t2 HV HAT
  dsimp only at v1 v2 v3 v4 m1 t1 m2 t2 HV HAT
  clear hv
  have k1 : IntKind.i64.wrap (vx * r) = vx * r := wrapJ (by omega)
  have k2 : IntKind.i64.wrap (vy * r) = vy * r := wrapJ (by omega)
  have k3 : IntKind.i64.wrap ((vx * r).tdiv 1000) = (vx * r).tdiv 1000 := wrapJ (by omega)
  have k4 : IntKind.i64.wrap ((vy * r).tdiv 1000) = (vy * r).tdiv 1000 := wrapJ (by omega)
  have k5 : IntKind.i64.wrap (x + (vx * r).tdiv 1000) = x + (vx * r).tdiv 1000 := wrapJ (by omega)
  have k6 : IntKind.i64.wrap (y + (vy * r).tdiv 1000) = y + (vy * r).tdiv 1000 := wrapJ (by omega)
  go_enter Tryd.func176, Tryd.ntmps176
  go_wp2_with fail
  rw [← hW]
  clear hW
  refine HV.out.mono ?_
  rintro e w1 ⟨rfl, hb1⟩
  have P1 := HP0.out.bel hb1
  have R1 := HR0.out.bel hb1
  have HB1 := Lib.hid (HB0.out.trans (hb1.mono HB0.out.size))
  have hpl : w.heap.size < w1.heap.size := P1.lt
  have hrl : w.heap.size + 1 < w1.heap.size := R1.lt
  have p0 : w1.cell? ⟨w.heap.size, 0, none⟩ = some (.int .i64 x) := (P1.cell 0).trans rfl
  have p1 : w1.cell? ⟨w.heap.size, 1, none⟩ = some (.int .i64 y) := (P1.cell 1).trans rfl
  have c0 : w1.cell? ⟨w.heap.size + 1, 0, none⟩ = some (.int .i64 0) := (R1.cell 0).trans rfl
  have c1 : w1.cell? ⟨w.heap.size + 1, 1, none⟩ = some (.int .i64 0) := (R1.cell 1).trans rfl
  have f0 := R1.frozen 0
  have f1 := R1.frozen 1
  have hszw := HB1.out.size
  clear hb1 P1 R1
  go_wp2
  exact bodyPost_ret (v := .agg #[.int .i64 (x + (vx * r).tdiv 1000), .int .i64 (y + (vy * r).tdiv 1000)]) (by simp [results, Tryd.results176, go_sem, c0, c1, hrl]) rfl ⟨by rw [HAT.out], ((HB1.out.setCell (p := ⟨w.heap.size + 1, 0, none⟩) (by show _ ≤ w.heap.size + 1; omega) _).setCell (p := ⟨w.heap.size + 1, 1, none⟩) (by show _ ≤ w.heap.size + 1; omega) _).alloc (by simp; omega) _⟩
set_option maxRecDepth 100000 in
set_option maxHeartbeats 1000000 in
theorem l02At_any (d : Nat) (r x y : Int) (hd : d < 24) (hr : 0 ≤ r ∧ r ≤ 1000) (hp : plcB x y = true) (w : World) :
    Calls Tryd.prog 164 #[.agg #[.int .i64 x, .int .i64 y], .int .i64 (d : Int), .int .i64 r] w fun e w' => e = .returned (.agg #[.int .i64 (atN d r x y).x, .int .i64 (atN d r x y).y]) ∧ RowKit.Below w.heap.size w w' := by
  obtain ⟨v1, v2, v3, v4⟩ := vecN_small d
  obtain ⟨m1, t1⟩ := tdiv_bd (v := (vecN d).x) (r := r) ⟨v1, v2⟩ hr
  obtain ⟨m2, t2⟩ := tdiv_bd (v := (vecN d).y) (r := r) ⟨v3, v4⟩ hr
  have hpi := plcB_iff hp
  obtain ⟨W, hW⟩ : ∃ W : World, W = (w.alloc (.cells #[.int .i64 x, .int .i64 y] 41)).alloc (.cells #[.int .i64 0, .int .i64 0] 41) := ⟨_, rfl⟩
  have B0 : RowKit.Below w.heap.size w W := by rw [hW]; exact ((Below.refl _ _).alloc (Nat.le_refl _) _).alloc (by simp) _
  have P0 : Blk W w.heap.size 41 #[.int .i64 x, .int .i64 y] := by rw [hW]; exact (Blk.new _ _ _).alloc _
  have R0 : Blk W (w.heap.size + 1) 41 #[.int .i64 0, .int .i64 0] := by rw [hW]; exact Blk.new_at rfl (by simp)
  have HV := Lib.hid (l02Vector_any d hd W)
  have HP0 := Lib.hid P0
  have HR0 := Lib.hid R0
  have HB0 := Lib.hid B0
  have HAT : Hid (atN d r x y = ⟨x + ((vecN d).x * r).tdiv 1000, y + ((vecN d).y * r).tdiv 1000⟩) := rfl
  clear P0 R0 B0 hp
  obtain ⟨⟨vx, vy⟩, hv⟩ : ∃ v, vecN d = v := ⟨_, rfl⟩
  rw [hv] at v1 v2 v3 v4 m1 t1 m2 t2 HV HAT
  dsimp only at v1 v2 v3 v4 m1 t1 m2 t2 HV HAT
  clear hv
  have k1 : IntKind.i64.wrap (vx * r) = vx * r := wrapJ (by omega)
  have k2 : IntKind.i64.wrap (vy * r) = vy * r := wrapJ (by omega)
  have k3 : IntKind.i64.wrap ((vx * r).tdiv 1000) = (vx * r).tdiv 1000 := wrapJ (by omega)
  have k4 : IntKind.i64.wrap ((vy * r).tdiv 1000) = (vy * r).tdiv 1000 := wrapJ (by omega)
  have k5 : IntKind.i64.wrap (x + (vx * r).tdiv 1000) = x + (vx * r).tdiv 1000 := wrapJ (by omega)
  have k6 : IntKind.i64.wrap (y + (vy * r).tdiv 1000) = y + (vy * r).tdiv 1000 := wrapJ (by omega)
  go_enter Tryd.func164, Tryd.ntmps164
  go_wp2_with fail
  rw [← hW]
  clear hW
  refine HV.out.mono ?_
  rintro e w1 ⟨rfl, hb1⟩
  have P1 := HP0.out.bel hb1
  have R1 := HR0.out.bel hb1
  have HB1 := Lib.hid (HB0.out.trans (hb1.mono HB0.out.size))
  have hpl : w.heap.size < w1.heap.size := P1.lt
  have hrl : w.heap.size + 1 < w1.heap.size := R1.lt
  have p0 : w1.cell? ⟨w.heap.size, 0, none⟩ = some (.int .i64 x) := (P1.cell 0).trans rfl
  have p1 : w1.cell? ⟨w.heap.size, 1, none⟩ = some (.int .i64 y) := (P1.cell 1).trans rfl
  have c0 : w1.cell? ⟨w.heap.size + 1, 0, none⟩ = some (.int .i64 0) := (R1.cell 0).trans rfl
  have c1 : w1.cell? ⟨w.heap.size + 1, 1, none⟩ = some (.int .i64 0) := (R1.cell 1).trans rfl
  have f0 := R1.frozen 0
  have f1 := R1.frozen 1
  have hszw := HB1.out.size
  clear hb1 P1 R1
  go_wp2
  exact bodyPost_ret (v := .agg #[.int .i64 (x + (vx * r).tdiv 1000), .int .i64 (y + (vy * r).tdiv 1000)]) (by simp [results, Tryd.results164, go_sem, c0, c1, hrl]) rfl ⟨by rw [HAT.out], ((HB1.out.setCell (p := ⟨w.heap.size + 1, 0, none⟩) (by show _ ≤ w.heap.size + 1; omega) _).setCell (p := ⟨w.heap.size + 1, 1, none⟩) (by show _ ≤ w.heap.size + 1; omega) _).alloc (by simp; omega) _⟩
set_option maxRecDepth 100000 in
set_option maxHeartbeats 1000000 in
theorem jibEnd_any (p : Crane) (d : Nat) (hd : d < 24) (hr : 0 ≤ p.v.jib ∧ p.v.jib ≤ 1000) (hp : plcB p.v.ax p.v.ay = true) (w : World) (hq : QtrW w) :
    Calls Tryd.prog 86 #[.agg #[.string p.v.name, .int .i64 p.v.ax, .int .i64 p.v.ay, .int .i64 p.v.height, .int .i64 p.v.jib, .int .i64 p.v.back, .slice p.r.a p.r.n p.r.cap], .int .i64 (d : Int)] w fun e w' => e = .returned (.agg #[.int .i64 (atN d p.v.jib p.v.ax p.v.ay).x, .int .i64 (atN d p.v.jib p.v.ax p.v.ay).y]) ∧ RowKit.Below w.heap.size w w' := by
  obtain ⟨W, hW⟩ : ∃ W : World, W = (w.alloc (.cells #[.string p.v.name, .int .i64 p.v.ax, .int .i64 p.v.ay, .int .i64 p.v.height, .int .i64 p.v.jib, .int .i64 p.v.back, .slice p.r.a p.r.n p.r.cap] 44)).alloc (.cells #[.int .i64 0, .int .i64 0] 41) := ⟨_, rfl⟩
  have B0 : RowKit.Below w.heap.size w W := by rw [hW]; exact ((Below.refl _ _).alloc (Nat.le_refl _) _).alloc (by simp) _
  have R0 : Blk W (w.heap.size + 1) 41 #[.int .i64 0, .int .i64 0] := by rw [hW]; exact Blk.new_at rfl (by simp)
  have HV := Lib.hid (placeAt_any d p.v.jib p.v.ax p.v.ay hd hr hp W (hq.bel B0))
  have HR0 := Lib.hid R0
  have HB0 := Lib.hid B0
  clear R0 B0 hq hp hr
  obtain ⟨⟨X, Y⟩, hXY⟩ : ∃ P, atN d p.v.jib p.v.ax p.v.ay = P := ⟨_, rfl⟩
  have HXY := Lib.hid hXY
  rw [hXY] at HV
  dsimp only at HV
  clear hXY
  go_enter Tryd.func86, Tryd.ntmps86
  go_wp2_with fail
  rw [← hW]
  clear hW
  refine HV.out.mono ?_
  rintro e w1 ⟨rfl, hb1⟩
  have R1 := HR0.out.bel hb1
  have HB1 := Lib.hid (HB0.out.trans (hb1.mono HB0.out.size))
  have c0 : w1.cell? ⟨w.heap.size + 1, 0, none⟩ = some (.int .i64 0) := (R1.cell 0).trans rfl
  have c1 : w1.cell? ⟨w.heap.size + 1, 1, none⟩ = some (.int .i64 0) := (R1.cell 1).trans rfl
  have f0 := R1.frozen 0
  have f1 := R1.frozen 1
  clear hb1 R1
  go_wp2
  exact bodyPost_ret (v := .agg #[.int .i64 X, .int .i64 Y]) (by simp [results, Tryd.results86, go_sem, c0, c1]) rfl ⟨by rw [HXY.out], (HB1.out.setCell (p := ⟨w.heap.size + 1, 0, none⟩) (by show _ ≤ w.heap.size + 1; omega) _).setCell (p := ⟨w.heap.size + 1, 1, none⟩) (by show _ ≤ w.heap.size + 1; omega) _⟩
set_option maxRecDepth 100000 in
set_option maxHeartbeats 1000000 in
theorem l04Jib_any (b off : Nat) (ax ay jib : Int) (d : Nat) (hd : d < 24) (hr : 0 ≤ jib ∧ jib ≤ 1000) (hp : plcB ax ay = true) (w : World) (c1 : w.cell? ⟨b, off + 1, none⟩ = some (.int .i64 ax)) (c2 : w.cell? ⟨b, off + 2, none⟩ = some (.int .i64 ay)) (c4 : w.cell? ⟨b, off + 4, none⟩ = some (.int .i64 jib)) (hbl : b < w.heap.size) :
    Calls Tryd.prog 76 #[.pointer (some ⟨b, off, none⟩), .int .i64 (d : Int)] w fun e w' => e = .returned (.agg #[.int .i64 (atN d jib ax ay).x, .int .i64 (atN d jib ax ay).y]) ∧ RowKit.Below w.heap.size w w' := by
  obtain ⟨W, hW⟩ : ∃ W : World, W = w.alloc (.cells #[.int .i64 0, .int .i64 0] 41) := ⟨_, rfl⟩
  have B0 : RowKit.Below w.heap.size w W := by rw [hW]; exact (Below.refl _ _).alloc (Nat.le_refl _) _
  have R0 : Blk W w.heap.size 41 #[.int .i64 0, .int .i64 0] := by rw [hW]; exact Blk.new _ _ _
  have HR0 := Lib.hid R0
  have HB0 := Lib.hid B0
  have t1 := cell_regrown ((B0.cell (p := ⟨b, off + 1, none⟩) hbl).trans c1)
  have t2 := cell_regrown ((B0.cell (p := ⟨b, off + 2, none⟩) hbl).trans c2)
  have t4 := cell_regrown ((B0.cell (p := ⟨b, off + 4, none⟩) hbl).trans c4)
  clear R0 B0 c1 c2 c4
  obtain ⟨⟨X, Y⟩, hXY⟩ : ∃ P, atN d jib ax ay = P := ⟨_, rfl⟩
  have HXY := Lib.hid hXY
  have HV : Hid (∀ d0 os, Calls Tryd.prog 164 #[.agg #[.int .i64 ax, .int .i64 ay], .int .i64 (d : Int), .int .i64 jib] (grow (redrawn W d0) os) fun e w' => e = .returned (.agg #[.int .i64 X, .int .i64 Y]) ∧ RowKit.Below (grow (redrawn W d0) os).heap.size (grow (redrawn W d0) os) w') := fun d0 os => by
    have := l02At_any d jib ax ay hd hr hp (grow (redrawn W d0) os)
    rw [hXY] at this
    exact this
  clear hXY hp hr
  go_enter Tryd.func76, Tryd.ntmps76
  go_wp2
  rw [← hW]
  clear hW
  refine wp_region_below_tail 10 (by kernel_rfl) (by kernel_rfl) ?_
  simp only [List.take_succ_cons, List.take_zero, List.drop_succ_cons, List.drop_zero]
  repeat (go_big_quiet_step (first | (go_at_call 164; exact Calls.regrown_of (HV.out _ _))))
  refine wpQuiet_nil ?_
  intro _ hw9
  obtain ⟨⟨dq, osq⟩, hw9⟩ := hw9
  subst hw9
  have hb1 := below_regrown W dq osq
  dsimp only at hb1 ⊢
  generalize grow (redrawn W dq) osq = W2 at hb1 ⊢
  have R1 := HR0.out.bel hb1
  have HB1 := Lib.hid (HB0.out.trans (hb1.mono HB0.out.size))
  have c0 : W2.cell? ⟨w.heap.size, 0, none⟩ = some (.int .i64 0) := (R1.cell 0).trans rfl
  have c1 : W2.cell? ⟨w.heap.size, 1, none⟩ = some (.int .i64 0) := (R1.cell 1).trans rfl
  have f0 := R1.frozen 0
  have f1 := R1.frozen 1
  clear hb1 R1 t1 t2 t4
  go_wp2
  exact bodyPost_ret (v := .agg #[.int .i64 X, .int .i64 Y]) (by simp [results, Tryd.results76, go_sem, c0, c1]) rfl ⟨by rw [HXY.out], (HB1.out.setCell (p := ⟨w.heap.size, 0, none⟩) (by show _ ≤ w.heap.size; omega) _).setCell (p := ⟨w.heap.size, 1, none⟩) (by show _ ≤ w.heap.size; omega) _⟩
end Go.Proofs.YtdhobglhjdgboaaDoor
/- XFj2: FreeJibDirections: which zones a jib may not enter; the closure; ContainsFunc at it. -/
namespace Go.Proofs.YtdhobglhjdgboaaDoor
open Go.RowKit Go.Sort
set_option linter.unusedVariables false
attribute [local irreducible] vecN

def jibB (v : ZoneV) (ht : Int) : Bool := decide (v.kind = 3) || (decide (v.kind = 1) && decide (ht < v.storeys * v.each + 20))
def jbQ (d : Nat) (x y ht jib : Int) (z : ZV) : Bool := jibB z.1 ht && meetB z.2 ⟨x, y⟩ (atN d jib x y)
set_option maxHeartbeats 1600000 in
theorem blocksJib_any (z : Zone) (ht : Int) (w : World) (hok : zHd z.v = true) :
    Calls Tryd.prog 84 #[.agg #[.int .i64 z.v.kind, .int .i64 z.v.storeys, .int .i64 z.v.each, .slice z.r.a z.r.n z.r.cap], .int .i64 ht] w fun e w' => e = .returned (.bool (jibB z.v ht)) ∧ Below w.heap.size w w' := by
  have hs := zhd_small hok
  have HO : Hid (jibB z.v ht = (decide (z.v.kind = 3) || (decide (z.v.kind = 1) && decide (ht < z.v.storeys * z.v.each + 20)))) := rfl
  obtain ⟨⟨kind, storeys, each⟩, ⟨A, n, c, cs⟩⟩ := z
  dsimp only at *
  obtain ⟨h1, h2, h3⟩ := hs
  clear hok
  by_cases e2 : kind = 3
  · have HE : Hid (jibB ⟨kind, storeys, each⟩ ht = true) := by show _ = _; rw [HO.out, decide_eq_true e2]; rfl
    have E2 : Hid ((kind == 3) = true) := by show _ = _; simp [e2]
    clear e2
    have e2' := E2.out
    go_enter Tryd.func84, Tryd.ntmps84
    go_wp2
    go_ret
    exact ⟨by rw [HE.out]; rfl, (Below.refl _ _).alloc (Nat.le_refl _) _⟩
  · have E2 : Hid ((kind == 3) = false) := beq_eq_false_iff_ne.2 e2
    by_cases e1 : kind = 1
    · have HE : Hid (jibB ⟨kind, storeys, each⟩ ht = decide (ht < storeys * each + 20)) := by show _ = _; rw [HO.out, decide_eq_false e2, decide_eq_true e1]; rfl
      have E1 : Hid ((kind == 1) = true) := by show _ = _; simp [e1]
      clear e2 e1
      have e2' := E2.out
      have e1' := E1.out
      go_enter Tryd.func84, Tryd.ntmps84
      go_wp2
      go_ret
      exact ⟨by rw [HE.out]; rfl, (Below.refl _ _).alloc (Nat.le_refl _) _⟩
    · have HE : Hid (jibB ⟨kind, storeys, each⟩ ht = false) := by show _ = _; rw [HO.out, decide_eq_false e2, decide_eq_false e1]; rfl
      have E1 : Hid ((kind == 1) = false) := beq_eq_false_iff_ne.2 e1
      clear e2 e1
      have e2' := E2.out
      have e1' := E1.out
      go_enter Tryd.func84, Tryd.ntmps84
      go_wp2
      go_ret
      exact ⟨by rw [HE.out]; rfl, (Below.refl _ _).alloc (Nat.le_refl _) _⟩
set_option maxHeartbeats 1600000 in
theorem l05Jib_any (b off : Nat) (z : Zone) (ht : Int) (w : World) (hz : ZoneAt w b off z) (hok : zHd z.v = true) :
    Calls Tryd.prog 74 #[.pointer (some ⟨b, off, none⟩), .int .i64 ht] w fun e w' => e = .returned (.bool (jibB z.v ht)) ∧ Below w.heap.size w w' := by
  have hs := zhd_small hok
  have HO : Hid (jibB z.v ht = (decide (z.v.kind = 3) || (decide (z.v.kind = 1) && decide (ht < z.v.storeys * z.v.each + 20)))) := rfl
  obtain ⟨⟨kind, storeys, each⟩, ⟨A, n, c, cs⟩⟩ := z
  obtain ⟨c0, c1, c2, c3⟩ := hz
  dsimp only at *
  obtain ⟨h1, h2, h3⟩ := hs
  clear hok
  have c1' := cell_regrown c1
  have c2' := cell_regrown c2
  by_cases e1 : kind = 1
  · have HE : Hid (jibB ⟨kind, storeys, each⟩ ht = decide (ht < storeys * each + 20)) := by show _ = _; rw [HO.out, decide_eq_false (by omega), decide_eq_true e1]; rfl
    have E1 : Hid ((kind == 1) = true) := by show _ = _; simp [e1]
    clear e1
    have e1' := E1.out
    go_enter Tryd.func74, Tryd.ntmps74
    go_wp2
    refine wp_region_quiet_below (by kernel_rfl) (by kernel_rfl) ?_
    repeat (go_big_quiet_step (first | fail))
    refine wpQuiet_nil ?_
    intro _ hw9
    obtain ⟨⟨dq, osq⟩, hw9⟩ := hw9
    subst hw9
    have hb5 := below_regrown w dq osq
    dsimp only at hb5 ⊢
    generalize grow (redrawn w dq) osq = w5 at hb5 ⊢
    go_wp2
    go_ret
    exact ⟨by rw [HE.out]; rfl, hb5⟩
  · have E1 : Hid ((kind == 1) = false) := beq_eq_false_iff_ne.2 e1
    by_cases e2 : kind = 3
    · have HE : Hid (jibB ⟨kind, storeys, each⟩ ht = true) := by show _ = _; rw [HO.out, decide_eq_true e2]; rfl
      have E2 : Hid ((kind == 3) = true) := by show _ = _; simp [e2]
      clear e1 e2
      have e1' := E1.out
      have e2' := E2.out
      go_enter Tryd.func74, Tryd.ntmps74
      go_wp2
      go_ret
      exact ⟨by rw [HE.out]; rfl, Below.refl _ _⟩
    · have HE : Hid (jibB ⟨kind, storeys, each⟩ ht = false) := by show _ = _; rw [HO.out, decide_eq_false e2, decide_eq_false e1]; rfl
      have E2 : Hid ((kind == 3) = false) := beq_eq_false_iff_ne.2 e2
      clear e1 e2
      have e1' := E1.out
      have e2' := E2.out
      go_enter Tryd.func74, Tryd.ntmps74
      go_wp2
      go_ret
      exact ⟨by rw [HE.out]; rfl, Below.refl _ _⟩
theorem blocksJib_eq (z : Zone) (ht : Int) (w : World) (hok : zHd z.v = true) {v : Bool} (hv : jibB z.v ht = v) :
    Calls Tryd.prog 84 #[.agg #[.int .i64 z.v.kind, .int .i64 z.v.storeys, .int .i64 z.v.each, .slice z.r.a z.r.n z.r.cap], .int .i64 ht] w fun e w' => e = .returned (.bool v) ∧ Below w.heap.size w w' := by subst hv; exact blocksJib_any z ht w hok
end Go.Proofs.YtdhobglhjdgboaaDoor
/- XFj3: FreeJibDirections: the closure; ContainsFunc at it. -/
namespace Go.Proofs.YtdhobglhjdgboaaDoor
open Go.RowKit Go.Sort
set_option linter.unusedVariables false
attribute [local irreducible] vecN

set_option maxHeartbeats 800000 in
theorem indexFJ_any (A : Option Addr) (n c : Nat) (ps : List Zone) (w : World) (lo : Nat) (h : Zones w lo w.heap.size A n ps) (hn : n ≤ 9223372036854775807) (q : Zone → Bool) (g1 g2 : Addr)
    (hf : ∀ (p : Zone) (W : World), p ∈ ps → Below w.heap.size w W → Calls Tryd.prog 83 #[.agg #[.int .i64 p.v.kind, .int .i64 p.v.storeys, .int .i64 p.v.each, .slice p.r.a p.r.n p.r.cap], .pointer (some g1), .pointer (some g2)] W fun e W' => e = .returned (.bool (q p)) ∧ Below W.heap.size W W') :
    Calls Tryd.prog 171 #[.slice A n c, .func (.func 83) #[] #[.pointer (some g1), .pointer (some g2)]] w fun e w' => e = .returned (.int .i64 (fIdx q ps)) ∧ Below w.heap.size w w' := by
  have HF := Lib.hid hf
  clear hf
  go_enter Tryd.func171, Tryd.ntmps171
  go_wp2
  go_loopw [8] (fun i wr => ∃ k : Nat, k ≤ n ∧ i = .int .i64 k ∧ noTo q ps k = true ∧ Below w.heap.size w wr) (fun i _ => n - (intOf i).toNat)
  case atStart => exact ⟨0, Nat.zero_le _, rfl, rfl, Below.refl _ _⟩
  case round =>
    obtain ⟨k, hk, rfl, hno, hb⟩ := hrel
    have HN := Lib.hid hno
    clear hno
    by_cases hlt : k < n
    · obtain ⟨b, off, p, rfl, hx, _, hbl, hrow, c0, c1, c2, c3⟩ := Zone.at (h.below hb) hlt
      have HX := Lib.hid hx
      clear hx
      cases hq : q p
      · have HQ := Lib.hid hq
        go_wp2_with (go_at_call 83; refine (HF.out p _ (List.mem_of_getElem? HX.out) hb).mono ?_; rintro e w1 ⟨rfl, hb1⟩)
        go_roundw
        case rel => exact ⟨k + 1, by omega, by go_num, noTo_step HN.out HX.out HQ.out, hb.trans (hb1.mono hb.size)⟩
        case measure => simp [intOf]; omega
      · have HQ := Lib.hid hq
        go_wp2_with (go_at_call 83; refine (HF.out p _ (List.mem_of_getElem? HX.out) hb).mono ?_; rintro e w1 ⟨rfl, hb1⟩)
        go_ret
        exact ⟨by rw [fIdx_hit HN.out HX.out HQ.out]; rfl, hb.trans (hb1.mono hb.size)⟩
    · obtain rfl : k = n := by omega
      have HE : Hid (fIdx q ps = -1) := fIdx_none (by rw [h.len]; exact HN.out)
      go_wp2
      go_ret
      exact ⟨by rw [HE.out]; rfl, hb⟩

theorem containsFJ_any (A : Option Addr) (n c : Nat) (ps : List Zone) (w : World) (lo : Nat) (h : Zones w lo w.heap.size A n ps) (hn : n ≤ 9223372036854775807) (q : Zone → Bool) (g1 g2 : Addr)
    (hf : ∀ (p : Zone) (W : World), p ∈ ps → Below w.heap.size w W → Calls Tryd.prog 83 #[.agg #[.int .i64 p.v.kind, .int .i64 p.v.storeys, .int .i64 p.v.each, .slice p.r.a p.r.n p.r.cap], .pointer (some g1), .pointer (some g2)] W fun e W' => e = .returned (.bool (q p)) ∧ Below W.heap.size W W') :
    Calls Tryd.prog 82 #[.slice A n c, .func (.func 83) #[] #[.pointer (some g1), .pointer (some g2)]] w fun e w' => e = .returned (.bool (ps.any q)) ∧ Below w.heap.size w w' := by
  have HF := Lib.hid hf
  clear hf
  have HA : Hid (ps.any q = decide (0 ≤ fIdx q ps)) := any_fIdx q ps
  go_enter Tryd.func82, Tryd.ntmps82
  go_wp2_with fail
  refine (indexFJ_any A n c ps _ lo h hn q g1 g2 HF.out).mono ?_
  rintro e w1 ⟨rfl, hb⟩
  go_wp2
  go_ret
  exact ⟨by rw [HA.out]; rfl, hb⟩

set_option maxRecDepth 100000 in
set_option maxHeartbeats 3200000 in
theorem fj1_any (p : Crane) (z : Zone) (bc bd d : Nat) (w : World) (lo : Nat) (h : Arr Pnt.cs 2 w lo w.heap.size z.r.a z.r.n z.r.xs) (hn : z.r.n ≤ 1048576) (hok : zoneOk z.val = true) (hd : d < 24) (hr : 0 ≤ p.v.jib ∧ p.v.jib ≤ 1000) (hp : plcB p.v.ax p.v.ay = true) (hq : QtrW w)
    (hc : Blk w bc 44 #[.string p.v.name, .int .i64 p.v.ax, .int .i64 p.v.ay, .int .i64 p.v.height, .int .i64 p.v.jib, .int .i64 p.v.back, .slice p.r.a p.r.n p.r.cap]) (hbd : Blk w bd 2 #[.int .i64 (d : Int)]) :
    Calls Tryd.prog 83 #[.agg #[.int .i64 z.v.kind, .int .i64 z.v.storeys, .int .i64 z.v.each, .slice z.r.a z.r.n z.r.cap], .pointer (some ⟨bc, 0, none⟩), .pointer (some ⟨bd, 0, none⟩)] w fun e w' => e = .returned (.bool (jbQ d p.v.ax p.v.ay p.v.height p.v.jib z.val)) ∧ Below w.heap.size w w' := by
  obtain ⟨W, hW⟩ : ∃ W : World, W = w.alloc (.cells #[.int .i64 z.v.kind, .int .i64 z.v.storeys, .int .i64 z.v.each, .slice z.r.a z.r.n z.r.cap] 127) := ⟨_, rfl⟩
  have B0 : Below w.heap.size w W := by rw [hW]; exact (Below.refl _ _).alloc (Nat.le_refl _) _
  have Z0 : Blk W w.heap.size 127 #[.int .i64 z.v.kind, .int .i64 z.v.storeys, .int .i64 z.v.each, .slice z.r.a z.r.n z.r.cap] := by rw [hW]; exact Blk.new _ _ _
  have C0 := hc.bel B0
  have D0 := hbd.bel B0
  have hQW := hq.bel B0
  have HB0 := Lib.hid B0
  have hA := (h.below B0).more B0.size
  have hs0 := B0.size
  have z0 : ∀ d os, (grow (redrawn W d) os).cell? ⟨w.heap.size, 0, none⟩ = some (.int .i64 z.v.kind) := cell_regrown ((Z0.cell 0).trans rfl)
  have z1 : ∀ d os, (grow (redrawn W d) os).cell? ⟨w.heap.size, 1, none⟩ = some (.int .i64 z.v.storeys) := cell_regrown ((Z0.cell 1).trans rfl)
  have z2 : ∀ d os, (grow (redrawn W d) os).cell? ⟨w.heap.size, 2, none⟩ = some (.int .i64 z.v.each) := cell_regrown ((Z0.cell 2).trans rfl)
  have z3 : ∀ d os, (grow (redrawn W d) os).cell? ⟨w.heap.size, 3, none⟩ = some (.slice z.r.a z.r.n z.r.cap) := cell_regrown ((Z0.cell 3).trans rfl)
  have c0 : ∀ d os, (grow (redrawn W d) os).cell? ⟨bc, 0, none⟩ = some (.string p.v.name) := cell_regrown ((C0.cell 0).trans rfl)
  have c1 : ∀ d os, (grow (redrawn W d) os).cell? ⟨bc, 1, none⟩ = some (.int .i64 p.v.ax) := cell_regrown ((C0.cell 1).trans rfl)
  have c2 : ∀ d os, (grow (redrawn W d) os).cell? ⟨bc, 2, none⟩ = some (.int .i64 p.v.ay) := cell_regrown ((C0.cell 2).trans rfl)
  have c3 : ∀ d os, (grow (redrawn W d) os).cell? ⟨bc, 3, none⟩ = some (.int .i64 p.v.height) := cell_regrown ((C0.cell 3).trans rfl)
  have c4 : ∀ d os, (grow (redrawn W d) os).cell? ⟨bc, 4, none⟩ = some (.int .i64 p.v.jib) := cell_regrown ((C0.cell 4).trans rfl)
  have c5 : ∀ d os, (grow (redrawn W d) os).cell? ⟨bc, 5, none⟩ = some (.int .i64 p.v.back) := cell_regrown ((C0.cell 5).trans rfl)
  have c6 : ∀ d os, (grow (redrawn W d) os).cell? ⟨bc, 6, none⟩ = some (.slice p.r.a p.r.n p.r.cap) := cell_regrown ((C0.cell 6).trans rfl)
  have d0 : ∀ d1 os, (grow (redrawn W d1) os).cell? ⟨bd, 0, none⟩ = some (.int .i64 (d : Int)) := cell_regrown ((D0.cell 0).trans rfl)
  have HM : Hid (clipB z.r.xs ⟨p.v.ax, p.v.ay⟩ (atN d p.v.jib p.v.ax p.v.ay) = meetB z.r.xs ⟨p.v.ax, p.v.ay⟩ (atN d p.v.jib p.v.ax p.v.ay)) := clip_meet (by unfold zoneOk at hok; rw [Bool.and_eq_true] at hok; exact hok.2)
  have HQ : Hid (jbQ d p.v.ax p.v.ay p.v.height p.v.jib z.val = (jibB z.v p.v.height && meetB z.r.xs ⟨p.v.ax, p.v.ay⟩ (atN d p.v.jib p.v.ax p.v.ay))) := rfl
  have hwide := atN_wide (d := d) hr hp
  have HLD : Hid (∀ v, jibB z.v p.v.height = v → ∀ d os, Calls Tryd.prog 84 #[.agg #[.int .i64 z.v.kind, .int .i64 z.v.storeys, .int .i64 z.v.each, .slice z.r.a z.r.n z.r.cap], .int .i64 p.v.height] (grow (redrawn W d) os) fun e w' => e = .returned (.bool v) ∧ Below (grow (redrawn W d) os).heap.size (grow (redrawn W d) os) w') := fun v hv d os => blocksJib_eq z _ _ (zoneOk_hd hok) hv
  have HJE : Hid (∀ d1 os, Calls Tryd.prog 86 #[.agg #[.string p.v.name, .int .i64 p.v.ax, .int .i64 p.v.ay, .int .i64 p.v.height, .int .i64 p.v.jib, .int .i64 p.v.back, .slice p.r.a p.r.n p.r.cap], .int .i64 (d : Int)] (grow (redrawn W d1) os) fun e w' => e = .returned (.agg #[.int .i64 (atN d p.v.jib p.v.ax p.v.ay).x, .int .i64 (atN d p.v.jib p.v.ax p.v.ay).y]) ∧ Below (grow (redrawn W d1) os).heap.size (grow (redrawn W d1) os) w') := fun d1 os => jibEnd_any p d hd hr hp _ (hQW.bel (below_regrown W d1 os))
  have HMT : Hid (∀ d1 os, Calls Tryd.prog 85 #[.agg #[.int .i64 z.v.kind, .int .i64 z.v.storeys, .int .i64 z.v.each, .slice z.r.a z.r.n z.r.cap], .agg #[.int .i64 p.v.ax, .int .i64 p.v.ay], .agg #[.int .i64 (atN d p.v.jib p.v.ax p.v.ay).x, .int .i64 (atN d p.v.jib p.v.ax p.v.ay).y]] (grow (redrawn W d1) os) fun e w' => e = .returned (.bool (clipB z.r.xs ⟨p.v.ax, p.v.ay⟩ (atN d p.v.jib p.v.ax p.v.ay))) ∧ Below (grow (redrawn W d1) os).heap.size (grow (redrawn W d1) os) w') := fun d1 os => by
    have hr9 := below_regrown W d1 os
    exact meets_any z ⟨p.v.ax, p.v.ay⟩ _ _ lo ((hA.below hr9).more hr9.size) hn (by have := zoneOk_corners hok; rw [← h.1]; exact this) (plcW_of hp) hwide
  clear h hok hp hq hr hc hbd B0 Z0 C0 D0 hQW hA hwide
  obtain ⟨⟨X, Y⟩, hXY⟩ : ∃ P, atN d p.v.jib p.v.ax p.v.ay = P := ⟨_, rfl⟩
  rw [hXY] at HM HQ HJE HMT
  dsimp only at HJE HMT
  clear hXY
  cases hl : jibB z.v p.v.height
  · have HE : Hid (jbQ d p.v.ax p.v.ay p.v.height p.v.jib z.val = false) := by show _ = _; rw [HQ.out, hl]; rfl
    have HL2 := Lib.hid (HLD.out _ hl)
    clear hl HLD
    go_enter Tryd.func83, Tryd.ntmps83
    go_wp2_with fail
    rw [← hW]
    clear hW
    refine wp_region_quiet_below (by kernel_rfl) (by kernel_rfl) ?_
    repeat (go_big_quiet_step (first | (go_at_call 84; exact Calls.regrown_of (HL2.out _ _))))
    refine wpQuiet_nil ?_
    intro _ hw9
    obtain ⟨⟨dq, osq⟩, hw9⟩ := hw9
    subst hw9
    have hb5 := below_regrown W dq osq
    dsimp only at hb5 ⊢
    generalize grow (redrawn W dq) osq = w5 at hb5 ⊢
    go_wp2
    go_ret
    exact ⟨by rw [HE.out]; rfl, HB0.out.trans (hb5.mono HB0.out.size)⟩
  · have HE : Hid (jbQ d p.v.ax p.v.ay p.v.height p.v.jib z.val = clipB z.r.xs ⟨p.v.ax, p.v.ay⟩ ⟨X, Y⟩) := by show _ = _; rw [HQ.out, hl, HM.out]; rfl
    have HL2 := Lib.hid (HLD.out _ hl)
    generalize clipB z.r.xs ⟨p.v.ax, p.v.ay⟩ ⟨X, Y⟩ = cv at *
    clear hl HLD HM HQ
    go_enter Tryd.func83, Tryd.ntmps83
    go_wp2_with fail
    rw [← hW]
    clear hW
    refine wp_region_quiet_below (by kernel_rfl) (by kernel_rfl) ?_
    repeat (go_big_quiet_step (first | (go_at_call 84; exact Calls.regrown_of (HL2.out _ _)) | (go_at_call 86; exact Calls.regrown_of (HJE.out _ _)) | (go_at_call 85; exact Calls.regrown_of (HMT.out _ _))))
    refine wpQuiet_nil ?_
    intro _ hw9
    obtain ⟨⟨dq, osq⟩, hw9⟩ := hw9
    subst hw9
    have hb5 := below_regrown W dq osq
    dsimp only at hb5 ⊢
    generalize grow (redrawn W dq) osq = w5 at hb5 ⊢
    go_wp2
    go_ret
    exact ⟨by rw [HE.out]; rfl, HB0.out.trans (hb5.mono HB0.out.size)⟩
end Go.Proofs.YtdhobglhjdgboaaDoor
/- XFj4: FreeJibDirections of the program. -/
namespace Go.Proofs.YtdhobglhjdgboaaDoor
open Go.RowKit Go.Sort
set_option linter.unusedVariables false
attribute [local irreducible] vecN

def freeB (c : CV) (zs : List ZV) (d : Nat) : Bool := !zs.any (jbQ d c.1.ax c.1.ay c.1.height c.1.jib)
def fjTo (c : CV) (zs : List ZV) (k : Nat) : List Int := ((List.range k).filter (freeB c zs)).map fun j : Nat => (j : Int)
theorem fjTo_yes {c : CV} {zs : List ZV} {k : Nat} (h : freeB c zs k = true) : fjTo c zs (k + 1) = fjTo c zs k ++ [(k : Int)] := by
  unfold fjTo; rw [List.range_succ, List.filter_append, List.map_append]; simp [h]
theorem fjTo_no {c : CV} {zs : List ZV} {k : Nat} (h : freeB c zs k = false) : fjTo c zs (k + 1) = fjTo c zs k := by
  unfold fjTo; rw [List.range_succ, List.filter_append, List.map_append]; simp [h]
theorem fjTo_len (c : CV) (zs : List ZV) (k : Nat) : (fjTo c zs k).length ≤ k := by
  unfold fjTo; rw [List.length_map]; exact Nat.le_trans (List.length_filter_le _ _) (by simp)
def fjB (c : CV) (zs : List ZV) : Bool := craneOk c && zsOk zs
def fjXs (c : CV) (zs : List ZV) : List Int := if fjB c zs then fjTo c zs 24 else []
def fjCode (c : CV) (zs : List ZV) : Int := if fjB c zs then 0 else 1
theorem fjXs_len (c : CV) (zs : List ZV) : (fjXs c zs).length ≤ 24 := by
  unfold fjXs; split
  · exact fjTo_len _ _ _
  · simp
theorem fj_bad {c : CV} {zs : List ZV} (h : fjB c zs = false) : fjXs c zs = [] ∧ fjCode c zs = 1 := by unfold fjXs fjCode; rw [h]; exact ⟨rfl, rfl⟩
theorem fj_ok {c : CV} {zs : List ZV} (h : fjB c zs = true) : fjXs c zs = fjTo c zs 24 ∧ fjCode c zs = 0 := by unfold fjXs fjCode; rw [h]; exact ⟨rfl, rfl⟩
theorem freeB_any (c : CV) (ps : List Zone) (d : Nat) : freeB c (ps.map Zone.val) d = !ps.any fun z => jbQ d c.1.ax c.1.ay c.1.height c.1.jib z.val := by unfold freeB; rw [List.any_map]; rfl
theorem growLo {α : Type} {c : α → List Value} {k : Nat} {w : World} {lo lo' : Nat} {e : TypeId} {v : Value} {xs : List α} (h : Grow c k w lo e v xs) (hB : lo' ≤ lo) : Grow c k w lo' e v xs := by
  refine ⟨h.1, ?_⟩
  rcases h.2 with h2 | ⟨g, cap, cur, hv, hg, r⟩
  · exact .inl h2
  · exact .inr ⟨g, cap, cur, hv, by omega, r⟩
theorem crane_eq (p : Crane) (w : World) (lo : Nat) (hp : p.v.name.size ≤ 9223372036854775807) (hr : Arr ChartStep.cs 2 w lo w.heap.size p.r.a p.r.n p.r.xs) (hn : p.r.n ≤ 9223372036854775807) {v : Bool} (hv : craneOk p.val = v) :
    Calls Tryd.prog 80 #[.agg #[.string p.v.name, .int .i64 p.v.ax, .int .i64 p.v.ay, .int .i64 p.v.height, .int .i64 p.v.jib, .int .i64 p.v.back, .slice p.r.a p.r.n p.r.cap]] w fun e w' => e = .returned (.bool v) ∧ Below w.heap.size w w' := by subst hv; exact validCrane_any p w lo hp hr hn
theorem crane_plc {p : Crane} (h : craneOk p.val = true) : plcB p.v.ax p.v.ay = true ∧ 0 ≤ p.v.jib ∧ p.v.jib ≤ 1000 := by
  have hc := craneOk_parts h
  have h1 : (-10000 ≤ p.v.ax ∧ p.v.ax ≤ 10000) ∧ (-10000 ≤ p.v.ay ∧ p.v.ay ≤ 10000) := hc.at_
  have h2 : 1 ≤ p.v.jib ∧ p.v.jib ≤ 1000 := hc.jib
  refine ⟨?_, by omega, h2.2⟩
  unfold plcB
  rw [inB_true.2 h1.1, inB_true.2 h1.2]; rfl

set_option maxRecDepth 100000 in
set_option maxHeartbeats 3200000 in
theorem freeJib_any (p : Crane) (A : Option Addr) (n c : Nat) (ps : List Zone) (w : World) (lo lo2 : Nat) (hr : Arr ChartStep.cs 2 w lo2 w.heap.size p.r.a p.r.n p.r.xs) (hpn : p.r.n ≤ 9223372036854775807) (hp : p.v.name.size ≤ 9223372036854775807) (h : Zones w lo w.heap.size A n ps) (hn : n ≤ 1048576) (hps : ∀ z ∈ ps, z.r.n ≤ 1048576) (hqt : QtrW w) :
    Calls Tryd.prog 20 #[.agg #[.string p.v.name, .int .i64 p.v.ax, .int .i64 p.v.ay, .int .i64 p.v.height, .int .i64 p.v.jib, .int .i64 p.v.back, .slice p.r.a p.r.n p.r.cap], .slice A n c] w (RetS ic 1 2 (fjXs p.val (ps.map Zone.val)) (fjCode p.val (ps.map Zone.val)) w) := by
  obtain ⟨W, hW⟩ : ∃ W : World, W = w.alloc (.cells #[.string p.v.name, .int .i64 p.v.ax, .int .i64 p.v.ay, .int .i64 p.v.height, .int .i64 p.v.jib, .int .i64 p.v.back, .slice p.r.a p.r.n p.r.cap] 44) := ⟨_, rfl⟩
  have B0 : Below w.heap.size w W := by rw [hW]; exact (Below.refl _ _).alloc (Nat.le_refl _) _
  have P0 : Blk W w.heap.size 44 #[.string p.v.name, .int .i64 p.v.ax, .int .i64 p.v.ay, .int .i64 p.v.height, .int .i64 p.v.jib, .int .i64 p.v.back, .slice p.r.a p.r.n p.r.cap] := by rw [hW]; exact Blk.new _ _ _
  have HB0 := Lib.hid B0
  have HP0 := Lib.hid P0
  have HA := Lib.hid (h.next B0)
  have HR := Lib.hid ((hr.below B0).more B0.size)
  have HQT := Lib.hid (hqt.bel B0)
  have HFJ : Hid (fjB p.val (ps.map Zone.val) = (craneOk p.val && zsOk (ps.map Zone.val))) := rfl
  obtain ⟨k0, k1, k2, k3, k4, k5, k6⟩ := Crane.blk P0
  clear h hr hqt B0 P0
  cases h1 : craneOk p.val
  · have HE := Lib.hid (fj_bad (c := p.val) (zs := ps.map Zone.val) (by rw [HFJ.out, h1]; rfl))
    have H1 := Lib.hid h1
    clear h1
    go_enter Tryd.func20, Tryd.ntmps20
    go_wp2_with fail
    rw [← hW]
    clear hW
    go_wp2_with fail
    refine (crane_eq p W lo2 hp HR.out hpn H1.out).mono ?_
    rintro e w1 ⟨rfl, hb1⟩
    go_wp2
    go_ret2
    rw [HE.out.1, HE.out.2]; exact RetS.nil (HB0.out.trans (hb1.mono HB0.out.size))
  · have H1 := Lib.hid h1
    clear h1
    cases h2 : zsOk (ps.map Zone.val)
    · have HE := Lib.hid (fj_bad (c := p.val) (zs := ps.map Zone.val) (by rw [HFJ.out, h2]; simp))
      have H2 := Lib.hid h2
      clear h2
      go_enter Tryd.func20, Tryd.ntmps20
      go_wp2_with fail
      rw [← hW]
      clear hW
      go_wp2_with fail
      refine (crane_eq p W lo2 hp HR.out hpn H1.out).mono ?_
      rintro e w1 ⟨rfl, hb1⟩
      have HA1 := Lib.hid (HA.out.next hb1)
      go_wp2_with fail
      refine (zs_eq A n c ps w1 lo HA1.out hn hps H2.out).mono ?_
      rintro e w2 ⟨rfl, hb2⟩
      go_wp2
      go_ret2
      rw [HE.out.1, HE.out.2]; exact RetS.nil ((HB0.out.trans (hb1.mono HB0.out.size)).trans (hb2.mono (by have := HB0.out.size; have := hb1.size; omega)))
    · have HE := Lib.hid (fj_ok (c := p.val) (zs := ps.map Zone.val) (by rw [HFJ.out, H1.out, h2]; rfl))
      have H2 := Lib.hid h2
      have HC := Lib.hid (crane_plc H1.out)
      clear h2
      go_enter Tryd.func20, Tryd.ntmps20
      go_wp2_with fail
      rw [← hW]
      clear hW
      go_wp2_with fail
      refine (crane_eq p W lo2 hp HR.out hpn H1.out).mono ?_
      rintro e w1 ⟨rfl, hb1⟩
      have HB1 := Lib.hid (HB0.out.trans (hb1.mono HB0.out.size))
      have HA1 := Lib.hid (HA.out.next hb1)
      have HP1 := Lib.hid (HP0.out.bel hb1)
      have HQ1 := Lib.hid (HQT.out.bel hb1)
      clear hb1 k0 k1 k2 k3 k4 k5 k6
      go_wp2_with fail
      refine (zs_eq A n c ps w1 lo HA1.out hn hps H2.out).mono ?_
      rintro e w2 ⟨rfl, hb2⟩
      have HB2 := Lib.hid (HB1.out.trans (hb2.mono HB1.out.size))
      have HA2 := Lib.hid (HA1.out.next hb2)
      have HP2 := Lib.hid (HP1.out.bel hb2)
      have HQ2 := Lib.hid (HQ1.out.bel hb2)
      have hsw := HB2.out.size
      clear hb2 HA HA1 HP0 HP1 HQT HQ1 HB0 HB1
      go_wp2
      go_loopw [6, 16] (fun v i wr => ∃ k : Nat, k ≤ 24 ∧ i = .int .i64 (k : Int) ∧ Grow ic 1 wr w2.heap.size 2 v (fjTo p.val (ps.map Zone.val) k) ∧ Below w2.heap.size w2 wr) (fun _ i _ => 24 - (intOf i).toNat)
      case atStart => exact ⟨0, Nat.zero_le _, rfl, Grow.nil _ _ _, Below.refl _ _⟩
      case round =>
        obtain ⟨k, hk, rfl, hgr, hbw⟩ := hrel
        have hll := fjTo_len p.val (ps.map Zone.val) k
        have hsz := hbw.size
        by_cases hlt : k < 24
        · have hkn : (k : Int) < 24 := by omega
          have hk0 : (0 : Int) ≤ (k : Int) := by omega
          obtain ⟨W3, hW3⟩ : ∃ W3 : World, W3 = wr.alloc (.cells #[.int .i64 (k : Int)] 2) := ⟨_, rfl⟩
          have B3 : Below w2.heap.size w2 W3 := by rw [hW3]; exact hbw.alloc hsz _
          have B3r : Below wr.heap.size wr W3 := by rw [hW3]; exact (Below.refl _ _).alloc (Nat.le_refl _) _
          have D3 : Blk W3 wr.heap.size 2 #[.int .i64 (k : Int)] := by rw [hW3]; exact Blk.new _ _ _
          have C3 := HP2.out.bel B3
          have Q3 := HQ2.out.bel B3
          have Z3 := HA2.out.next B3
          have HG3 := Lib.hid (hgr.bel B3r)
          have HB3 := Lib.hid B3
          have HD3 := Lib.hid D3
          have HCT := Lib.hid (containsFJ_any A n c ps W3 lo Z3 (by omega) (fun z => jbQ k p.v.ax p.v.ay p.v.height p.v.jib z.val) ⟨w.heap.size, 0, none⟩ ⟨wr.heap.size, 0, none⟩ (fun z X hz hX =>
            fj1_any p z w.heap.size wr.heap.size k X lo (((Z3.2 _ hz).below hX).more hX.size) (hps _ hz) (all_at (zsOk_all H2.out) hz) hlt HC.out.2 HC.out.1 (Q3.bel hX) (C3.bel hX) (D3.bel hX)))
          have HFB := Lib.hid (freeB_any p.val ps k)
          clear hgr hbw B3 B3r D3 C3 Q3 Z3
          cases hf : ps.any (fun z => jbQ k p.v.ax p.v.ay p.v.height p.v.jib z.val)
          · have HF : Hid (freeB p.val (ps.map Zone.val) k = true) := by show _ = _; rw [HFB.out]; exact congrArg (! ·) hf
            have HFV := Lib.hid hf
            clear hf
            go_wp2_with fail
            rw [← hW3]
            clear hW3
            refine HCT.out.mono ?_
            rintro e w4 ⟨rfl, hb4⟩
            rw [HFV.out]
            have HB4 := Lib.hid (HB3.out.trans (hb4.mono HB3.out.size))
            have HG4 := Lib.hid (HG3.out.bel hb4)
            have d4 : w4.cell? ⟨wr.heap.size, 0, none⟩ = some (.int .i64 (k : Int)) := ((HD3.out.bel hb4).cell 0).trans rfl
            have hs4 := HB4.out.size
            clear hb4 HCT
            go_wp2_with (at_builtin; refine wpList_snoc _ rfl _ _ 38 rfl w2.heap.size 2 (.int .i64 0) 8 Tryd.underlying38 infoInt rfl (by omega) _ (fjTo p.val (ps.map Zone.val) k) ((k : Nat) : Int) rfl (HG4.out.alloc _) _ _ rfl (heap_alloc_new _ _) rfl rfl (ic_one _) (by omega) (by omega) (by simp; omega) ?_; intro v5 w5 hg5 hgr5)
            have HB5 : Hid (Below w2.heap.size w2 w5) := (HG4.out.alloc _).below (HB4.out.alloc hs4 _) hgr5 (Nat.le_refl _) (by simp; omega)
            go_roundw
            case rel => exact ⟨k + 1, by omega, by go_num, by rw [fjTo_yes HF.out]; exact hg5, HB5.out⟩
            case measure => simp [intOf]; omega
          · have HF : Hid (freeB p.val (ps.map Zone.val) k = false) := by show _ = _; rw [HFB.out]; exact congrArg (! ·) hf
            have HFV := Lib.hid hf
            clear hf
            go_wp2_with fail
            rw [← hW3]
            clear hW3
            refine HCT.out.mono ?_
            rintro e w4 ⟨rfl, hb4⟩
            rw [HFV.out]
            have HB4 := Lib.hid (HB3.out.trans (hb4.mono HB3.out.size))
            have HG4 := Lib.hid (HG3.out.bel hb4)
            clear hb4 HCT
            go_wp2
            go_roundw
            case rel => exact ⟨k + 1, by omega, by go_num, by rw [fjTo_no HF.out]; exact HG4.out, HB4.out⟩
            case measure => simp [intOf]; omega
        · obtain rfl : k = 24 := by omega
          go_wp2
          go_ret2
          rw [HE.out.1, HE.out.2]; exact (growLo hgr hsw).rets ic_len (HB2.out.trans (hbw.mono hsw))
end Go.Proofs.YtdhobglhjdgboaaDoor
/- XFj5: FreeJibDirections of the reference. -/
namespace Go.Proofs.YtdhobglhjdgboaaDoor
open Go.RowKit Go.Sort
set_option linter.unusedVariables false
attribute [local irreducible] vecN

def nfTo {α : Type} (q : α → Bool) (zs : List α) (k : Nat) : Bool := !((zs.take k).any q)
theorem nf_step {α : Type} {q : α → Bool} {zs : List α} {k : Nat} {z : α} (h : zs[k]? = some z) : nfTo q zs (k + 1) = (nfTo q zs k && !q z) := by
  unfold nfTo; rw [List.take_add_one, h, List.any_append]; simp
theorem nf_end {α : Type} {q : α → Bool} {zs : List α} : nfTo q zs zs.length = !zs.any q := by unfold nfTo; rw [List.take_length]
theorem zone_at {ps : List Zone} {k : Nat} {z : Zone} (h : ps[k]? = some z) : (ps.map Zone.val)[k]? = some z.val := by rw [List.getElem?_map, h]; rfl
theorem craneS_eq (b off : Nat) (p : Crane) (w : World) (lo : Nat) (hp : p.v.name.size ≤ 9223372036854775807) (hr : Arr ChartStep.cs 2 w lo w.heap.size p.r.a p.r.n p.r.xs) (hn : p.r.n ≤ 9223372036854775807) (hbl : b < w.heap.size)
    (c0 : w.cell? ⟨b, off, none⟩ = some (.string p.v.name)) (c1 : w.cell? ⟨b, off + 1, none⟩ = some (.int .i64 p.v.ax)) (c2 : w.cell? ⟨b, off + 2, none⟩ = some (.int .i64 p.v.ay)) (c3 : w.cell? ⟨b, off + 3, none⟩ = some (.int .i64 p.v.height)) (c4 : w.cell? ⟨b, off + 4, none⟩ = some (.int .i64 p.v.jib)) (c5 : w.cell? ⟨b, off + 5, none⟩ = some (.int .i64 p.v.back)) (c6 : w.cell? ⟨b, off + 6, none⟩ = some (.slice p.r.a p.r.n p.r.cap)) {v : Bool} (hv : craneOk p.val = v) :
    Calls Tryd.prog 72 #[.pointer (some ⟨b, off, none⟩)] w fun e w' => e = .returned (.bool v) ∧ Below w.heap.size w w' := by subst hv; exact l04Ok_any b off p w lo hp hr hn hbl c0 c1 c2 c3 c4 c5 c6

set_option maxRecDepth 100000 in
set_option maxHeartbeats 3200000 in
theorem specFreeJib_any (p : Crane) (A : Option Addr) (n c : Nat) (ps : List Zone) (w : World) (lo lo2 : Nat) (hr : Arr ChartStep.cs 2 w lo2 w.heap.size p.r.a p.r.n p.r.xs) (hpn : p.r.n ≤ 9223372036854775807) (hp : p.v.name.size ≤ 9223372036854775807) (h : Zones w lo w.heap.size A n ps) (hn : n ≤ 1048576) (hps : ∀ z ∈ ps, z.r.n ≤ 1048576) :
    Calls Tryd.prog 17 #[.agg #[.string p.v.name, .int .i64 p.v.ax, .int .i64 p.v.ay, .int .i64 p.v.height, .int .i64 p.v.jib, .int .i64 p.v.back, .slice p.r.a p.r.n p.r.cap], .slice A n c] w (RetS ic 1 2 (fjXs p.val (ps.map Zone.val)) (fjCode p.val (ps.map Zone.val)) w) := by
  obtain ⟨W, hW⟩ : ∃ W : World, W = w.alloc (.cells #[.string p.v.name, .int .i64 p.v.ax, .int .i64 p.v.ay, .int .i64 p.v.height, .int .i64 p.v.jib, .int .i64 p.v.back, .slice p.r.a p.r.n p.r.cap] 44) := ⟨_, rfl⟩
  have B0 : Below w.heap.size w W := by rw [hW]; exact (Below.refl _ _).alloc (Nat.le_refl _) _
  have P0 : Blk W w.heap.size 44 #[.string p.v.name, .int .i64 p.v.ax, .int .i64 p.v.ay, .int .i64 p.v.height, .int .i64 p.v.jib, .int .i64 p.v.back, .slice p.r.a p.r.n p.r.cap] := by rw [hW]; exact Blk.new _ _ _
  have HB0 := Lib.hid B0
  have HP0 := Lib.hid P0
  have HA := Lib.hid (h.next B0)
  have HR := Lib.hid ((hr.below B0).more B0.size)
  have HL : Hid ((ps.map Zone.val).length = n) := by show _ = _; rw [List.length_map]; exact h.len
  have HFJ : Hid (fjB p.val (ps.map Zone.val) = (craneOk p.val && zsOk (ps.map Zone.val))) := rfl
  clear h hr B0 P0
  cases h1 : craneOk p.val
  · have HE := Lib.hid (fj_bad (c := p.val) (zs := ps.map Zone.val) (by rw [HFJ.out, h1]; rfl))
    have H1 := Lib.hid h1
    clear h1
    go_enter Tryd.func17, Tryd.ntmps17
    go_wp2_with fail
    rw [← hW]
    clear hW
    refine (craneS_eq w.heap.size 0 p W lo2 hp HR.out hpn HP0.out.lt (HP0.out.cell 0) (HP0.out.cell 1) (HP0.out.cell 2) (HP0.out.cell 3) (HP0.out.cell 4) (HP0.out.cell 5) (HP0.out.cell 6) H1.out).mono ?_
    rintro e w1 ⟨rfl, hb1⟩
    go_wp2
    go_ret2
    rw [HE.out.1, HE.out.2]; exact RetS.nil (HB0.out.trans (hb1.mono HB0.out.size))
  · have H1 := Lib.hid h1
    clear h1
    cases h2 : zsOk (ps.map Zone.val)
    · have HE := Lib.hid (fj_bad (c := p.val) (zs := ps.map Zone.val) (by rw [HFJ.out, h2]; simp))
      have H2 := Lib.hid h2
      clear h2
      go_enter Tryd.func17, Tryd.ntmps17
      go_wp2_with fail
      rw [← hW]
      clear hW
      refine (craneS_eq w.heap.size 0 p W lo2 hp HR.out hpn HP0.out.lt (HP0.out.cell 0) (HP0.out.cell 1) (HP0.out.cell 2) (HP0.out.cell 3) (HP0.out.cell 4) (HP0.out.cell 5) (HP0.out.cell 6) H1.out).mono ?_
      rintro e w1 ⟨rfl, hb1⟩
      have HA1 := Lib.hid (HA.out.next hb1)
      go_wp2_with fail
      refine (lst_eq A n c ps w1 lo HA1.out hn hps H2.out).mono ?_
      rintro e w2 ⟨rfl, hb2⟩
      go_wp2
      go_ret2
      rw [HE.out.1, HE.out.2]; exact RetS.nil ((HB0.out.trans (hb1.mono HB0.out.size)).trans (hb2.mono (by have := HB0.out.size; have := hb1.size; omega)))
    · have HE := Lib.hid (fj_ok (c := p.val) (zs := ps.map Zone.val) (by rw [HFJ.out, H1.out, h2]; rfl))
      have H2 := Lib.hid h2
      have HC := Lib.hid (crane_plc H1.out)
      clear h2
      go_enter Tryd.func17, Tryd.ntmps17
      go_wp2_with fail
      rw [← hW]
      clear hW
      refine (craneS_eq w.heap.size 0 p W lo2 hp HR.out hpn HP0.out.lt (HP0.out.cell 0) (HP0.out.cell 1) (HP0.out.cell 2) (HP0.out.cell 3) (HP0.out.cell 4) (HP0.out.cell 5) (HP0.out.cell 6) H1.out).mono ?_
      rintro e w1 ⟨rfl, hb1⟩
      have HB1 := Lib.hid (HB0.out.trans (hb1.mono HB0.out.size))
      have HA1 := Lib.hid (HA.out.next hb1)
      have HP1 := Lib.hid (HP0.out.bel hb1)
      clear hb1
      go_wp2_with fail
      refine (lst_eq A n c ps w1 lo HA1.out hn hps H2.out).mono ?_
      rintro e w2 ⟨rfl, hb2⟩
      have HB2 := Lib.hid (HB1.out.trans (hb2.mono HB1.out.size))
      have HA2 := Lib.hid (HA1.out.next hb2)
      have HP2 := Lib.hid (HP1.out.bel hb2)
      have hsw := HB2.out.size
      obtain ⟨W2, hW2⟩ : ∃ W2 : World, W2 = w2.alloc (.cells #[] 2) := ⟨_, rfl⟩
      have HG0 : Hid (Grow ic 1 W2 w2.heap.size 2 (.slice (some ⟨w2.heap.size, 0, none⟩) 0 0) ([] : List Int)) := by show Grow _ _ _ _ _ _ _; rw [hW2]; exact Grow.empty w2 _ _ (Nat.le_refl _)
      have HBW2 : Hid (Below w2.heap.size w2 W2) := by show Below _ _ _; rw [hW2]; exact (Below.refl _ _).alloc (Nat.le_refl _) _
      clear hb2 HA HA1 HP0 HP1 HB0 HB1
      go_wp2
      rw [← hW2]
      clear hW2
      go_loopw [6, 7] (fun v i wr => ∃ k : Nat, k ≤ 24 ∧ i = .int .i64 (k : Int) ∧ Grow ic 1 wr w2.heap.size 2 v (fjTo p.val (ps.map Zone.val) k) ∧ Below w2.heap.size w2 wr) (fun _ i _ => 24 - (intOf i).toNat)
      case atStart => exact ⟨0, Nat.zero_le _, rfl, HG0.out, HBW2.out⟩
      case round =>
        obtain ⟨k, hk, rfl, hgr, hbw⟩ := hrel
        rename World => wr
        have hll := fjTo_len p.val (ps.map Zone.val) k
        have hsz := hbw.size
        by_cases hlt : k < 24
        · have hkn : (k : Int) < 24 := by omega
          have hk0 : (0 : Int) ≤ (k : Int) := by omega
          have HGR := Lib.hid hgr
          have HBW := Lib.hid hbw
          have HQ : Hid (∀ z : Zone, jbQ k p.val.1.ax p.val.1.ay p.val.1.height p.val.1.jib z.val = (jibB z.v p.v.height && meetB z.r.xs ⟨p.v.ax, p.v.ay⟩ (atN k p.v.jib p.v.ax p.v.ay))) := fun _ => rfl
          have HFB : Hid (freeB p.val (ps.map Zone.val) k = !(ps.map Zone.val).any (jbQ k p.val.1.ax p.val.1.ay p.val.1.height p.val.1.jib)) := rfl
          clear hgr hbw
          go_wp2
          go_loopw [8, 9] (fun v i wq => ∃ j : Nat, j ≤ n ∧ i = .int .i64 (j : Int) ∧ v = .bool (nfTo (jbQ k p.val.1.ax p.val.1.ay p.val.1.height p.val.1.jib) (ps.map Zone.val) j) ∧ Below wr.heap.size wr wq) (fun _ i _ => n - (intOf i).toNat)
          case atStart => exact ⟨0, Nat.zero_le _, rfl, rfl, Below.refl _ _⟩
          case round =>
            obtain ⟨j, hj, rfl, rfl, hbq⟩ := hrel
            rename World => wq
            have HBQ := Lib.hid (HBW.out.trans (hbq.mono HBW.out.size))
            have HGQ := Lib.hid (HGR.out.bel hbq)
            have HRQ := Lib.hid hbq
            clear hbq
            obtain ⟨fv, hfv⟩ : ∃ fv, nfTo (jbQ k p.val.1.ax p.val.1.ay p.val.1.height p.val.1.jib) (ps.map Zone.val) j = fv := ⟨_, rfl⟩
            have HFV := Lib.hid hfv
            rw [hfv]
            clear hfv
            by_cases hjn : j < n
            · have hjk0 : (0 : Int) ≤ (j : Int) := by omega
              have hjk1 : (j : Int) < (n : Int) := by omega
              have HAQ := Lib.hid (HA2.out.next HBQ.out)
              have hP := HP2.out.bel HBQ.out
              obtain ⟨k0, k1, k2, k3, k4, k5, k6⟩ := Crane.blk hP
              obtain ⟨b, off, z, eA, hx, hbl, hz, har⟩ := Zone.zat HAQ.out hjn
              have hzn := hps z (List.mem_of_getElem? hx)
              have hzo : zoneOk z.val = true := all_at (zsOk_all H2.out) (List.mem_of_getElem? hx)
              have hwide := atN_wide (d := k) HC.out.2 HC.out.1
              have HST : Hid (nfTo (jbQ k p.val.1.ax p.val.1.ay p.val.1.height p.val.1.jib) (ps.map Zone.val) (j + 1) = (fv && !(jibB z.v p.v.height && meetB z.r.xs ⟨p.v.ax, p.v.ay⟩ (atN k p.v.jib p.v.ax p.v.ay)))) := by show _ = _; rw [nf_step (zone_at hx), HFV.out, HQ.out z]
              have HLD : Hid (∀ v, jibB z.v p.v.height = v → ∀ d os, Calls Tryd.prog 74 #[.pointer (some ⟨b, off + j * 4, none⟩), .int .i64 p.v.height] (grow (redrawn wq d) os) fun e w' => e = .returned (.bool v) ∧ Below (grow (redrawn wq d) os).heap.size (grow (redrawn wq d) os) w') := fun v hv d os => by
                subst hv
                exact l05Jib_any b (off + j * 4) z p.v.height _ (hz.below (below_regrown wq d os) hbl) (zoneOk_hd hzo)
              have HJE : Hid (∀ d1 os, Calls Tryd.prog 76 #[.pointer (some ⟨w.heap.size, 0, none⟩), .int .i64 (k : Int)] (grow (redrawn wq d1) os) fun e w' => e = .returned (.agg #[.int .i64 (atN k p.v.jib p.v.ax p.v.ay).x, .int .i64 (atN k p.v.jib p.v.ax p.v.ay).y]) ∧ Below (grow (redrawn wq d1) os).heap.size (grow (redrawn wq d1) os) w') := fun d1 os => by
                have hP9 := hP.bel (below_regrown wq d1 os)
                exact l04Jib_any w.heap.size 0 p.v.ax p.v.ay p.v.jib k hlt HC.out.2 HC.out.1 _ (hP9.cell 1) (hP9.cell 2) (hP9.cell 4) hP9.lt
              have HMT : Hid (∀ v, meetB z.r.xs ⟨p.v.ax, p.v.ay⟩ (atN k p.v.jib p.v.ax p.v.ay) = v → ∀ d os, Calls Tryd.prog 75 #[.pointer (some ⟨b, off + j * 4, none⟩), .agg #[.int .i64 p.v.ax, .int .i64 p.v.ay], .agg #[.int .i64 (atN k p.v.jib p.v.ax p.v.ay).x, .int .i64 (atN k p.v.jib p.v.ax p.v.ay).y]] (grow (redrawn wq d) os) fun e w' => e = .returned (.bool v) ∧ Below (grow (redrawn wq d) os).heap.size (grow (redrawn wq d) os) w') := fun v hv d os => by
                subst hv
                have hr9 := below_regrown wq d os
                exact l05Meets_any b (off + j * 4) z ⟨p.v.ax, p.v.ay⟩ (atN k p.v.jib p.v.ax p.v.ay) _ lo (hz.below hr9 hbl) (by have := hr9.size; omega) ((har.below hr9).more hr9.size) hzn (by have := zoneOk_corners hzo; rw [← har.1]; exact this) (plcW_of HC.out.1) hwide
              have k1' := cell_regrown k1
              have k2' := cell_regrown k2
              have k3' := cell_regrown k3
              subst eA
              clear hx hz har hzo hP hwide k0 k1 k2 k3 k4 k5 k6
              obtain ⟨⟨X, Y⟩, hXY⟩ : ∃ P, atN k p.v.jib p.v.ax p.v.ay = P := ⟨_, rfl⟩
              rw [hXY] at HST HJE HMT
              dsimp only at HJE HMT
              clear hXY
              cases hl : jibB z.v p.v.height
              · have HN : Hid (nfTo (jbQ k p.val.1.ax p.val.1.ay p.val.1.height p.val.1.jib) (ps.map Zone.val) (j + 1) = fv) := by show _ = _; rw [HST.out, hl]; simp
                have HL2 := Lib.hid (HLD.out _ hl)
                clear hl HLD
                go_wp2
                refine wp_region_quiet_below (by kernel_rfl) (by kernel_rfl) ?_
                repeat (go_big_quiet_step (first | (go_at_call 74; exact Calls.regrown_of (HL2.out _ _))))
                refine wpQuiet_nil ?_
                intro _ hw9
                obtain ⟨⟨dq, osq⟩, hw9⟩ := hw9
                subst hw9
                have hb5 := below_regrown wq dq osq
                dsimp only at hb5 ⊢
                generalize grow (redrawn wq dq) osq = w5 at hb5 ⊢
                go_wp2
                go_roundw
                case rel => exact ⟨j + 1, by omega, by go_num, by rw [HN.out], HRQ.out.trans (hb5.mono HRQ.out.size)⟩
                case measure => simp [intOf]; omega
              · cases hm : meetB z.r.xs ⟨p.v.ax, p.v.ay⟩ ⟨X, Y⟩
                · have HN : Hid (nfTo (jbQ k p.val.1.ax p.val.1.ay p.val.1.height p.val.1.jib) (ps.map Zone.val) (j + 1) = fv) := by show _ = _; rw [HST.out, hl, hm]; simp
                  have HL2 := Lib.hid (HLD.out _ hl)
                  have HM2 := Lib.hid (HMT.out _ hm)
                  clear hl hm HLD HMT
                  go_wp2
                  refine wp_region_quiet_below (by kernel_rfl) (by kernel_rfl) ?_
                  repeat (go_big_quiet_step (first | (go_at_call 74; exact Calls.regrown_of (HL2.out _ _)) | (go_at_call 76; exact Calls.regrown_of (HJE.out _ _)) | (go_at_call 75; exact Calls.regrown_of (HM2.out _ _))))
                  refine wpQuiet_nil ?_
                  intro _ hw9
                  obtain ⟨⟨dq, osq⟩, hw9⟩ := hw9
                  subst hw9
                  have hb5 := below_regrown wq dq osq
                  dsimp only at hb5 ⊢
                  generalize grow (redrawn wq dq) osq = w5 at hb5 ⊢
                  go_wp2
                  go_roundw
                  case rel => exact ⟨j + 1, by omega, by go_num, by rw [HN.out], HRQ.out.trans (hb5.mono HRQ.out.size)⟩
                  case measure => simp [intOf]; omega
                · have HN : Hid (nfTo (jbQ k p.val.1.ax p.val.1.ay p.val.1.height p.val.1.jib) (ps.map Zone.val) (j + 1) = false) := by show _ = _; rw [HST.out, hl, hm]; simp
                  have HL2 := Lib.hid (HLD.out _ hl)
                  have HM2 := Lib.hid (HMT.out _ hm)
                  clear hl hm HLD HMT
                  go_wp2
                  refine wp_region_quiet_below (by kernel_rfl) (by kernel_rfl) ?_
                  repeat (go_big_quiet_step (first | (go_at_call 74; exact Calls.regrown_of (HL2.out _ _)) | (go_at_call 76; exact Calls.regrown_of (HJE.out _ _)) | (go_at_call 75; exact Calls.regrown_of (HM2.out _ _))))
                  refine wpQuiet_nil ?_
                  intro _ hw9
                  obtain ⟨⟨dq, osq⟩, hw9⟩ := hw9
                  subst hw9
                  have hb5 := below_regrown wq dq osq
                  dsimp only at hb5 ⊢
                  generalize grow (redrawn wq dq) osq = w5 at hb5 ⊢
                  go_wp2
                  go_roundw
                  case rel => exact ⟨j + 1, by omega, by go_num, by rw [HN.out], HRQ.out.trans (hb5.mono HRQ.out.size)⟩
                  case measure => simp [intOf]; omega
            · obtain rfl : j = n := by omega
              have hsq := HBQ.out.size
              have HFF : Hid (freeB p.val (ps.map Zone.val) k = fv) := by show _ = _; rw [HFB.out, ← nf_end, HL.out, HFV.out]
              cases fv
              · go_wp2
                go_roundw
                case rel => exact ⟨k + 1, by omega, by go_num, by rw [fjTo_no HFF.out]; exact HGQ.out, HBQ.out⟩
                case measure => simp [intOf]; omega
              · go_wp2_with (at_builtin; refine wpList_snoc _ rfl _ _ 38 rfl w2.heap.size 2 (.int .i64 0) 8 Tryd.underlying38 infoInt rfl (by omega) _ (fjTo p.val (ps.map Zone.val) k) ((k : Nat) : Int) rfl (HGQ.out.alloc _) _ _ rfl (heap_alloc_new _ _) rfl rfl (ic_one _) (by omega) (by omega) (by simp; omega) ?_; intro v5 w5 hg5 hgr5)
                have HB5 : Hid (Below w2.heap.size w2 w5) := (HGQ.out.alloc _).below (HBQ.out.alloc hsq _) hgr5 (Nat.le_refl _) (by simp; omega)
                go_roundw
                case rel => exact ⟨k + 1, by omega, by go_num, by rw [fjTo_yes HFF.out]; exact hg5, HB5.out⟩
                case measure => simp [intOf]; omega
        · obtain rfl : k = 24 := by omega
          go_wp2
          go_ret2
          rw [HE.out.1, HE.out.2]; exact (growLo hgr hsw).rets ic_len (HB2.out.trans (hbw.mono hsw))
theorem specFreeJib_v (p : Crane) (A : Option Addr) (n c : Nat) (ps : List Zone) (vs : List ZV) (hv : ps.map Zone.val = vs) (cv : CV) (hcv : p.val = cv) (w : World) (lo lo2 : Nat) (hr : Arr ChartStep.cs 2 w lo2 w.heap.size p.r.a p.r.n p.r.xs) (hpn : p.r.n ≤ 9223372036854775807) (hp : p.v.name.size ≤ 9223372036854775807) (h : Zones w lo w.heap.size A n ps) (hn : n ≤ 1048576) (hps : ∀ z ∈ ps, z.r.n ≤ 1048576) :
    Calls Tryd.prog 17 #[.agg #[.string p.v.name, .int .i64 p.v.ax, .int .i64 p.v.ay, .int .i64 p.v.height, .int .i64 p.v.jib, .int .i64 p.v.back, .slice p.r.a p.r.n p.r.cap], .slice A n c] w (RetS ic 1 2 (fjXs cv vs) (fjCode cv vs) w) := by subst hv; subst hcv; exact specFreeJib_any p A n c ps w lo lo2 hr hpn hp h hn hps
theorem freeJib_v (p : Crane) (A : Option Addr) (n c : Nat) (ps : List Zone) (vs : List ZV) (hv : ps.map Zone.val = vs) (cv : CV) (hcv : p.val = cv) (w : World) (lo lo2 : Nat) (hr : Arr ChartStep.cs 2 w lo2 w.heap.size p.r.a p.r.n p.r.xs) (hpn : p.r.n ≤ 9223372036854775807) (hp : p.v.name.size ≤ 9223372036854775807) (h : Zones w lo w.heap.size A n ps) (hn : n ≤ 1048576) (hps : ∀ z ∈ ps, z.r.n ≤ 1048576) (hqt : QtrW w) :
    Calls Tryd.prog 20 #[.agg #[.string p.v.name, .int .i64 p.v.ax, .int .i64 p.v.ay, .int .i64 p.v.height, .int .i64 p.v.jib, .int .i64 p.v.back, .slice p.r.a p.r.n p.r.cap], .slice A n c] w (RetS ic 1 2 (fjXs cv vs) (fjCode cv vs) w) := by subst hv; subst hcv; exact freeJib_any p A n c ps w lo lo2 hr hpn hp h hn hps hqt
end Go.Proofs.YtdhobglhjdgboaaDoor
