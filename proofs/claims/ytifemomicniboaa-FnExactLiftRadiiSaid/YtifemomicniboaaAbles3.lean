/- Cranes and lifts: liftOk, can, LiftRadii, LiftMargin, CanLift, UsedPercent of the program. -/
import Derived.Test.YtifemomicniboaaAbles2
namespace Go.Proofs.Ytifemomicniboaa
open Go.RowKit Go.Sort
set_option linter.unusedVariables false

def okB (c : CV) (v : LiftV) : Bool := craneOk c && plainB v
def ableB (c : CV) (v : LiftV) : Bool := decide (v.weight ≤ ldF c v) && decide (v.height + 30 ≤ c.1.height)
theorem okB_parts {c : CV} {v : LiftV} (h : okB c v = true) : craneOk c = true ∧ plainB v = true := by unfold okB at h; rwa [Bool.and_eq_true] at h
theorem PlainV.ne {c : CV} {v : LiftV} (h : PlainV v) (h2 : ldF c v < 0) : ableB c v = false := by
  have := h.weight
  unfold ableB; rw [decide_eq_false (by omega)]; rfl

set_option maxRecDepth 100000 in
set_option maxHeartbeats 1600000 in
theorem liftOk_any (p : Crane) (l : Lift) (w : World) (lo lo2 : Nat) (hr : Arr ChartStep.cs 2 w lo w.heap.size p.r.a p.r.n p.r.xs) (hn : p.r.n ≤ 9223372036854775807) (hp : p.v.name.size ≤ 9223372036854775807) (hq : l.v.name.size ≤ 9223372036854775807) :
    Calls Try.prog 80 #[.agg #[.string p.v.name, .int .i64 p.v.ax, .int .i64 p.v.ay, .int .i64 p.v.height, .int .i64 p.v.jib, .int .i64 p.v.back, .slice p.r.a p.r.n p.r.cap], .agg #[.string l.v.name, .int .i64 l.v.weight, .int .i64 l.v.fx, .int .i64 l.v.fy, .int .i64 l.v.tx, .int .i64 l.v.ty, .int .i64 l.v.height, .int .i64 l.v.deadline, .slice l.r.a l.r.n l.r.cap]] w fun e w' => e = .returned (.bool (okB p.val l.v)) ∧ Below w.heap.size w w' := by
  obtain ⟨W, hW⟩ : ∃ W : World, W = (w.alloc (.cells #[.string p.v.name, .int .i64 p.v.ax, .int .i64 p.v.ay, .int .i64 p.v.height, .int .i64 p.v.jib, .int .i64 p.v.back, .slice p.r.a p.r.n p.r.cap] 47)).alloc (.cells #[.string l.v.name, .int .i64 l.v.weight, .int .i64 l.v.fx, .int .i64 l.v.fy, .int .i64 l.v.tx, .int .i64 l.v.ty, .int .i64 l.v.height, .int .i64 l.v.deadline, .slice l.r.a l.r.n l.r.cap] 50) := ⟨_, rfl⟩
  have B0 : Below w.heap.size w W := by rw [hW]; exact ((Below.refl _ _).alloc (Nat.le_refl _) _).alloc (by simp) _
  have P0 : Blk W w.heap.size 47 #[.string p.v.name, .int .i64 p.v.ax, .int .i64 p.v.ay, .int .i64 p.v.height, .int .i64 p.v.jib, .int .i64 p.v.back, .slice p.r.a p.r.n p.r.cap] := by rw [hW]; exact (Blk.new _ _ _).alloc _
  have Q0 : Blk W (w.heap.size + 1) 50 #[.string l.v.name, .int .i64 l.v.weight, .int .i64 l.v.fx, .int .i64 l.v.fy, .int .i64 l.v.tx, .int .i64 l.v.ty, .int .i64 l.v.height, .int .i64 l.v.deadline, .slice l.r.a l.r.n l.r.cap] := by rw [hW]; exact Blk.new_at rfl (by simp)
  cases h1 : craneOk p.val
  · have H1 := Lib.hid h1
    have H : Hid (okB p.val l.v = false) := by show _ = _; unfold okB; rw [h1]; rfl
    clear h1
    go_enter Try.func80, Try.ntmps80
    go_wp2_with fail
    rw [← hW]
    clear hW
    obtain ⟨c0, c1, c2, c3, c4, c5, c6⟩ := Crane.blk P0
    obtain ⟨d0, d1, d2, d3, d4, d5, d6, d7, d8⟩ := Lift.blk Q0
    go_wp2_with fail
    refine (validCrane_any p _ lo hp ((hr.below B0).more B0.size) hn).mono ?_
    rintro e w1 ⟨rfl, hb1⟩
    have B1 := B0.trans (hb1.mono B0.size)
    have P1 := P0.bel hb1
    have Q1 := Q0.bel hb1
    clear c0 c1 c2 c3 c4 c5 c6 d0 d1 d2 d3 d4 d5 d6 d7 d8 P0 Q0 hb1
    obtain ⟨c0, c1, c2, c3, c4, c5, c6⟩ := Crane.blk P1
    obtain ⟨d0, d1, d2, d3, d4, d5, d6, d7, d8⟩ := Lift.blk Q1
    rw [H1.out]
    go_wp2
    go_ret
    exact ⟨by rw [H.out]; rfl, B1⟩
  · have H1 := Lib.hid h1
    have H : Hid (okB p.val l.v = plainB l.v) := by show _ = _; unfold okB; rw [h1]; rfl
    clear h1
    go_enter Try.func80, Try.ntmps80
    go_wp2_with fail
    rw [← hW]
    clear hW
    obtain ⟨c0, c1, c2, c3, c4, c5, c6⟩ := Crane.blk P0
    obtain ⟨d0, d1, d2, d3, d4, d5, d6, d7, d8⟩ := Lift.blk Q0
    go_wp2_with fail
    refine (validCrane_any p _ lo hp ((hr.below B0).more B0.size) hn).mono ?_
    rintro e w1 ⟨rfl, hb1⟩
    have B1 := B0.trans (hb1.mono B0.size)
    have P1 := P0.bel hb1
    have Q1 := Q0.bel hb1
    clear c0 c1 c2 c3 c4 c5 c6 d0 d1 d2 d3 d4 d5 d6 d7 d8 P0 Q0 hb1
    obtain ⟨c0, c1, c2, c3, c4, c5, c6⟩ := Crane.blk P1
    obtain ⟨d0, d1, d2, d3, d4, d5, d6, d7, d8⟩ := Lift.blk Q1
    rw [H1.out]
    go_wp2_with fail
    refine (plain_any l _ hq).mono ?_
    rintro e w2 ⟨rfl, hb2⟩
    have B2 := B1.trans (hb2.mono B1.size)
    have P2 := P1.bel hb2
    have Q2 := Q1.bel hb2
    clear c0 c1 c2 c3 c4 c5 c6 d0 d1 d2 d3 d4 d5 d6 d7 d8 P1 Q1 hb2
    obtain ⟨c0, c1, c2, c3, c4, c5, c6⟩ := Crane.blk P2
    obtain ⟨d0, d1, d2, d3, d4, d5, d6, d7, d8⟩ := Lift.blk Q2
    go_wp2
    go_ret
    exact ⟨by rw [H.out]; rfl, B2⟩
set_option maxRecDepth 100000 in
set_option maxHeartbeats 1600000 in
theorem craneCan_any (p : Crane) (l : Lift) (w : World) (lo lo2 : Nat) (hr : Arr ChartStep.cs 2 w lo w.heap.size p.r.a p.r.n p.r.xs) (hn : p.r.n ≤ 9223372036854775807) (hp : p.v.name.size ≤ 9223372036854775807) (hq : l.v.name.size ≤ 9223372036854775807) (hok : craneOk p.val = true) (hpl : plainB l.v = true) :
    Calls Try.prog 101 #[.agg #[.string p.v.name, .int .i64 p.v.ax, .int .i64 p.v.ay, .int .i64 p.v.height, .int .i64 p.v.jib, .int .i64 p.v.back, .slice p.r.a p.r.n p.r.cap], .agg #[.string l.v.name, .int .i64 l.v.weight, .int .i64 l.v.fx, .int .i64 l.v.fy, .int .i64 l.v.tx, .int .i64 l.v.ty, .int .i64 l.v.height, .int .i64 l.v.deadline, .slice l.r.a l.r.n l.r.cap]] w fun e w' => e = .returned (.bool (ableB p.val l.v)) ∧ Below w.heap.size w w' := by
  obtain ⟨W, hW⟩ : ∃ W : World, W = (w.alloc (.cells #[.string p.v.name, .int .i64 p.v.ax, .int .i64 p.v.ay, .int .i64 p.v.height, .int .i64 p.v.jib, .int .i64 p.v.back, .slice p.r.a p.r.n p.r.cap] 47)).alloc (.cells #[.string l.v.name, .int .i64 l.v.weight, .int .i64 l.v.fx, .int .i64 l.v.fy, .int .i64 l.v.tx, .int .i64 l.v.ty, .int .i64 l.v.height, .int .i64 l.v.deadline, .slice l.r.a l.r.n l.r.cap] 50) := ⟨_, rfl⟩
  have B0 : Below w.heap.size w W := by rw [hW]; exact ((Below.refl _ _).alloc (Nat.le_refl _) _).alloc (by simp) _
  have P0 : Blk W w.heap.size 47 #[.string p.v.name, .int .i64 p.v.ax, .int .i64 p.v.ay, .int .i64 p.v.height, .int .i64 p.v.jib, .int .i64 p.v.back, .slice p.r.a p.r.n p.r.cap] := by rw [hW]; exact (Blk.new _ _ _).alloc _
  have Q0 : Blk W (w.heap.size + 1) 50 #[.string l.v.name, .int .i64 l.v.weight, .int .i64 l.v.fx, .int .i64 l.v.fy, .int .i64 l.v.tx, .int .i64 l.v.ty, .int .i64 l.v.height, .int .i64 l.v.deadline, .slice l.r.a l.r.n l.r.cap] := by rw [hW]; exact Blk.new_at rfl (by simp)
  have hP := plainB_parts hpl
  have hC := craneOk_parts hok
  have hf := ldF_range hok l.v
  have hw := hP.weight
  have hh := hP.height
  have hc : 1 ≤ p.v.height ∧ p.v.height ≤ 2000 := hC.height
  have HA := Lib.hid (show ∀ W', Below w.heap.size w W' → Calls Try.prog 99 #[.agg #[.string p.v.name, .int .i64 p.v.ax, .int .i64 p.v.ay, .int .i64 p.v.height, .int .i64 p.v.jib, .int .i64 p.v.back, .slice p.r.a p.r.n p.r.cap], .agg #[.string l.v.name, .int .i64 l.v.weight, .int .i64 l.v.fx, .int .i64 l.v.fy, .int .i64 l.v.tx, .int .i64 l.v.ty, .int .i64 l.v.height, .int .i64 l.v.deadline, .slice l.r.a l.r.n l.r.cap]] W' fun e w' => e = .returned (ldRet (ldF p.val l.v)) ∧ Below W'.heap.size W' w' from fun W' hb => loadFor_any p l W' lo ((hr.below hb).more hb.size) hn hok hpl)
  have HN : Hid (ldF p.val l.v < 0 → ableB p.val l.v = false) := hP.ne
  have HD : Hid (ableB p.val l.v = (decide (l.v.weight ≤ ldF p.val l.v) && decide (l.v.height + 30 ≤ p.v.height))) := rfl
  generalize ldF p.val l.v = f at *
  clear hok hpl hP hC hr
  by_cases h0 : f < 0
  · have K := Lib.hid (ldRet_no h0)
    have H := Lib.hid (HN.out h0)
    clear h0 HN HD
    go_enter Try.func101, Try.ntmps101
    go_wp2_with fail
    rw [← hW]
    clear hW
    obtain ⟨c0, c1, c2, c3, c4, c5, c6⟩ := Crane.blk P0
    obtain ⟨d0, d1, d2, d3, d4, d5, d6, d7, d8⟩ := Lift.blk Q0
    go_wp2_with fail
    refine (HA.out _ B0).mono ?_
    rintro e w1 ⟨rfl, hb1⟩
    rw [K.out]
    have B1 := B0.trans (hb1.mono B0.size)
    have P1 := P0.bel hb1
    have Q1 := Q0.bel hb1
    clear c0 c1 c2 c3 c4 c5 c6 d0 d1 d2 d3 d4 d5 d6 d7 d8 P0 Q0 hb1
    obtain ⟨c0, c1, c2, c3, c4, c5, c6⟩ := Crane.blk P1
    obtain ⟨d0, d1, d2, d3, d4, d5, d6, d7, d8⟩ := Lift.blk Q1
    clear HA
    go_wp2
    all_goals go_ret
    all_goals exact ⟨by rw [H.out]; rfl, B1⟩
  · have K := Lib.hid (ldRet_yes (v := f) (by omega))
    clear HN
    by_cases h1 : l.v.weight ≤ f
    · have H : Hid (ableB p.val l.v = decide (l.v.height + 30 ≤ p.v.height)) := by show _ = _; rw [HD.out, decide_eq_true h1, Bool.true_and]
      clear HD
      go_enter Try.func101, Try.ntmps101
      go_wp2_with fail
      rw [← hW]
      clear hW
      obtain ⟨c0, c1, c2, c3, c4, c5, c6⟩ := Crane.blk P0
      obtain ⟨d0, d1, d2, d3, d4, d5, d6, d7, d8⟩ := Lift.blk Q0
      go_wp2_with fail
      refine (HA.out _ B0).mono ?_
      rintro e w1 ⟨rfl, hb1⟩
      rw [K.out]
      have B1 := B0.trans (hb1.mono B0.size)
      have P1 := P0.bel hb1
      have Q1 := Q0.bel hb1
      clear c0 c1 c2 c3 c4 c5 c6 d0 d1 d2 d3 d4 d5 d6 d7 d8 P0 Q0 hb1
      obtain ⟨c0, c1, c2, c3, c4, c5, c6⟩ := Crane.blk P1
      obtain ⟨d0, d1, d2, d3, d4, d5, d6, d7, d8⟩ := Lift.blk Q1
      clear HA
      go_wp2
      all_goals go_ret
      all_goals exact ⟨by rw [H.out]; rfl, B1⟩
    · have H : Hid (ableB p.val l.v = false) := by show _ = _; rw [HD.out, decide_eq_false h1, Bool.false_and]
      have h2 : decide (l.v.weight ≤ f) = false := decide_eq_false h1
      clear HD
      go_enter Try.func101, Try.ntmps101
      go_wp2_with fail
      rw [← hW]
      clear hW
      obtain ⟨c0, c1, c2, c3, c4, c5, c6⟩ := Crane.blk P0
      obtain ⟨d0, d1, d2, d3, d4, d5, d6, d7, d8⟩ := Lift.blk Q0
      go_wp2_with fail
      refine (HA.out _ B0).mono ?_
      rintro e w1 ⟨rfl, hb1⟩
      rw [K.out]
      have B1 := B0.trans (hb1.mono B0.size)
      have P1 := P0.bel hb1
      have Q1 := Q0.bel hb1
      clear c0 c1 c2 c3 c4 c5 c6 d0 d1 d2 d3 d4 d5 d6 d7 d8 P0 Q0 hb1
      obtain ⟨c0, c1, c2, c3, c4, c5, c6⟩ := Crane.blk P1
      obtain ⟨d0, d1, d2, d3, d4, d5, d6, d7, d8⟩ := Lift.blk Q1
      clear HA
      go_wp2
      all_goals go_ret
      all_goals exact ⟨by rw [H.out]; rfl, B1⟩

def mgVal (c : CV) (v : LiftV) : Int := if okB c v then (if ldF c v < 0 then 0 else ldF c v - v.weight) else 0
def mgCode (c : CV) (v : LiftV) : Int := if okB c v then (if ldF c v < 0 then 3 else 0) else 1
theorem mg_1 {c : CV} {v : LiftV} (h : okB c v = false) : mgVal c v = 0 ∧ mgCode c v = 1 := by unfold mgVal mgCode; rw [h]; exact ⟨rfl, rfl⟩
theorem mg_3 {c : CV} {v : LiftV} (h : okB c v = true) (h2 : ldF c v < 0) : mgVal c v = 0 ∧ mgCode c v = 3 := by unfold mgVal mgCode; rw [h, if_pos h2, if_pos h2]; exact ⟨rfl, rfl⟩
theorem mg_0 {c : CV} {v : LiftV} (h : okB c v = true) (h2 : ¬ ldF c v < 0) : mgVal c v = ldF c v - v.weight ∧ mgCode c v = 0 := by unfold mgVal mgCode; rw [h, if_neg h2, if_neg h2]; exact ⟨rfl, rfl⟩

set_option maxRecDepth 100000 in
set_option maxHeartbeats 1600000 in
theorem liftMargin_any (p : Crane) (l : Lift) (w : World) (lo lo2 : Nat) (hr : Arr ChartStep.cs 2 w lo w.heap.size p.r.a p.r.n p.r.xs) (hn : p.r.n ≤ 9223372036854775807) (hp : p.v.name.size ≤ 9223372036854775807) (hq : l.v.name.size ≤ 9223372036854775807) :
    Calls Try.prog 37 #[.agg #[.string p.v.name, .int .i64 p.v.ax, .int .i64 p.v.ay, .int .i64 p.v.height, .int .i64 p.v.jib, .int .i64 p.v.back, .slice p.r.a p.r.n p.r.cap], .agg #[.string l.v.name, .int .i64 l.v.weight, .int .i64 l.v.fx, .int .i64 l.v.fy, .int .i64 l.v.tx, .int .i64 l.v.ty, .int .i64 l.v.height, .int .i64 l.v.deadline, .slice l.r.a l.r.n l.r.cap]] w fun e w' => e = .returned (.tuple #[.int .i64 (mgVal p.val l.v), .int .i64 (mgCode p.val l.v)]) ∧ Below w.heap.size w w' := by
  obtain ⟨W, hW⟩ : ∃ W : World, W = (w.alloc (.cells #[.string p.v.name, .int .i64 p.v.ax, .int .i64 p.v.ay, .int .i64 p.v.height, .int .i64 p.v.jib, .int .i64 p.v.back, .slice p.r.a p.r.n p.r.cap] 47)).alloc (.cells #[.string l.v.name, .int .i64 l.v.weight, .int .i64 l.v.fx, .int .i64 l.v.fy, .int .i64 l.v.tx, .int .i64 l.v.ty, .int .i64 l.v.height, .int .i64 l.v.deadline, .slice l.r.a l.r.n l.r.cap] 50) := ⟨_, rfl⟩
  have B0 : Below w.heap.size w W := by rw [hW]; exact ((Below.refl _ _).alloc (Nat.le_refl _) _).alloc (by simp) _
  have P0 : Blk W w.heap.size 47 #[.string p.v.name, .int .i64 p.v.ax, .int .i64 p.v.ay, .int .i64 p.v.height, .int .i64 p.v.jib, .int .i64 p.v.back, .slice p.r.a p.r.n p.r.cap] := by rw [hW]; exact (Blk.new _ _ _).alloc _
  have Q0 : Blk W (w.heap.size + 1) 50 #[.string l.v.name, .int .i64 l.v.weight, .int .i64 l.v.fx, .int .i64 l.v.fy, .int .i64 l.v.tx, .int .i64 l.v.ty, .int .i64 l.v.height, .int .i64 l.v.deadline, .slice l.r.a l.r.n l.r.cap] := by rw [hW]; exact Blk.new_at rfl (by simp)
  cases h1 : okB p.val l.v
  · have H1 := Lib.hid h1
    have H := Lib.hid (mg_1 h1)
    clear h1
    go_enter Try.func37, Try.ntmps37
    go_wp2_with fail
    rw [← hW]
    clear hW
    obtain ⟨c0, c1, c2, c3, c4, c5, c6⟩ := Crane.blk P0
    obtain ⟨d0, d1, d2, d3, d4, d5, d6, d7, d8⟩ := Lift.blk Q0
    go_wp2_with fail
    refine (liftOk_any p l _ lo lo2 ((hr.below B0).more B0.size) hn hp hq).mono ?_
    rintro e w1 ⟨rfl, hb1⟩
    have B1 := B0.trans (hb1.mono B0.size)
    have P1 := P0.bel hb1
    have Q1 := Q0.bel hb1
    clear c0 c1 c2 c3 c4 c5 c6 d0 d1 d2 d3 d4 d5 d6 d7 d8 P0 Q0 hb1
    obtain ⟨c0, c1, c2, c3, c4, c5, c6⟩ := Crane.blk P1
    obtain ⟨d0, d1, d2, d3, d4, d5, d6, d7, d8⟩ := Lift.blk Q1
    rw [H1.out]
    go_wp2
    go_ret2
    exact ⟨by rw [H.out.1, H.out.2]; rfl, B1⟩
  · have H1 := Lib.hid h1
    obtain ⟨hok, hpl⟩ := okB_parts h1
    have hw := (plainB_parts hpl).weight
    have hf := ldF_range hok l.v
    have HA := Lib.hid (show ∀ W', Below w.heap.size w W' → Calls Try.prog 99 #[.agg #[.string p.v.name, .int .i64 p.v.ax, .int .i64 p.v.ay, .int .i64 p.v.height, .int .i64 p.v.jib, .int .i64 p.v.back, .slice p.r.a p.r.n p.r.cap], .agg #[.string l.v.name, .int .i64 l.v.weight, .int .i64 l.v.fx, .int .i64 l.v.fy, .int .i64 l.v.tx, .int .i64 l.v.ty, .int .i64 l.v.height, .int .i64 l.v.deadline, .slice l.r.a l.r.n l.r.cap]] W' fun e w' => e = .returned (ldRet (ldF p.val l.v)) ∧ Below W'.heap.size W' w' from fun W' hb => loadFor_any p l W' lo ((hr.below hb).more hb.size) hn hok hpl)
    clear hok hpl
    by_cases h0 : ldF p.val l.v < 0
    · have K := Lib.hid (ldRet_no (v := ldF p.val l.v) (by omega))
      have H := Lib.hid (mg_3 h1 h0)
      clear h1 h0
      go_enter Try.func37, Try.ntmps37
      go_wp2_with fail
      rw [← hW]
      clear hW
      obtain ⟨c0, c1, c2, c3, c4, c5, c6⟩ := Crane.blk P0
      obtain ⟨d0, d1, d2, d3, d4, d5, d6, d7, d8⟩ := Lift.blk Q0
      go_wp2_with fail
      refine (liftOk_any p l _ lo lo2 ((hr.below B0).more B0.size) hn hp hq).mono ?_
      rintro e w1 ⟨rfl, hb1⟩
      have B1 := B0.trans (hb1.mono B0.size)
      have P1 := P0.bel hb1
      have Q1 := Q0.bel hb1
      clear c0 c1 c2 c3 c4 c5 c6 d0 d1 d2 d3 d4 d5 d6 d7 d8 P0 Q0 hb1
      obtain ⟨c0, c1, c2, c3, c4, c5, c6⟩ := Crane.blk P1
      obtain ⟨d0, d1, d2, d3, d4, d5, d6, d7, d8⟩ := Lift.blk Q1
      rw [H1.out]
      go_wp2_with fail
      refine (HA.out _ B1).mono ?_
      rintro e w2 ⟨rfl, hb2⟩
      rw [K.out]
      have B2 := B1.trans (hb2.mono B1.size)
      have P2 := P1.bel hb2
      have Q2 := Q1.bel hb2
      clear c0 c1 c2 c3 c4 c5 c6 d0 d1 d2 d3 d4 d5 d6 d7 d8 P1 Q1 hb2
      obtain ⟨c0, c1, c2, c3, c4, c5, c6⟩ := Crane.blk P2
      obtain ⟨d0, d1, d2, d3, d4, d5, d6, d7, d8⟩ := Lift.blk Q2
      clear HA
      go_wp2
      go_ret2
      exact ⟨by rw [H.out.1, H.out.2]; rfl, B2⟩
    · have K := Lib.hid (ldRet_yes (v := ldF p.val l.v) (by omega))
      have H := Lib.hid (mg_0 h1 h0)
      clear h1
      go_enter Try.func37, Try.ntmps37
      go_wp2_with fail
      rw [← hW]
      clear hW
      obtain ⟨c0, c1, c2, c3, c4, c5, c6⟩ := Crane.blk P0
      obtain ⟨d0, d1, d2, d3, d4, d5, d6, d7, d8⟩ := Lift.blk Q0
      go_wp2_with fail
      refine (liftOk_any p l _ lo lo2 ((hr.below B0).more B0.size) hn hp hq).mono ?_
      rintro e w1 ⟨rfl, hb1⟩
      have B1 := B0.trans (hb1.mono B0.size)
      have P1 := P0.bel hb1
      have Q1 := Q0.bel hb1
      clear c0 c1 c2 c3 c4 c5 c6 d0 d1 d2 d3 d4 d5 d6 d7 d8 P0 Q0 hb1
      obtain ⟨c0, c1, c2, c3, c4, c5, c6⟩ := Crane.blk P1
      obtain ⟨d0, d1, d2, d3, d4, d5, d6, d7, d8⟩ := Lift.blk Q1
      rw [H1.out]
      go_wp2_with fail
      refine (HA.out _ B1).mono ?_
      rintro e w2 ⟨rfl, hb2⟩
      rw [K.out]
      have B2 := B1.trans (hb2.mono B1.size)
      have P2 := P1.bel hb2
      have Q2 := Q1.bel hb2
      clear c0 c1 c2 c3 c4 c5 c6 d0 d1 d2 d3 d4 d5 d6 d7 d8 P1 Q1 hb2
      obtain ⟨c0, c1, c2, c3, c4, c5, c6⟩ := Crane.blk P2
      obtain ⟨d0, d1, d2, d3, d4, d5, d6, d7, d8⟩ := Lift.blk Q2
      clear HA
      go_wp2
      go_ret2
      exact ⟨by rw [H.out.1, H.out.2]; rfl, B2⟩
set_option maxRecDepth 100000 in
set_option maxHeartbeats 1600000 in
theorem canLift_any (p : Crane) (l : Lift) (w : World) (lo lo2 : Nat) (hr : Arr ChartStep.cs 2 w lo w.heap.size p.r.a p.r.n p.r.xs) (hn : p.r.n ≤ 9223372036854775807) (hp : p.v.name.size ≤ 9223372036854775807) (hq : l.v.name.size ≤ 9223372036854775807) :
    Calls Try.prog 39 #[.agg #[.string p.v.name, .int .i64 p.v.ax, .int .i64 p.v.ay, .int .i64 p.v.height, .int .i64 p.v.jib, .int .i64 p.v.back, .slice p.r.a p.r.n p.r.cap], .agg #[.string l.v.name, .int .i64 l.v.weight, .int .i64 l.v.fx, .int .i64 l.v.fy, .int .i64 l.v.tx, .int .i64 l.v.ty, .int .i64 l.v.height, .int .i64 l.v.deadline, .slice l.r.a l.r.n l.r.cap]] w fun e w' => e = .returned (.bool (okB p.val l.v && ableB p.val l.v)) ∧ Below w.heap.size w w' := by
  obtain ⟨W, hW⟩ : ∃ W : World, W = (w.alloc (.cells #[.string p.v.name, .int .i64 p.v.ax, .int .i64 p.v.ay, .int .i64 p.v.height, .int .i64 p.v.jib, .int .i64 p.v.back, .slice p.r.a p.r.n p.r.cap] 47)).alloc (.cells #[.string l.v.name, .int .i64 l.v.weight, .int .i64 l.v.fx, .int .i64 l.v.fy, .int .i64 l.v.tx, .int .i64 l.v.ty, .int .i64 l.v.height, .int .i64 l.v.deadline, .slice l.r.a l.r.n l.r.cap] 50) := ⟨_, rfl⟩
  have B0 : Below w.heap.size w W := by rw [hW]; exact ((Below.refl _ _).alloc (Nat.le_refl _) _).alloc (by simp) _
  have P0 : Blk W w.heap.size 47 #[.string p.v.name, .int .i64 p.v.ax, .int .i64 p.v.ay, .int .i64 p.v.height, .int .i64 p.v.jib, .int .i64 p.v.back, .slice p.r.a p.r.n p.r.cap] := by rw [hW]; exact (Blk.new _ _ _).alloc _
  have Q0 : Blk W (w.heap.size + 1) 50 #[.string l.v.name, .int .i64 l.v.weight, .int .i64 l.v.fx, .int .i64 l.v.fy, .int .i64 l.v.tx, .int .i64 l.v.ty, .int .i64 l.v.height, .int .i64 l.v.deadline, .slice l.r.a l.r.n l.r.cap] := by rw [hW]; exact Blk.new_at rfl (by simp)
  cases h1 : okB p.val l.v
  · have H1 := Lib.hid h1
    clear h1
    rw [Bool.false_and]
    go_enter Try.func39, Try.ntmps39
    go_wp2_with fail
    rw [← hW]
    clear hW
    obtain ⟨c0, c1, c2, c3, c4, c5, c6⟩ := Crane.blk P0
    obtain ⟨d0, d1, d2, d3, d4, d5, d6, d7, d8⟩ := Lift.blk Q0
    go_wp2_with fail
    refine (liftOk_any p l _ lo lo2 ((hr.below B0).more B0.size) hn hp hq).mono ?_
    rintro e w1 ⟨rfl, hb1⟩
    have B1 := B0.trans (hb1.mono B0.size)
    have P1 := P0.bel hb1
    have Q1 := Q0.bel hb1
    clear c0 c1 c2 c3 c4 c5 c6 d0 d1 d2 d3 d4 d5 d6 d7 d8 P0 Q0 hb1
    obtain ⟨c0, c1, c2, c3, c4, c5, c6⟩ := Crane.blk P1
    obtain ⟨d0, d1, d2, d3, d4, d5, d6, d7, d8⟩ := Lift.blk Q1
    rw [H1.out]
    go_wp2
    go_ret
    exact ⟨rfl, B1⟩
  · have H1 := Lib.hid h1
    obtain ⟨hok, hpl⟩ := okB_parts h1
    have HOK := Lib.hid (And.intro hok hpl)
    clear hok hpl
    clear h1
    rw [Bool.true_and]
    go_enter Try.func39, Try.ntmps39
    go_wp2_with fail
    rw [← hW]
    clear hW
    obtain ⟨c0, c1, c2, c3, c4, c5, c6⟩ := Crane.blk P0
    obtain ⟨d0, d1, d2, d3, d4, d5, d6, d7, d8⟩ := Lift.blk Q0
    go_wp2_with fail
    refine (liftOk_any p l _ lo lo2 ((hr.below B0).more B0.size) hn hp hq).mono ?_
    rintro e w1 ⟨rfl, hb1⟩
    have B1 := B0.trans (hb1.mono B0.size)
    have P1 := P0.bel hb1
    have Q1 := Q0.bel hb1
    clear c0 c1 c2 c3 c4 c5 c6 d0 d1 d2 d3 d4 d5 d6 d7 d8 P0 Q0 hb1
    obtain ⟨c0, c1, c2, c3, c4, c5, c6⟩ := Crane.blk P1
    obtain ⟨d0, d1, d2, d3, d4, d5, d6, d7, d8⟩ := Lift.blk Q1
    rw [H1.out]
    go_wp2_with fail
    refine (craneCan_any p l _ lo lo2 ((hr.below B1).more B1.size) hn hp hq HOK.out.1 HOK.out.2).mono ?_
    rintro e w2 ⟨rfl, hb2⟩
    have B2 := B1.trans (hb2.mono B1.size)
    have P2 := P1.bel hb2
    have Q2 := Q1.bel hb2
    clear c0 c1 c2 c3 c4 c5 c6 d0 d1 d2 d3 d4 d5 d6 d7 d8 P1 Q1 hb2
    obtain ⟨c0, c1, c2, c3, c4, c5, c6⟩ := Crane.blk P2
    obtain ⟨d0, d1, d2, d3, d4, d5, d6, d7, d8⟩ := Lift.blk Q2
    go_wp2
    go_ret
    exact ⟨rfl, B2⟩

def upVal (c : CV) (v : LiftV) : Int := if okB c v then (if ldF c v < 0 then 0 else if ldF c v = 0 then 0 else cdiv (100 * v.weight) (ldF c v)) else 0
def upCode (c : CV) (v : LiftV) : Int := if okB c v then (if ldF c v < 0 then 3 else if ldF c v = 0 then 6 else 0) else 1
theorem up_1 {c : CV} {v : LiftV} (h : okB c v = false) : upVal c v = 0 ∧ upCode c v = 1 := by unfold upVal upCode; rw [h]; exact ⟨rfl, rfl⟩
theorem up_3 {c : CV} {v : LiftV} (h : okB c v = true) (h2 : ldF c v < 0) : upVal c v = 0 ∧ upCode c v = 3 := by unfold upVal upCode; rw [h, if_pos h2, if_pos h2]; exact ⟨rfl, rfl⟩
theorem up_6 {c : CV} {v : LiftV} (h : okB c v = true) (h2 : ldF c v = 0) : upVal c v = 0 ∧ upCode c v = 6 := by unfold upVal upCode; rw [h, h2]; exact ⟨rfl, rfl⟩
theorem up_0 {c : CV} {v : LiftV} (h : okB c v = true) (h2 : ¬ ldF c v < 0) (h3 : ¬ ldF c v = 0) : upVal c v = cdiv (100 * v.weight) (ldF c v) ∧ upCode c v = 0 := by unfold upVal upCode; rw [h, if_neg h2, if_neg h2, if_neg h3, if_neg h3]; exact ⟨rfl, rfl⟩

set_option maxRecDepth 100000 in
set_option maxHeartbeats 1600000 in
theorem usedPercent_any (p : Crane) (l : Lift) (w : World) (lo lo2 : Nat) (hr : Arr ChartStep.cs 2 w lo w.heap.size p.r.a p.r.n p.r.xs) (hn : p.r.n ≤ 9223372036854775807) (hp : p.v.name.size ≤ 9223372036854775807) (hq : l.v.name.size ≤ 9223372036854775807) :
    Calls Try.prog 41 #[.agg #[.string p.v.name, .int .i64 p.v.ax, .int .i64 p.v.ay, .int .i64 p.v.height, .int .i64 p.v.jib, .int .i64 p.v.back, .slice p.r.a p.r.n p.r.cap], .agg #[.string l.v.name, .int .i64 l.v.weight, .int .i64 l.v.fx, .int .i64 l.v.fy, .int .i64 l.v.tx, .int .i64 l.v.ty, .int .i64 l.v.height, .int .i64 l.v.deadline, .slice l.r.a l.r.n l.r.cap]] w fun e w' => e = .returned (.tuple #[.int .i64 (upVal p.val l.v), .int .i64 (upCode p.val l.v)]) ∧ Below w.heap.size w w' := by
  obtain ⟨W, hW⟩ : ∃ W : World, W = (w.alloc (.cells #[.string p.v.name, .int .i64 p.v.ax, .int .i64 p.v.ay, .int .i64 p.v.height, .int .i64 p.v.jib, .int .i64 p.v.back, .slice p.r.a p.r.n p.r.cap] 47)).alloc (.cells #[.string l.v.name, .int .i64 l.v.weight, .int .i64 l.v.fx, .int .i64 l.v.fy, .int .i64 l.v.tx, .int .i64 l.v.ty, .int .i64 l.v.height, .int .i64 l.v.deadline, .slice l.r.a l.r.n l.r.cap] 50) := ⟨_, rfl⟩
  have B0 : Below w.heap.size w W := by rw [hW]; exact ((Below.refl _ _).alloc (Nat.le_refl _) _).alloc (by simp) _
  have P0 : Blk W w.heap.size 47 #[.string p.v.name, .int .i64 p.v.ax, .int .i64 p.v.ay, .int .i64 p.v.height, .int .i64 p.v.jib, .int .i64 p.v.back, .slice p.r.a p.r.n p.r.cap] := by rw [hW]; exact (Blk.new _ _ _).alloc _
  have Q0 : Blk W (w.heap.size + 1) 50 #[.string l.v.name, .int .i64 l.v.weight, .int .i64 l.v.fx, .int .i64 l.v.fy, .int .i64 l.v.tx, .int .i64 l.v.ty, .int .i64 l.v.height, .int .i64 l.v.deadline, .slice l.r.a l.r.n l.r.cap] := by rw [hW]; exact Blk.new_at rfl (by simp)
  cases h1 : okB p.val l.v
  · have H := Lib.hid (up_1 h1)
    have G := Lib.hid (mg_1 h1)
    clear h1
    go_enter Try.func41, Try.ntmps41
    go_wp2_with fail
    rw [← hW]
    clear hW
    obtain ⟨c0, c1, c2, c3, c4, c5, c6⟩ := Crane.blk P0
    obtain ⟨d0, d1, d2, d3, d4, d5, d6, d7, d8⟩ := Lift.blk Q0
    go_wp2_with fail
    refine (liftMargin_any p l _ lo lo2 ((hr.below B0).more B0.size) hn hp hq).mono ?_
    rintro e w1 ⟨rfl, hb1⟩
    have B1 := B0.trans (hb1.mono B0.size)
    have P1 := P0.bel hb1
    have Q1 := Q0.bel hb1
    clear c0 c1 c2 c3 c4 c5 c6 d0 d1 d2 d3 d4 d5 d6 d7 d8 P0 Q0 hb1
    obtain ⟨c0, c1, c2, c3, c4, c5, c6⟩ := Crane.blk P1
    obtain ⟨d0, d1, d2, d3, d4, d5, d6, d7, d8⟩ := Lift.blk Q1
    rw [G.out.1, G.out.2]
    go_wp2
    go_ret2
    exact ⟨by rw [H.out.1, H.out.2]; rfl, B1⟩
  · obtain ⟨hok, hpl⟩ := okB_parts h1
    have hw := (plainB_parts hpl).weight
    have hf := ldF_range hok l.v
    clear hok hpl
    by_cases h0 : ldF p.val l.v < 0
    · have H := Lib.hid (up_3 h1 h0)
      have G := Lib.hid (mg_3 h1 h0)
      clear h1 h0
      go_enter Try.func41, Try.ntmps41
      go_wp2_with fail
      rw [← hW]
      clear hW
      obtain ⟨c0, c1, c2, c3, c4, c5, c6⟩ := Crane.blk P0
      obtain ⟨d0, d1, d2, d3, d4, d5, d6, d7, d8⟩ := Lift.blk Q0
      go_wp2_with fail
      refine (liftMargin_any p l _ lo lo2 ((hr.below B0).more B0.size) hn hp hq).mono ?_
      rintro e w1 ⟨rfl, hb1⟩
      have B1 := B0.trans (hb1.mono B0.size)
      have P1 := P0.bel hb1
      have Q1 := Q0.bel hb1
      clear c0 c1 c2 c3 c4 c5 c6 d0 d1 d2 d3 d4 d5 d6 d7 d8 P0 Q0 hb1
      obtain ⟨c0, c1, c2, c3, c4, c5, c6⟩ := Crane.blk P1
      obtain ⟨d0, d1, d2, d3, d4, d5, d6, d7, d8⟩ := Lift.blk Q1
      rw [G.out.1, G.out.2]
      go_wp2
      go_ret2
      exact ⟨by rw [H.out.1, H.out.2]; rfl, B1⟩
    · by_cases h2 : ldF p.val l.v = 0
      · have H := Lib.hid (up_6 h1 h2)
        have G := Lib.hid (mg_0 h1 h0)
        have h3 : ldF p.val l.v - l.v.weight + l.v.weight = 0 := by omega
        have e3 := Lib.hid h3
        clear h1 h0 h2 h3
        go_enter Try.func41, Try.ntmps41
        go_wp2_with fail
        rw [← hW]
        clear hW
        obtain ⟨c0, c1, c2, c3, c4, c5, c6⟩ := Crane.blk P0
        obtain ⟨d0, d1, d2, d3, d4, d5, d6, d7, d8⟩ := Lift.blk Q0
        go_wp2_with fail
        refine (liftMargin_any p l _ lo lo2 ((hr.below B0).more B0.size) hn hp hq).mono ?_
        rintro e w1 ⟨rfl, hb1⟩
        have B1 := B0.trans (hb1.mono B0.size)
        have P1 := P0.bel hb1
        have Q1 := Q0.bel hb1
        clear c0 c1 c2 c3 c4 c5 c6 d0 d1 d2 d3 d4 d5 d6 d7 d8 P0 Q0 hb1
        obtain ⟨c0, c1, c2, c3, c4, c5, c6⟩ := Crane.blk P1
        obtain ⟨d0, d1, d2, d3, d4, d5, d6, d7, d8⟩ := Lift.blk Q1
        rw [G.out.1, G.out.2]
        have e3 := e3.out
        go_wp2
        go_ret2
        exact ⟨by rw [H.out.1, H.out.2]; rfl, B1⟩
      · have H := Lib.hid (up_0 h1 h0 h2)
        have G := Lib.hid (mg_0 h1 h0)
        have e3 : Hid (ldF p.val l.v - l.v.weight + l.v.weight = ldF p.val l.v) := by show _ = _; omega
        have h4 : 1 ≤ ldF p.val l.v := by omega
        clear h1 h0 h2
        go_enter Try.func41, Try.ntmps41
        go_wp2_with fail
        rw [← hW]
        clear hW
        obtain ⟨c0, c1, c2, c3, c4, c5, c6⟩ := Crane.blk P0
        obtain ⟨d0, d1, d2, d3, d4, d5, d6, d7, d8⟩ := Lift.blk Q0
        go_wp2_with fail
        refine (liftMargin_any p l _ lo lo2 ((hr.below B0).more B0.size) hn hp hq).mono ?_
        rintro e w1 ⟨rfl, hb1⟩
        have B1 := B0.trans (hb1.mono B0.size)
        have P1 := P0.bel hb1
        have Q1 := Q0.bel hb1
        clear c0 c1 c2 c3 c4 c5 c6 d0 d1 d2 d3 d4 d5 d6 d7 d8 P0 Q0 hb1
        obtain ⟨c0, c1, c2, c3, c4, c5, c6⟩ := Crane.blk P1
        obtain ⟨d0, d1, d2, d3, d4, d5, d6, d7, d8⟩ := Lift.blk Q1
        rw [G.out.1, G.out.2]
        have e4 := e3.out
        have e5 : (ldF p.val l.v == 0) = false := by simp; omega
        go_wp2_with fail
        refine (ceil_any _ _ (by omega) (by omega) (by omega) (by omega) _).mono ?_
        rintro e w9 ⟨rfl, rfl⟩
        go_wp2
        go_ret2
        exact ⟨by rw [H.out.1, H.out.2]; rfl, B1⟩

def lrA (c : CV) (v : LiftV) : Int := if okB c v then rt (sqD c.1.ax c.1.ay v.fx v.fy) else 0
def lrB (c : CV) (v : LiftV) : Int := if okB c v then rt (sqD c.1.ax c.1.ay v.tx v.ty) else 0
def lrCode (c : CV) (v : LiftV) : Int := if okB c v then 0 else 1
theorem lr_1 {c : CV} {v : LiftV} (h : okB c v = false) : lrA c v = 0 ∧ lrB c v = 0 ∧ lrCode c v = 1 := by unfold lrA lrB lrCode; rw [h]; exact ⟨rfl, rfl, rfl⟩
theorem lr_0 {c : CV} {v : LiftV} (h : okB c v = true) : lrA c v = rt (sqD c.1.ax c.1.ay v.fx v.fy) ∧ lrB c v = rt (sqD c.1.ax c.1.ay v.tx v.ty) ∧ lrCode c v = 0 := by unfold lrA lrB lrCode; rw [h]; exact ⟨rfl, rfl, rfl⟩

set_option maxRecDepth 100000 in
set_option maxHeartbeats 1600000 in
theorem liftRadii_any (p : Crane) (l : Lift) (w : World) (lo lo2 : Nat) (hr : Arr ChartStep.cs 2 w lo w.heap.size p.r.a p.r.n p.r.xs) (hn : p.r.n ≤ 9223372036854775807) (hp : p.v.name.size ≤ 9223372036854775807) (hq : l.v.name.size ≤ 9223372036854775807) :
    Calls Try.prog 26 #[.agg #[.string p.v.name, .int .i64 p.v.ax, .int .i64 p.v.ay, .int .i64 p.v.height, .int .i64 p.v.jib, .int .i64 p.v.back, .slice p.r.a p.r.n p.r.cap], .agg #[.string l.v.name, .int .i64 l.v.weight, .int .i64 l.v.fx, .int .i64 l.v.fy, .int .i64 l.v.tx, .int .i64 l.v.ty, .int .i64 l.v.height, .int .i64 l.v.deadline, .slice l.r.a l.r.n l.r.cap]] w fun e w' => e = .returned (.tuple #[.int .i64 (lrA p.val l.v), .int .i64 (lrB p.val l.v), .int .i64 (lrCode p.val l.v)]) ∧ Below w.heap.size w w' := by
  obtain ⟨W, hW⟩ : ∃ W : World, W = (w.alloc (.cells #[.string p.v.name, .int .i64 p.v.ax, .int .i64 p.v.ay, .int .i64 p.v.height, .int .i64 p.v.jib, .int .i64 p.v.back, .slice p.r.a p.r.n p.r.cap] 47)).alloc (.cells #[.string l.v.name, .int .i64 l.v.weight, .int .i64 l.v.fx, .int .i64 l.v.fy, .int .i64 l.v.tx, .int .i64 l.v.ty, .int .i64 l.v.height, .int .i64 l.v.deadline, .slice l.r.a l.r.n l.r.cap] 50) := ⟨_, rfl⟩
  have B0 : Below w.heap.size w W := by rw [hW]; exact ((Below.refl _ _).alloc (Nat.le_refl _) _).alloc (by simp) _
  have P0 : Blk W w.heap.size 47 #[.string p.v.name, .int .i64 p.v.ax, .int .i64 p.v.ay, .int .i64 p.v.height, .int .i64 p.v.jib, .int .i64 p.v.back, .slice p.r.a p.r.n p.r.cap] := by rw [hW]; exact (Blk.new _ _ _).alloc _
  have Q0 : Blk W (w.heap.size + 1) 50 #[.string l.v.name, .int .i64 l.v.weight, .int .i64 l.v.fx, .int .i64 l.v.fy, .int .i64 l.v.tx, .int .i64 l.v.ty, .int .i64 l.v.height, .int .i64 l.v.deadline, .slice l.r.a l.r.n l.r.cap] := by rw [hW]; exact Blk.new_at rfl (by simp)
  cases h1 : okB p.val l.v
  · have H1 := Lib.hid h1
    have H := Lib.hid (lr_1 h1)
    clear h1
    go_enter Try.func26, Try.ntmps26
    go_wp2_with fail
    rw [← hW]
    clear hW
    obtain ⟨c0, c1, c2, c3, c4, c5, c6⟩ := Crane.blk P0
    obtain ⟨d0, d1, d2, d3, d4, d5, d6, d7, d8⟩ := Lift.blk Q0
    go_wp2_with fail
    refine (liftOk_any p l _ lo lo2 ((hr.below B0).more B0.size) hn hp hq).mono ?_
    rintro e w1 ⟨rfl, hb1⟩
    have B1 := B0.trans (hb1.mono B0.size)
    have P1 := P0.bel hb1
    have Q1 := Q0.bel hb1
    clear c0 c1 c2 c3 c4 c5 c6 d0 d1 d2 d3 d4 d5 d6 d7 d8 P0 Q0 hb1
    obtain ⟨c0, c1, c2, c3, c4, c5, c6⟩ := Crane.blk P1
    obtain ⟨d0, d1, d2, d3, d4, d5, d6, d7, d8⟩ := Lift.blk Q1
    rw [H1.out]
    go_wp2
    go_ret3
    exact ⟨by rw [H.out.1, H.out.2.1, H.out.2.2]; rfl, B1⟩
  · have H1 := Lib.hid h1
    have H := Lib.hid (lr_0 h1)
    obtain ⟨hok, hpl⟩ := okB_parts h1
    have hpt : Plc p.v.ax p.v.ay := (craneOk_parts hok).at_
    have hP := plainB_parts hpl
    have pA := hP.fp
    have pB := hP.tp
    have HA := Lib.hid (show ∀ x y W', Plc x y → Calls Try.prog 81 #[.agg #[.string p.v.name, .int .i64 p.v.ax, .int .i64 p.v.ay, .int .i64 p.v.height, .int .i64 p.v.jib, .int .i64 p.v.back, .slice p.r.a p.r.n p.r.cap], .agg #[.int .i64 x, .int .i64 y]] W' fun e w' => e = .returned (.int .i64 (rt (sqD p.v.ax p.v.ay x y))) ∧ Below W'.heap.size W' w' from fun x y W' h => radiusTo_any p _ _ W' hpt h)
    clear h1 hok hpl hpt hP
    go_enter Try.func26, Try.ntmps26
    go_wp2_with fail
    rw [← hW]
    clear hW
    obtain ⟨c0, c1, c2, c3, c4, c5, c6⟩ := Crane.blk P0
    obtain ⟨d0, d1, d2, d3, d4, d5, d6, d7, d8⟩ := Lift.blk Q0
    go_wp2_with fail
    refine (liftOk_any p l _ lo lo2 ((hr.below B0).more B0.size) hn hp hq).mono ?_
    rintro e w1 ⟨rfl, hb1⟩
    have B1 := B0.trans (hb1.mono B0.size)
    have P1 := P0.bel hb1
    have Q1 := Q0.bel hb1
    clear c0 c1 c2 c3 c4 c5 c6 d0 d1 d2 d3 d4 d5 d6 d7 d8 P0 Q0 hb1
    obtain ⟨c0, c1, c2, c3, c4, c5, c6⟩ := Crane.blk P1
    obtain ⟨d0, d1, d2, d3, d4, d5, d6, d7, d8⟩ := Lift.blk Q1
    rw [H1.out]
    replace c0 := cell_regrown c0
    replace c1 := cell_regrown c1
    replace c2 := cell_regrown c2
    replace c3 := cell_regrown c3
    replace c4 := cell_regrown c4
    replace c5 := cell_regrown c5
    replace c6 := cell_regrown c6
    replace d0 := cell_regrown d0
    replace d1 := cell_regrown d1
    replace d2 := cell_regrown d2
    replace d3 := cell_regrown d3
    replace d4 := cell_regrown d4
    replace d5 := cell_regrown d5
    replace d6 := cell_regrown d6
    replace d7 := cell_regrown d7
    replace d8 := cell_regrown d8
    go_wp2
    refine wp_region_quiet_below (by kernel_rfl) (by kernel_rfl) ?_
    repeat (go_big_quiet_step ((go_at_call 81; exact Calls.regrown_of (HA.out _ _ _ (by assumption)))))
    refine wpQuiet_nil ?_
    intro _ hw9
    obtain ⟨⟨dq, osq⟩, hw9⟩ := hw9
    subst hw9
    have hb9 := below_regrown w1 dq osq
    dsimp only at hb9 ⊢
    clear c0 c1 c2 c3 c4 c5 c6 d0 d1 d2 d3 d4 d5 d6 d7 d8 HA P1 Q1
    generalize grow (redrawn w1 dq) osq = W2 at hb9 ⊢
    go_wp2
    go_ret3
    exact ⟨by rw [H.out.1, H.out.2.1, H.out.2.2]; rfl, B1.trans (hb9.mono B1.size)⟩
end Go.Proofs.Ytifemomicniboaa
