/- Cranes and lifts: liftOk, can, LiftRadii, LiftMargin, CanLift, UsedPercent of the program. -/
import Derived.Test.YtdoinbnnpompiaaAbles2
namespace Go.Proofs.Ytdoinbnnpompiaa
open Go.RowKit Go.Sort
set_option linter.unusedVariables false

def okB (c : CV) (v : LiftV) : Bool := craneOk c && plainB v
def ableB (c : CV) (v : LiftV) : Bool := decide (v.weight ≤ ldF c v) && decide (v.height + 30 ≤ c.1.height)
theorem okB_parts {c : CV} {v : LiftV} (h : okB c v = true) : craneOk c = true ∧ plainB v = true := by unfold okB at h; rwa [Bool.and_eq_true] at h
theorem PlainV.ne {c : CV} {v : LiftV} (h : PlainV v) (h2 : ldF c v < 0) : ableB c v = false := by
  have := h.weight
  unfold ableB; rw [decide_eq_false (by omega)]; rfl

set_option maxRecDepth 100000 in
set_option maxHeartbeats 1600000 in
theorem craneCan_any (p : Crane) (l : Lift) (w : World) (lo lo2 : Nat) (hr : Arr ChartStep.cs 2 w lo w.heap.size p.r.a p.r.n p.r.xs) (hn : p.r.n ≤ 9223372036854775807) (hp : p.v.name.size ≤ 9223372036854775807) (hq : l.v.name.size ≤ 9223372036854775807) (hok : craneOk p.val = true) (hpl : plainB l.v = true) :
    Calls Try.prog 89 #[.agg #[.string p.v.name, .int .i64 p.v.ax, .int .i64 p.v.ay, .int .i64 p.v.height, .int .i64 p.v.jib, .int .i64 p.v.back, .slice p.r.a p.r.n p.r.cap], .agg #[.string l.v.name, .int .i64 l.v.weight, .int .i64 l.v.fx, .int .i64 l.v.fy, .int .i64 l.v.tx, .int .i64 l.v.ty, .int .i64 l.v.height, .int .i64 l.v.deadline, .slice l.r.a l.r.n l.r.cap]] w fun e w' => e = .returned (.bool (ableB p.val l.v)) ∧ Below w.heap.size w w' := by
  obtain ⟨W, hW⟩ : ∃ W : World, W = (w.alloc (.cells #[.string p.v.name, .int .i64 p.v.ax, .int .i64 p.v.ay, .int .i64 p.v.height, .int .i64 p.v.jib, .int .i64 p.v.back, .slice p.r.a p.r.n p.r.cap] 128)).alloc (.cells #[.string l.v.name, .int .i64 l.v.weight, .int .i64 l.v.fx, .int .i64 l.v.fy, .int .i64 l.v.tx, .int .i64 l.v.ty, .int .i64 l.v.height, .int .i64 l.v.deadline, .slice l.r.a l.r.n l.r.cap] 40) := ⟨_, rfl⟩
  have B0 : Below w.heap.size w W := by rw [hW]; exact ((Below.refl _ _).alloc (Nat.le_refl _) _).alloc (by simp) _
  have P0 : Blk W w.heap.size 128 #[.string p.v.name, .int .i64 p.v.ax, .int .i64 p.v.ay, .int .i64 p.v.height, .int .i64 p.v.jib, .int .i64 p.v.back, .slice p.r.a p.r.n p.r.cap] := by rw [hW]; exact (Blk.new _ _ _).alloc _
  have Q0 : Blk W (w.heap.size + 1) 40 #[.string l.v.name, .int .i64 l.v.weight, .int .i64 l.v.fx, .int .i64 l.v.fy, .int .i64 l.v.tx, .int .i64 l.v.ty, .int .i64 l.v.height, .int .i64 l.v.deadline, .slice l.r.a l.r.n l.r.cap] := by rw [hW]; exact Blk.new_at rfl (by simp)
  have hP := plainB_parts hpl
  have hC := craneOk_parts hok
  have hf := ldF_range hok l.v
  have hw := hP.weight
  have hh := hP.height
  have hc : 1 ≤ p.v.height ∧ p.v.height ≤ 2000 := hC.height
  have HA := Lib.hid (show ∀ W', Below w.heap.size w W' → Calls Try.prog 95 #[.agg #[.string p.v.name, .int .i64 p.v.ax, .int .i64 p.v.ay, .int .i64 p.v.height, .int .i64 p.v.jib, .int .i64 p.v.back, .slice p.r.a p.r.n p.r.cap], .agg #[.string l.v.name, .int .i64 l.v.weight, .int .i64 l.v.fx, .int .i64 l.v.fy, .int .i64 l.v.tx, .int .i64 l.v.ty, .int .i64 l.v.height, .int .i64 l.v.deadline, .slice l.r.a l.r.n l.r.cap]] W' fun e w' => e = .returned (ldRet (ldF p.val l.v)) ∧ Below W'.heap.size W' w' from fun W' hb => loadFor_any p l W' lo ((hr.below hb).more hb.size) hn hok hpl)
  have HN : Hid (ldF p.val l.v < 0 → ableB p.val l.v = false) := hP.ne
  have HD : Hid (ableB p.val l.v = (decide (l.v.weight ≤ ldF p.val l.v) && decide (l.v.height + 30 ≤ p.v.height))) := rfl
  generalize ldF p.val l.v = f at *
  clear hok hpl hP hC hr
  by_cases h0 : f < 0
  · have K := Lib.hid (ldRet_no h0)
    have H := Lib.hid (HN.out h0)
    clear h0 HN HD
    go_enter Try.func89, Try.ntmps89
    go_wp2_with fail
    rw [← hW]
    clear hW
    obtain ⟨c0, c1, c2, c3, c4, c5, c6⟩ := Crane.blk P0
    obtain ⟨d0, d1, d2, d3, d4, d5, d6, d7, d8⟩ := Lift.blk Q0
    go_wp2_with fail
    refine (HA.out _ B0).mono ?_
    rintro e w1 ⟨rfl, hb1⟩
    rw [K.out]
    have B1 := B0.trans (hb1.mono B0.size)
    have P1 := P0.bel hb1
    have Q1 := Q0.bel hb1
    clear c0 c1 c2 c3 c4 c5 c6 d0 d1 d2 d3 d4 d5 d6 d7 d8 P0 Q0 hb1
    obtain ⟨c0, c1, c2, c3, c4, c5, c6⟩ := Crane.blk P1
    obtain ⟨d0, d1, d2, d3, d4, d5, d6, d7, d8⟩ := Lift.blk Q1
    clear HA
    go_wp2
    all_goals go_ret
    all_goals exact ⟨by rw [H.out]; rfl, B1⟩
  · have K := Lib.hid (ldRet_yes (v := f) (by omega))
    clear HN
    by_cases h1 : l.v.weight ≤ f
    · have H : Hid (ableB p.val l.v = decide (l.v.height + 30 ≤ p.v.height)) := by show _ = _; rw [HD.out, decide_eq_true h1, Bool.true_and]
      clear HD
      go_enter Try.func89, Try.ntmps89
      go_wp2_with fail
      rw [← hW]
      clear hW
      obtain ⟨c0, c1, c2, c3, c4, c5, c6⟩ := Crane.blk P0
      obtain ⟨d0, d1, d2, d3, d4, d5, d6, d7, d8⟩ := Lift.blk Q0
      go_wp2_with fail
      refine (HA.out _ B0).mono ?_
      rintro e w1 ⟨rfl, hb1⟩
      rw [K.out]
      have B1 := B0.trans (hb1.mono B0.size)
      have P1 := P0.bel hb1
      have Q1 := Q0.bel hb1
      clear c0 c1 c2 c3 c4 c5 c6 d0 d1 d2 d3 d4 d5 d6 d7 d8 P0 Q0 hb1
      obtain ⟨c0, c1, c2, c3, c4, c5, c6⟩ := Crane.blk P1
      obtain ⟨d0, d1, d2, d3, d4, d5, d6, d7, d8⟩ := Lift.blk Q1
      clear HA
      go_wp2
      all_goals go_ret
      all_goals exact ⟨by rw [H.out]; rfl, B1⟩
    · have H : Hid (ableB p.val l.v = false) := by show _ = _; rw [HD.out, decide_eq_false h1, Bool.false_and]
      have h2 : decide (l.v.weight ≤ f) = false := decide_eq_false h1
      clear HD
      go_enter Try.func89, Try.ntmps89
      go_wp2_with fail
      rw [← hW]
      clear hW
      obtain ⟨c0, c1, c2, c3, c4, c5, c6⟩ := Crane.blk P0
      obtain ⟨d0, d1, d2, d3, d4, d5, d6, d7, d8⟩ := Lift.blk Q0
      go_wp2_with fail
      refine (HA.out _ B0).mono ?_
      rintro e w1 ⟨rfl, hb1⟩
      rw [K.out]
      have B1 := B0.trans (hb1.mono B0.size)
      have P1 := P0.bel hb1
      have Q1 := Q0.bel hb1
      clear c0 c1 c2 c3 c4 c5 c6 d0 d1 d2 d3 d4 d5 d6 d7 d8 P0 Q0 hb1
      obtain ⟨c0, c1, c2, c3, c4, c5, c6⟩ := Crane.blk P1
      obtain ⟨d0, d1, d2, d3, d4, d5, d6, d7, d8⟩ := Lift.blk Q1
      clear HA
      go_wp2
      all_goals go_ret
      all_goals exact ⟨by rw [H.out]; rfl, B1⟩

def mgVal (c : CV) (v : LiftV) : Int := if okB c v then (if ldF c v < 0 then 0 else ldF c v - v.weight) else 0
def mgCode (c : CV) (v : LiftV) : Int := if okB c v then (if ldF c v < 0 then 3 else 0) else 1
theorem mg_1 {c : CV} {v : LiftV} (h : okB c v = false) : mgVal c v = 0 ∧ mgCode c v = 1 := by unfold mgVal mgCode; rw [h]; exact ⟨rfl, rfl⟩
theorem mg_3 {c : CV} {v : LiftV} (h : okB c v = true) (h2 : ldF c v < 0) : mgVal c v = 0 ∧ mgCode c v = 3 := by unfold mgVal mgCode; rw [h, if_pos h2, if_pos h2]; exact ⟨rfl, rfl⟩
theorem mg_0 {c : CV} {v : LiftV} (h : okB c v = true) (h2 : ¬ ldF c v < 0) : mgVal c v = ldF c v - v.weight ∧ mgCode c v = 0 := by unfold mgVal mgCode; rw [h, if_neg h2, if_neg h2]; exact ⟨rfl, rfl⟩

def upVal (c : CV) (v : LiftV) : Int := if okB c v then (if ldF c v < 0 then 0 else if ldF c v = 0 then 0 else cdiv (100 * v.weight) (ldF c v)) else 0
def upCode (c : CV) (v : LiftV) : Int := if okB c v then (if ldF c v < 0 then 3 else if ldF c v = 0 then 6 else 0) else 1
theorem up_1 {c : CV} {v : LiftV} (h : okB c v = false) : upVal c v = 0 ∧ upCode c v = 1 := by unfold upVal upCode; rw [h]; exact ⟨rfl, rfl⟩
theorem up_3 {c : CV} {v : LiftV} (h : okB c v = true) (h2 : ldF c v < 0) : upVal c v = 0 ∧ upCode c v = 3 := by unfold upVal upCode; rw [h, if_pos h2, if_pos h2]; exact ⟨rfl, rfl⟩
theorem up_6 {c : CV} {v : LiftV} (h : okB c v = true) (h2 : ldF c v = 0) : upVal c v = 0 ∧ upCode c v = 6 := by unfold upVal upCode; rw [h, h2]; exact ⟨rfl, rfl⟩
theorem up_0 {c : CV} {v : LiftV} (h : okB c v = true) (h2 : ¬ ldF c v < 0) (h3 : ¬ ldF c v = 0) : upVal c v = cdiv (100 * v.weight) (ldF c v) ∧ upCode c v = 0 := by unfold upVal upCode; rw [h, if_neg h2, if_neg h2, if_neg h3, if_neg h3]; exact ⟨rfl, rfl⟩

def lrA (c : CV) (v : LiftV) : Int := if okB c v then rt (sqD c.1.ax c.1.ay v.fx v.fy) else 0
def lrB (c : CV) (v : LiftV) : Int := if okB c v then rt (sqD c.1.ax c.1.ay v.tx v.ty) else 0
def lrCode (c : CV) (v : LiftV) : Int := if okB c v then 0 else 1
theorem lr_1 {c : CV} {v : LiftV} (h : okB c v = false) : lrA c v = 0 ∧ lrB c v = 0 ∧ lrCode c v = 1 := by unfold lrA lrB lrCode; rw [h]; exact ⟨rfl, rfl, rfl⟩
theorem lr_0 {c : CV} {v : LiftV} (h : okB c v = true) : lrA c v = rt (sqD c.1.ax c.1.ay v.fx v.fy) ∧ lrB c v = rt (sqD c.1.ax c.1.ay v.tx v.ty) ∧ lrCode c v = 0 := by unfold lrA lrB lrCode; rw [h]; exact ⟨rfl, rfl, rfl⟩

end Go.Proofs.Ytdoinbnnpompiaa
