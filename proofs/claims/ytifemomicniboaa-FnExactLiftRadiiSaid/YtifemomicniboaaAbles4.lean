/- Cranes and lifts: l09Plain, l09Code, l09Load, l09Can, LiftRadii, LiftMargin, CanLift, UsedPercent of the reference. -/
import Derived.Test.YtifemomicniboaaAbles3
namespace Go.Proofs.Ytifemomicniboaa
open Go.RowKit Go.Sort
set_option linter.unusedVariables false

theorem oneB_nil (v : LiftV) : oneB v [] 0 = plainB v := by unfold oneB; rw [show risesB [] 0 = true from rfl, Bool.and_true]
set_option maxRecDepth 100000 in
set_option maxHeartbeats 1600000 in
theorem l09Plain_any (b2 off2 : Nat) (l : Lift) (w : World) (hq : l.v.name.size ≤ 9223372036854775807) (hbl2 : b2 < w.heap.size) (hd : LiftAt w b2 off2 l) :
    Calls Try.prog 130 #[.pointer (some ⟨b2, off2, none⟩)] w fun e w' => e = .returned (.bool (plainB l.v)) ∧ Below w.heap.size w w' := by
  obtain ⟨d0, d1, d2, d3, d4, d5, d6, d7, d8⟩ := hd
  have hb2 : ∀ o, b2 < (w.alloc o).heap.size := fun o => by simp; omega
  go_enter Try.func130, Try.ntmps130
  go_wp2_with fail
  obtain ⟨W, hW⟩ : ∃ W : World, W = w.alloc (.cells #[.string l.v.name, .int .i64 l.v.weight, .int .i64 l.v.fx, .int .i64 l.v.fy, .int .i64 l.v.tx, .int .i64 l.v.ty, .int .i64 l.v.height, .int .i64 l.v.deadline, .slice none 0 0] 50) := ⟨_, rfl⟩
  have B0 : Below w.heap.size w W := by rw [hW]; exact (Below.refl _ _).alloc (Nat.le_refl _) _
  have Q0 : Blk W w.heap.size 50 #[.string l.v.name, .int .i64 l.v.weight, .int .i64 l.v.fx, .int .i64 l.v.fy, .int .i64 l.v.tx, .int .i64 l.v.ty, .int .i64 l.v.height, .int .i64 l.v.deadline, .slice none 0 0] := by rw [hW]; exact Blk.new _ _ _
  rw [← hW]
  clear hW d0 d1 d2 d3 d4 d5 d6 d7 d8 hb2
  obtain ⟨d0, d1, d2, d3, d4, d5, d6, d7, d8⟩ := Lift.blk Q0
  have hlt := Q0.lt
  refine (l08One_any w.heap.size 0 ⟨l.v, ⟨none, 0, 0, []⟩⟩ 0 W 0 hq (Arr.nil _) (Nat.zero_le _) (by omega) (by omega) hlt d0 d1 d2 d3 d4 d5 d6 d7 d8).mono ?_
  rintro e w1 ⟨rfl, hb⟩
  go_wp2
  go_ret
  exact ⟨by rw [oneB_nil]; rfl, B0.trans (hb.mono B0.size)⟩

set_option maxRecDepth 100000 in
set_option maxHeartbeats 1600000 in
theorem l09Code_any (b off b2 off2 : Nat) (p : Crane) (l : Lift) (w : World) (lo : Nat) (hr : Arr ChartStep.cs 2 w lo w.heap.size p.r.a p.r.n p.r.xs) (hn : p.r.n ≤ 9223372036854775807) (hp : p.v.name.size ≤ 9223372036854775807) (hq : l.v.name.size ≤ 9223372036854775807) (hbl : b < w.heap.size) (hbl2 : b2 < w.heap.size) (hc : CraneAt w b off p) (hd : LiftAt w b2 off2 l) :
    Calls Try.prog 74 #[.pointer (some ⟨b, off, none⟩), .pointer (some ⟨b2, off2, none⟩)] w fun e w' => e = .returned (.int .i64 (if okB p.val l.v then 0 else 1)) ∧ Below w.heap.size w w' := by
  cases h1 : craneOk p.val
  · have H1 := Lib.hid h1
    have H : Hid ((if okB p.val l.v then (0 : Int) else 1) = 1) := by show _ = _; unfold okB; rw [h1]; rfl
    clear h1
    rw [H.out]
    go_enter Try.func74, Try.ntmps74
    go_wp2_with fail
    obtain ⟨c0, c1, c2, c3, c4, c5, c6⟩ := hc
    refine (l04Ok_any b off p _ lo hp hr hn hbl c0 c1 c2 c3 c4 c5 c6).mono ?_
    rintro e w1 ⟨rfl, hb1⟩
    rw [H1.out]
    have hsz := hb1.size
    clear c0 c1 c2 c3 c4 c5 c6
    go_wp2
    go_ret
    exact ⟨rfl, hb1⟩
  · have H1 := Lib.hid h1
    cases h2 : plainB l.v
    · have H2 := Lib.hid h2
      have H : Hid ((if okB p.val l.v then (0 : Int) else 1) = 1) := by show _ = _; unfold okB; rw [h1, h2]; rfl
      clear h2
      clear h1
      rw [H.out]
      go_enter Try.func74, Try.ntmps74
      go_wp2_with fail
      obtain ⟨c0, c1, c2, c3, c4, c5, c6⟩ := hc
      refine (l04Ok_any b off p _ lo hp hr hn hbl c0 c1 c2 c3 c4 c5 c6).mono ?_
      rintro e w1 ⟨rfl, hb1⟩
      rw [H1.out]
      have hsz := hb1.size
      have hd1 := hd.below hb1 hbl2
      clear c0 c1 c2 c3 c4 c5 c6 hd
      go_wp2_with fail
      refine (l09Plain_any b2 off2 l _ hq (by omega) hd1).mono ?_
      rintro e w2 ⟨rfl, hb2⟩
      rw [H2.out]
      go_wp2
      go_ret
      exact ⟨rfl, bel2 hb1 hb2⟩
    · have H2 := Lib.hid h2
      have H : Hid ((if okB p.val l.v then (0 : Int) else 1) = 0) := by show _ = _; unfold okB; rw [h1, h2]; rfl
      clear h2
      clear h1
      rw [H.out]
      go_enter Try.func74, Try.ntmps74
      go_wp2_with fail
      obtain ⟨c0, c1, c2, c3, c4, c5, c6⟩ := hc
      refine (l04Ok_any b off p _ lo hp hr hn hbl c0 c1 c2 c3 c4 c5 c6).mono ?_
      rintro e w1 ⟨rfl, hb1⟩
      rw [H1.out]
      have hsz := hb1.size
      have hd1 := hd.below hb1 hbl2
      clear c0 c1 c2 c3 c4 c5 c6 hd
      go_wp2_with fail
      refine (l09Plain_any b2 off2 l _ hq (by omega) hd1).mono ?_
      rintro e w2 ⟨rfl, hb2⟩
      rw [H2.out]
      go_wp2
      go_ret
      exact ⟨rfl, bel2 hb1 hb2⟩

theorem l00Min_any (a b : Int) (w : World) : Calls Try.prog 140 #[.int .i64 a, .int .i64 b] w fun e w' => e = .returned (.int .i64 (if a < b then a else b)) ∧ w = w' := by
  by_cases h : a < b
  · rw [if_pos h]
    go_enter Try.func140, Try.ntmps140
    go_wp2
    go_ret
    exact ⟨rfl, rfl⟩
  · rw [if_neg h]
    go_enter Try.func140, Try.ntmps140
    go_wp2
    go_ret
    exact ⟨rfl, rfl⟩

set_option maxRecDepth 100000 in
set_option maxHeartbeats 1600000 in
theorem l09Load_any (b off b2 off2 : Nat) (p : Crane) (l : Lift) (w : World) (lo : Nat) (hr : Arr ChartStep.cs 2 w lo w.heap.size p.r.a p.r.n p.r.xs) (hn : p.r.n ≤ 9223372036854775807) (hp : p.v.name.size ≤ 9223372036854775807) (hq : l.v.name.size ≤ 9223372036854775807) (hbl : b < w.heap.size) (hbl2 : b2 < w.heap.size) (hc : CraneAt w b off p) (hd : LiftAt w b2 off2 l) (hok : craneOk p.val = true) (hpl : plainB l.v = true) :
    Calls Try.prog 98 #[.pointer (some ⟨b, off, none⟩), .pointer (some ⟨b2, off2, none⟩)] w fun e w' => e = .returned (.int .i64 (ldF p.val l.v)) ∧ Below w.heap.size w w' := by
  have hP := plainB_parts hpl
  obtain ⟨c0, c1, c2, c3, c4, c5, c6⟩ := hc
  obtain ⟨d0, d1, d2, d3, d4, d5, d6, d7, d8⟩ := hd
  have HF : Hid (ldF p.val l.v = if ldP p.val l.v.fx l.v.fy < ldP p.val l.v.tx l.v.ty then ldP p.val l.v.fx l.v.fy else ldP p.val l.v.tx l.v.ty) := rfl
  have pA := hP.fp
  have pB := hP.tp
  have HA := Lib.hid (show ∀ x y d os, Plc x y → Calls Try.prog 141 #[.pointer (some ⟨b, off, none⟩), .agg #[.int .i64 x, .int .i64 y]] (grow (redrawn w d) os) fun e w' => e = .returned (.int .i64 (ldP p.val x y)) ∧ Below (grow (redrawn w d) os).heap.size (grow (redrawn w d) os) w' from fun x y d os hxy => by
    have hb9 := below_regrown w d os
    exact l04Load_any b off p _ _ _ lo ((hr.below hb9).more hb9.size) hn hok hxy (by have := hb9.size; omega) (cell_regrown c1 d os) (cell_regrown c2 d os) (cell_regrown c6 d os))
  have HM := Lib.hid (show ∀ W, Calls Try.prog 140 #[.int .i64 (ldP p.val l.v.fx l.v.fy), .int .i64 (ldP p.val l.v.tx l.v.ty)] W fun e w' => e = .returned (.int .i64 (ldF p.val l.v)) ∧ Below W.heap.size W w' from fun W => same_bel (by rw [HF.out]; exact l00Min_any _ _ W))
  clear HF
  replace d2 := cell_regrown d2
  replace d3 := cell_regrown d3
  replace d4 := cell_regrown d4
  replace d5 := cell_regrown d5
  clear c0 c1 c2 c3 c4 c5 c6 d0 d1 d6 d7 d8 hok hpl hP hr
  go_enter Try.func98, Try.ntmps98
  go_wp2
  refine wp_region_quiet_below (by kernel_rfl) (by kernel_rfl) ?_
  repeat (go_big_quiet_step (first | (go_at_call 141; exact Calls.regrown_of (HA.out _ _ _ _ (by assumption))) | (go_at_call 140; exact Calls.regrown_of (HM.out _))))
  refine wpQuiet_nil ?_
  intro _ hw9
  obtain ⟨⟨dq, osq⟩, hw9⟩ := hw9
  subst hw9
  have hb9 := below_regrown w dq osq
  dsimp only at hb9 ⊢
  clear d2 d3 d4 d5 HA HM
  generalize grow (redrawn w dq) osq = W2 at hb9 ⊢
  go_wp2
  go_ret
  exact ⟨rfl, hb9⟩
set_option maxRecDepth 100000 in
set_option maxHeartbeats 1600000 in
theorem l09Can_any (b off b2 off2 : Nat) (p : Crane) (l : Lift) (w : World) (lo : Nat) (hr : Arr ChartStep.cs 2 w lo w.heap.size p.r.a p.r.n p.r.xs) (hn : p.r.n ≤ 9223372036854775807) (hp : p.v.name.size ≤ 9223372036854775807) (hq : l.v.name.size ≤ 9223372036854775807) (hbl : b < w.heap.size) (hbl2 : b2 < w.heap.size) (hc : CraneAt w b off p) (hd : LiftAt w b2 off2 l) (hok : craneOk p.val = true) (hpl : plainB l.v = true) :
    Calls Try.prog 100 #[.pointer (some ⟨b, off, none⟩), .pointer (some ⟨b2, off2, none⟩)] w fun e w' => e = .returned (.bool (ableB p.val l.v)) ∧ Below w.heap.size w w' := by
  have hP := plainB_parts hpl
  have hC := craneOk_parts hok
  have hf := ldF_range hok l.v
  have hw := hP.weight
  have hh := hP.height
  have hch : 1 ≤ p.v.height ∧ p.v.height ≤ 2000 := hC.height
  have HA := Lib.hid (show ∀ d os, Calls Try.prog 98 #[.pointer (some ⟨b, off, none⟩), .pointer (some ⟨b2, off2, none⟩)] (grow (redrawn w d) os) fun e w' => e = .returned (.int .i64 (ldF p.val l.v)) ∧ Below (grow (redrawn w d) os).heap.size (grow (redrawn w d) os) w' from fun d os => by
    have hb9 := below_regrown w d os
    exact l09Load_any b off b2 off2 p l _ lo ((hr.below hb9).more hb9.size) hn hp hq (by have := hb9.size; omega) (by have := hb9.size; omega) (hc.below hb9 hbl) (hd.below hb9 hbl2) hok hpl)
  have HD : Hid (ableB p.val l.v = (decide (l.v.weight ≤ ldF p.val l.v) && decide (l.v.height + 30 ≤ p.v.height))) := rfl
  obtain ⟨c0, c1, c2, c3, c4, c5, c6⟩ := hc
  obtain ⟨d0, d1, d2, d3, d4, d5, d6, d7, d8⟩ := hd
  replace c3 := cell_regrown c3
  replace d1 := cell_regrown d1
  replace d6 := cell_regrown d6
  clear c0 c1 c2 c4 c5 c6 d0 d2 d3 d4 d5 d7 d8 hok hpl hP hC hr
  generalize ldF p.val l.v = f at *
  by_cases h1 : l.v.weight ≤ f
  · have H : Hid (ableB p.val l.v = decide (l.v.height + 30 ≤ p.v.height)) := by show _ = _; rw [HD.out, decide_eq_true h1, Bool.true_and]
    have h2 : decide (l.v.weight ≤ f) = true := decide_eq_true h1
    clear HD
    go_enter Try.func100, Try.ntmps100
    go_wp2
    refine wp_region_quiet_below (by kernel_rfl) (by kernel_rfl) ?_
    repeat (go_big_quiet_step (first | (go_at_call 98; exact Calls.regrown_of (HA.out _ _))))
    refine wpQuiet_nil ?_
    intro _ hw9
    obtain ⟨⟨dq, osq⟩, hw9⟩ := hw9
    subst hw9
    have hb9 := below_regrown w dq osq
    dsimp only at hb9 ⊢
    clear c3 d1 d6 HA
    generalize grow (redrawn w dq) osq = W2 at hb9 ⊢
    go_wp2
    go_ret
    exact ⟨by rw [H.out]; rfl, hb9⟩
  · have H : Hid (ableB p.val l.v = false) := by show _ = _; rw [HD.out, decide_eq_false h1, Bool.false_and]
    have h2 : decide (l.v.weight ≤ f) = false := decide_eq_false h1
    clear HD
    go_enter Try.func100, Try.ntmps100
    go_wp2
    refine wp_region_quiet_below (by kernel_rfl) (by kernel_rfl) ?_
    repeat (go_big_quiet_step (first | (go_at_call 98; exact Calls.regrown_of (HA.out _ _))))
    refine wpQuiet_nil ?_
    intro _ hw9
    obtain ⟨⟨dq, osq⟩, hw9⟩ := hw9
    subst hw9
    have hb9 := below_regrown w dq osq
    dsimp only at hb9 ⊢
    clear c3 d1 d6 HA
    generalize grow (redrawn w dq) osq = W2 at hb9 ⊢
    go_wp2
    go_ret
    exact ⟨by rw [H.out]; rfl, hb9⟩
set_option maxRecDepth 100000 in
set_option maxHeartbeats 1600000 in
theorem specLiftMargin_any (p : Crane) (l : Lift) (w : World) (lo : Nat) (hr : Arr ChartStep.cs 2 w lo w.heap.size p.r.a p.r.n p.r.xs) (hn : p.r.n ≤ 9223372036854775807) (hp : p.v.name.size ≤ 9223372036854775807) (hq : l.v.name.size ≤ 9223372036854775807) :
    Calls Try.prog 36 #[.agg #[.string p.v.name, .int .i64 p.v.ax, .int .i64 p.v.ay, .int .i64 p.v.height, .int .i64 p.v.jib, .int .i64 p.v.back, .slice p.r.a p.r.n p.r.cap], .agg #[.string l.v.name, .int .i64 l.v.weight, .int .i64 l.v.fx, .int .i64 l.v.fy, .int .i64 l.v.tx, .int .i64 l.v.ty, .int .i64 l.v.height, .int .i64 l.v.deadline, .slice l.r.a l.r.n l.r.cap]] w fun e w' => e = .returned (.tuple #[.int .i64 (mgVal p.val l.v), .int .i64 (mgCode p.val l.v)]) ∧ Below w.heap.size w w' := by
  obtain ⟨W, hW⟩ : ∃ W : World, W = (w.alloc (.cells #[.string p.v.name, .int .i64 p.v.ax, .int .i64 p.v.ay, .int .i64 p.v.height, .int .i64 p.v.jib, .int .i64 p.v.back, .slice p.r.a p.r.n p.r.cap] 47)).alloc (.cells #[.string l.v.name, .int .i64 l.v.weight, .int .i64 l.v.fx, .int .i64 l.v.fy, .int .i64 l.v.tx, .int .i64 l.v.ty, .int .i64 l.v.height, .int .i64 l.v.deadline, .slice l.r.a l.r.n l.r.cap] 50) := ⟨_, rfl⟩
  have B0 : Below w.heap.size w W := by rw [hW]; exact ((Below.refl _ _).alloc (Nat.le_refl _) _).alloc (by simp) _
  have P0 : Blk W w.heap.size 47 #[.string p.v.name, .int .i64 p.v.ax, .int .i64 p.v.ay, .int .i64 p.v.height, .int .i64 p.v.jib, .int .i64 p.v.back, .slice p.r.a p.r.n p.r.cap] := by rw [hW]; exact (Blk.new _ _ _).alloc _
  have Q0 : Blk W (w.heap.size + 1) 50 #[.string l.v.name, .int .i64 l.v.weight, .int .i64 l.v.fx, .int .i64 l.v.fy, .int .i64 l.v.tx, .int .i64 l.v.ty, .int .i64 l.v.height, .int .i64 l.v.deadline, .slice l.r.a l.r.n l.r.cap] := by rw [hW]; exact Blk.new_at rfl (by simp)
  cases h1 : okB p.val l.v
  · have K : Hid ((if okB p.val l.v then (0 : Int) else 1) = 1) := by show _ = _; rw [h1]; rfl
    have H := Lib.hid (mg_1 h1)
    clear h1
    go_enter Try.func36, Try.ntmps36
    go_wp2_with fail
    rw [← hW]
    clear hW
    refine (l09Code_any w.heap.size 0 (w.heap.size + 1) 0 p l _ lo ((hr.below B0).more B0.size) hn hp hq P0.lt Q0.lt (CraneAt.blk P0) (LiftAt.blk Q0)).mono ?_
    rintro e w1 ⟨rfl, hb1⟩
    rw [K.out]
    have B1 := B0.trans (hb1.mono B0.size)
    have P1 := P0.bel hb1
    have Q1 := Q0.bel hb1
    clear P0 Q0 hb1
    go_wp2
    go_ret2
    exact ⟨by rw [H.out.1, H.out.2]; rfl, B1⟩
  · have K : Hid ((if okB p.val l.v then (0 : Int) else 1) = 0) := by show _ = _; rw [h1]; rfl
    have HOK := Lib.hid (okB_parts h1)
    have hw := (plainB_parts HOK.out.2).weight
    have hf := ldF_range HOK.out.1 l.v
    by_cases h0 : ldF p.val l.v < 0
    · have H := Lib.hid (mg_3 h1 h0)
      clear h1
      go_enter Try.func36, Try.ntmps36
      go_wp2_with fail
      rw [← hW]
      clear hW
      refine (l09Code_any w.heap.size 0 (w.heap.size + 1) 0 p l _ lo ((hr.below B0).more B0.size) hn hp hq P0.lt Q0.lt (CraneAt.blk P0) (LiftAt.blk Q0)).mono ?_
      rintro e w1 ⟨rfl, hb1⟩
      rw [K.out]
      have B1 := B0.trans (hb1.mono B0.size)
      have P1 := P0.bel hb1
      have Q1 := Q0.bel hb1
      clear P0 Q0 hb1
      go_wp2_with fail
      refine (l09Load_any w.heap.size 0 (w.heap.size + 1) 0 p l _ lo ((hr.below B1).more B1.size) hn hp hq P1.lt Q1.lt (CraneAt.blk P1) (LiftAt.blk Q1) HOK.out.1 HOK.out.2).mono ?_
      rintro e w2 ⟨rfl, hb2⟩
      have B2 := B1.trans (hb2.mono B1.size)
      have P2 := P1.bel hb2
      have Q2 := Q1.bel hb2
      clear P1 Q1 hb2
      go_wp2
      go_ret2
      exact ⟨by rw [H.out.1, H.out.2]; rfl, B2⟩
    · have H := Lib.hid (mg_0 h1 h0)
      clear h1
      go_enter Try.func36, Try.ntmps36
      go_wp2_with fail
      rw [← hW]
      clear hW
      refine (l09Code_any w.heap.size 0 (w.heap.size + 1) 0 p l _ lo ((hr.below B0).more B0.size) hn hp hq P0.lt Q0.lt (CraneAt.blk P0) (LiftAt.blk Q0)).mono ?_
      rintro e w1 ⟨rfl, hb1⟩
      rw [K.out]
      have B1 := B0.trans (hb1.mono B0.size)
      have P1 := P0.bel hb1
      have Q1 := Q0.bel hb1
      clear P0 Q0 hb1
      go_wp2_with fail
      refine (l09Load_any w.heap.size 0 (w.heap.size + 1) 0 p l _ lo ((hr.below B1).more B1.size) hn hp hq P1.lt Q1.lt (CraneAt.blk P1) (LiftAt.blk Q1) HOK.out.1 HOK.out.2).mono ?_
      rintro e w2 ⟨rfl, hb2⟩
      have B2 := B1.trans (hb2.mono B1.size)
      have P2 := P1.bel hb2
      have Q2 := Q1.bel hb2
      clear P1 Q1 hb2
      obtain ⟨d0, d1, d2, d3, d4, d5, d6, d7, d8⟩ := Lift.blk Q2
      go_wp2
      go_ret2
      exact ⟨by rw [H.out.1, H.out.2]; rfl, B2⟩
set_option maxRecDepth 100000 in
set_option maxHeartbeats 1600000 in
theorem specCanLift_any (p : Crane) (l : Lift) (w : World) (lo : Nat) (hr : Arr ChartStep.cs 2 w lo w.heap.size p.r.a p.r.n p.r.xs) (hn : p.r.n ≤ 9223372036854775807) (hp : p.v.name.size ≤ 9223372036854775807) (hq : l.v.name.size ≤ 9223372036854775807) :
    Calls Try.prog 38 #[.agg #[.string p.v.name, .int .i64 p.v.ax, .int .i64 p.v.ay, .int .i64 p.v.height, .int .i64 p.v.jib, .int .i64 p.v.back, .slice p.r.a p.r.n p.r.cap], .agg #[.string l.v.name, .int .i64 l.v.weight, .int .i64 l.v.fx, .int .i64 l.v.fy, .int .i64 l.v.tx, .int .i64 l.v.ty, .int .i64 l.v.height, .int .i64 l.v.deadline, .slice l.r.a l.r.n l.r.cap]] w fun e w' => e = .returned (.bool (okB p.val l.v && ableB p.val l.v)) ∧ Below w.heap.size w w' := by
  obtain ⟨W, hW⟩ : ∃ W : World, W = (w.alloc (.cells #[.string p.v.name, .int .i64 p.v.ax, .int .i64 p.v.ay, .int .i64 p.v.height, .int .i64 p.v.jib, .int .i64 p.v.back, .slice p.r.a p.r.n p.r.cap] 47)).alloc (.cells #[.string l.v.name, .int .i64 l.v.weight, .int .i64 l.v.fx, .int .i64 l.v.fy, .int .i64 l.v.tx, .int .i64 l.v.ty, .int .i64 l.v.height, .int .i64 l.v.deadline, .slice l.r.a l.r.n l.r.cap] 50) := ⟨_, rfl⟩
  have B0 : Below w.heap.size w W := by rw [hW]; exact ((Below.refl _ _).alloc (Nat.le_refl _) _).alloc (by simp) _
  have P0 : Blk W w.heap.size 47 #[.string p.v.name, .int .i64 p.v.ax, .int .i64 p.v.ay, .int .i64 p.v.height, .int .i64 p.v.jib, .int .i64 p.v.back, .slice p.r.a p.r.n p.r.cap] := by rw [hW]; exact (Blk.new _ _ _).alloc _
  have Q0 : Blk W (w.heap.size + 1) 50 #[.string l.v.name, .int .i64 l.v.weight, .int .i64 l.v.fx, .int .i64 l.v.fy, .int .i64 l.v.tx, .int .i64 l.v.ty, .int .i64 l.v.height, .int .i64 l.v.deadline, .slice l.r.a l.r.n l.r.cap] := by rw [hW]; exact Blk.new_at rfl (by simp)
  cases h1 : okB p.val l.v
  · have K : Hid ((if okB p.val l.v then (0 : Int) else 1) = 1) := by show _ = _; rw [h1]; rfl
    rw [Bool.false_and]
    clear h1
    go_enter Try.func38, Try.ntmps38
    go_wp2_with fail
    rw [← hW]
    clear hW
    refine (l09Code_any w.heap.size 0 (w.heap.size + 1) 0 p l _ lo ((hr.below B0).more B0.size) hn hp hq P0.lt Q0.lt (CraneAt.blk P0) (LiftAt.blk Q0)).mono ?_
    rintro e w1 ⟨rfl, hb1⟩
    rw [K.out]
    have B1 := B0.trans (hb1.mono B0.size)
    have P1 := P0.bel hb1
    have Q1 := Q0.bel hb1
    clear P0 Q0 hb1
    go_wp2
    go_ret
    exact ⟨rfl, B1⟩
  · have K : Hid ((if okB p.val l.v then (0 : Int) else 1) = 0) := by show _ = _; rw [h1]; rfl
    have HOK := Lib.hid (okB_parts h1)
    rw [Bool.true_and]
    clear h1
    go_enter Try.func38, Try.ntmps38
    go_wp2_with fail
    rw [← hW]
    clear hW
    refine (l09Code_any w.heap.size 0 (w.heap.size + 1) 0 p l _ lo ((hr.below B0).more B0.size) hn hp hq P0.lt Q0.lt (CraneAt.blk P0) (LiftAt.blk Q0)).mono ?_
    rintro e w1 ⟨rfl, hb1⟩
    rw [K.out]
    have B1 := B0.trans (hb1.mono B0.size)
    have P1 := P0.bel hb1
    have Q1 := Q0.bel hb1
    clear P0 Q0 hb1
    go_wp2_with fail
    refine (l09Can_any w.heap.size 0 (w.heap.size + 1) 0 p l _ lo ((hr.below B1).more B1.size) hn hp hq P1.lt Q1.lt (CraneAt.blk P1) (LiftAt.blk Q1) HOK.out.1 HOK.out.2).mono ?_
    rintro e w2 ⟨rfl, hb2⟩
    have B2 := B1.trans (hb2.mono B1.size)
    have P2 := P1.bel hb2
    have Q2 := Q1.bel hb2
    clear P1 Q1 hb2
    go_wp2
    go_ret
    exact ⟨rfl, B2⟩
set_option maxRecDepth 100000 in
set_option maxHeartbeats 1600000 in
theorem specUsedPercent_any (p : Crane) (l : Lift) (w : World) (lo : Nat) (hr : Arr ChartStep.cs 2 w lo w.heap.size p.r.a p.r.n p.r.xs) (hn : p.r.n ≤ 9223372036854775807) (hp : p.v.name.size ≤ 9223372036854775807) (hq : l.v.name.size ≤ 9223372036854775807) :
    Calls Try.prog 40 #[.agg #[.string p.v.name, .int .i64 p.v.ax, .int .i64 p.v.ay, .int .i64 p.v.height, .int .i64 p.v.jib, .int .i64 p.v.back, .slice p.r.a p.r.n p.r.cap], .agg #[.string l.v.name, .int .i64 l.v.weight, .int .i64 l.v.fx, .int .i64 l.v.fy, .int .i64 l.v.tx, .int .i64 l.v.ty, .int .i64 l.v.height, .int .i64 l.v.deadline, .slice l.r.a l.r.n l.r.cap]] w fun e w' => e = .returned (.tuple #[.int .i64 (upVal p.val l.v), .int .i64 (upCode p.val l.v)]) ∧ Below w.heap.size w w' := by
  obtain ⟨W, hW⟩ : ∃ W : World, W = (w.alloc (.cells #[.string p.v.name, .int .i64 p.v.ax, .int .i64 p.v.ay, .int .i64 p.v.height, .int .i64 p.v.jib, .int .i64 p.v.back, .slice p.r.a p.r.n p.r.cap] 47)).alloc (.cells #[.string l.v.name, .int .i64 l.v.weight, .int .i64 l.v.fx, .int .i64 l.v.fy, .int .i64 l.v.tx, .int .i64 l.v.ty, .int .i64 l.v.height, .int .i64 l.v.deadline, .slice l.r.a l.r.n l.r.cap] 50) := ⟨_, rfl⟩
  have B0 : Below w.heap.size w W := by rw [hW]; exact ((Below.refl _ _).alloc (Nat.le_refl _) _).alloc (by simp) _
  have P0 : Blk W w.heap.size 47 #[.string p.v.name, .int .i64 p.v.ax, .int .i64 p.v.ay, .int .i64 p.v.height, .int .i64 p.v.jib, .int .i64 p.v.back, .slice p.r.a p.r.n p.r.cap] := by rw [hW]; exact (Blk.new _ _ _).alloc _
  have Q0 : Blk W (w.heap.size + 1) 50 #[.string l.v.name, .int .i64 l.v.weight, .int .i64 l.v.fx, .int .i64 l.v.fy, .int .i64 l.v.tx, .int .i64 l.v.ty, .int .i64 l.v.height, .int .i64 l.v.deadline, .slice l.r.a l.r.n l.r.cap] := by rw [hW]; exact Blk.new_at rfl (by simp)
  cases h1 : okB p.val l.v
  · have K : Hid ((if okB p.val l.v then (0 : Int) else 1) = 1) := by show _ = _; rw [h1]; rfl
    have H := Lib.hid (up_1 h1)
    clear h1
    go_enter Try.func40, Try.ntmps40
    go_wp2_with fail
    rw [← hW]
    clear hW
    refine (l09Code_any w.heap.size 0 (w.heap.size + 1) 0 p l _ lo ((hr.below B0).more B0.size) hn hp hq P0.lt Q0.lt (CraneAt.blk P0) (LiftAt.blk Q0)).mono ?_
    rintro e w1 ⟨rfl, hb1⟩
    rw [K.out]
    have B1 := B0.trans (hb1.mono B0.size)
    have P1 := P0.bel hb1
    have Q1 := Q0.bel hb1
    clear P0 Q0 hb1
    go_wp2
    go_ret2
    exact ⟨by rw [H.out.1, H.out.2]; rfl, B1⟩
  · have K : Hid ((if okB p.val l.v then (0 : Int) else 1) = 0) := by show _ = _; rw [h1]; rfl
    have HOK := Lib.hid (okB_parts h1)
    have hw := (plainB_parts HOK.out.2).weight
    have hf := ldF_range HOK.out.1 l.v
    by_cases h0 : ldF p.val l.v < 0
    · have H := Lib.hid (up_3 h1 h0)
      clear h1
      go_enter Try.func40, Try.ntmps40
      go_wp2_with fail
      rw [← hW]
      clear hW
      refine (l09Code_any w.heap.size 0 (w.heap.size + 1) 0 p l _ lo ((hr.below B0).more B0.size) hn hp hq P0.lt Q0.lt (CraneAt.blk P0) (LiftAt.blk Q0)).mono ?_
      rintro e w1 ⟨rfl, hb1⟩
      rw [K.out]
      have B1 := B0.trans (hb1.mono B0.size)
      have P1 := P0.bel hb1
      have Q1 := Q0.bel hb1
      clear P0 Q0 hb1
      go_wp2_with fail
      refine (l09Load_any w.heap.size 0 (w.heap.size + 1) 0 p l _ lo ((hr.below B1).more B1.size) hn hp hq P1.lt Q1.lt (CraneAt.blk P1) (LiftAt.blk Q1) HOK.out.1 HOK.out.2).mono ?_
      rintro e w2 ⟨rfl, hb2⟩
      have B2 := B1.trans (hb2.mono B1.size)
      have P2 := P1.bel hb2
      have Q2 := Q1.bel hb2
      clear P1 Q1 hb2
      go_wp2
      go_ret2
      exact ⟨by rw [H.out.1, H.out.2]; rfl, B2⟩
    · by_cases h2 : ldF p.val l.v = 0
      · have H := Lib.hid (up_6 h1 h2)
        have E := Lib.hid h2
        clear h1 h0 h2
        go_enter Try.func40, Try.ntmps40
        go_wp2_with fail
        rw [← hW]
        clear hW
        refine (l09Code_any w.heap.size 0 (w.heap.size + 1) 0 p l _ lo ((hr.below B0).more B0.size) hn hp hq P0.lt Q0.lt (CraneAt.blk P0) (LiftAt.blk Q0)).mono ?_
        rintro e w1 ⟨rfl, hb1⟩
        rw [K.out]
        have B1 := B0.trans (hb1.mono B0.size)
        have P1 := P0.bel hb1
        have Q1 := Q0.bel hb1
        clear P0 Q0 hb1
        go_wp2_with fail
        refine (l09Load_any w.heap.size 0 (w.heap.size + 1) 0 p l _ lo ((hr.below B1).more B1.size) hn hp hq P1.lt Q1.lt (CraneAt.blk P1) (LiftAt.blk Q1) HOK.out.1 HOK.out.2).mono ?_
        rintro e w2 ⟨rfl, hb2⟩
        rw [E.out]
        have B2 := B1.trans (hb2.mono B1.size)
        have P2 := P1.bel hb2
        have Q2 := Q1.bel hb2
        clear P1 Q1 hb2
        go_wp2
        go_ret2
        exact ⟨by rw [H.out.1, H.out.2]; rfl, B2⟩
      · have H := Lib.hid (up_0 h1 h0 h2)
        have h4 : 1 ≤ ldF p.val l.v := by omega
        have e5 : (ldF p.val l.v == 0) = false := by simp; omega
        clear h1 h0 h2
        go_enter Try.func40, Try.ntmps40
        go_wp2_with fail
        rw [← hW]
        clear hW
        refine (l09Code_any w.heap.size 0 (w.heap.size + 1) 0 p l _ lo ((hr.below B0).more B0.size) hn hp hq P0.lt Q0.lt (CraneAt.blk P0) (LiftAt.blk Q0)).mono ?_
        rintro e w1 ⟨rfl, hb1⟩
        rw [K.out]
        have B1 := B0.trans (hb1.mono B0.size)
        have P1 := P0.bel hb1
        have Q1 := Q0.bel hb1
        clear P0 Q0 hb1
        go_wp2_with fail
        refine (l09Load_any w.heap.size 0 (w.heap.size + 1) 0 p l _ lo ((hr.below B1).more B1.size) hn hp hq P1.lt Q1.lt (CraneAt.blk P1) (LiftAt.blk Q1) HOK.out.1 HOK.out.2).mono ?_
        rintro e w2 ⟨rfl, hb2⟩
        have B2 := B1.trans (hb2.mono B1.size)
        have P2 := P1.bel hb2
        have Q2 := Q1.bel hb2
        clear P1 Q1 hb2
        obtain ⟨d0, d1, d2, d3, d4, d5, d6, d7, d8⟩ := Lift.blk Q2
        go_wp2_with fail
        refine (l03Up_any _ _ (by omega) (by omega) (by omega) (by omega) _).mono ?_
        rintro e w9 ⟨rfl, rfl⟩
        go_wp2
        go_ret2
        exact ⟨by rw [H.out.1, H.out.2]; rfl, B2⟩
set_option maxRecDepth 100000 in
set_option maxHeartbeats 1600000 in
theorem specLiftRadii_any (p : Crane) (l : Lift) (w : World) (lo : Nat) (hr : Arr ChartStep.cs 2 w lo w.heap.size p.r.a p.r.n p.r.xs) (hn : p.r.n ≤ 9223372036854775807) (hp : p.v.name.size ≤ 9223372036854775807) (hq : l.v.name.size ≤ 9223372036854775807) :
    Calls Try.prog 23 #[.agg #[.string p.v.name, .int .i64 p.v.ax, .int .i64 p.v.ay, .int .i64 p.v.height, .int .i64 p.v.jib, .int .i64 p.v.back, .slice p.r.a p.r.n p.r.cap], .agg #[.string l.v.name, .int .i64 l.v.weight, .int .i64 l.v.fx, .int .i64 l.v.fy, .int .i64 l.v.tx, .int .i64 l.v.ty, .int .i64 l.v.height, .int .i64 l.v.deadline, .slice l.r.a l.r.n l.r.cap]] w fun e w' => e = .returned (.tuple #[.int .i64 (lrA p.val l.v), .int .i64 (lrB p.val l.v), .int .i64 (lrCode p.val l.v)]) ∧ Below w.heap.size w w' := by
  obtain ⟨W, hW⟩ : ∃ W : World, W = (w.alloc (.cells #[.string p.v.name, .int .i64 p.v.ax, .int .i64 p.v.ay, .int .i64 p.v.height, .int .i64 p.v.jib, .int .i64 p.v.back, .slice p.r.a p.r.n p.r.cap] 47)).alloc (.cells #[.string l.v.name, .int .i64 l.v.weight, .int .i64 l.v.fx, .int .i64 l.v.fy, .int .i64 l.v.tx, .int .i64 l.v.ty, .int .i64 l.v.height, .int .i64 l.v.deadline, .slice l.r.a l.r.n l.r.cap] 50) := ⟨_, rfl⟩
  have B0 : Below w.heap.size w W := by rw [hW]; exact ((Below.refl _ _).alloc (Nat.le_refl _) _).alloc (by simp) _
  have P0 : Blk W w.heap.size 47 #[.string p.v.name, .int .i64 p.v.ax, .int .i64 p.v.ay, .int .i64 p.v.height, .int .i64 p.v.jib, .int .i64 p.v.back, .slice p.r.a p.r.n p.r.cap] := by rw [hW]; exact (Blk.new _ _ _).alloc _
  have Q0 : Blk W (w.heap.size + 1) 50 #[.string l.v.name, .int .i64 l.v.weight, .int .i64 l.v.fx, .int .i64 l.v.fy, .int .i64 l.v.tx, .int .i64 l.v.ty, .int .i64 l.v.height, .int .i64 l.v.deadline, .slice l.r.a l.r.n l.r.cap] := by rw [hW]; exact Blk.new_at rfl (by simp)
  cases h1 : okB p.val l.v
  · have K : Hid ((if okB p.val l.v then (0 : Int) else 1) = 1) := by show _ = _; rw [h1]; rfl
    have H := Lib.hid (lr_1 h1)
    clear h1
    go_enter Try.func23, Try.ntmps23
    go_wp2_with fail
    rw [← hW]
    clear hW
    refine (l09Code_any w.heap.size 0 (w.heap.size + 1) 0 p l _ lo ((hr.below B0).more B0.size) hn hp hq P0.lt Q0.lt (CraneAt.blk P0) (LiftAt.blk Q0)).mono ?_
    rintro e w1 ⟨rfl, hb1⟩
    rw [K.out]
    have B1 := B0.trans (hb1.mono B0.size)
    have P1 := P0.bel hb1
    have Q1 := Q0.bel hb1
    clear P0 Q0 hb1
    go_wp2
    go_ret3
    exact ⟨by rw [H.out.1, H.out.2.1, H.out.2.2]; rfl, B1⟩
  · have K : Hid ((if okB p.val l.v then (0 : Int) else 1) = 0) := by show _ = _; rw [h1]; rfl
    have H := Lib.hid (lr_0 h1)
    obtain ⟨hok, hpl⟩ := okB_parts h1
    have hpt : Plc p.v.ax p.v.ay := (craneOk_parts hok).at_
    have hP := plainB_parts hpl
    have pA := hP.fp
    have pB := hP.tp
    have HS := Lib.hid (show ∀ x y W', Plc x y → Calls Try.prog 76 #[.agg #[.int .i64 p.v.ax, .int .i64 p.v.ay], .agg #[.int .i64 x, .int .i64 y]] W' fun e w' => e = .returned (.int .i64 (sqD p.v.ax p.v.ay x y)) ∧ Below W'.heap.size W' w' from fun x y W' h => l02Square_any _ _ _ _ hpt h W')
    have HR := Lib.hid (show ∀ x y W', Plc x y → Calls Try.prog 75 #[.int .i64 (sqD p.v.ax p.v.ay x y)] W' fun e w' => e = .returned (.int .i64 (rt (sqD p.v.ax p.v.ay x y))) ∧ Below W'.heap.size W' w' from fun x y W' h => same_bel (l02Root_any _ (sqD_bd hpt h).1 (by have := (sqD_bd hpt h).2; omega) W'))
    clear h1 hok hpl hpt hP
    go_enter Try.func23, Try.ntmps23
    go_wp2_with fail
    rw [← hW]
    clear hW
    refine (l09Code_any w.heap.size 0 (w.heap.size + 1) 0 p l _ lo ((hr.below B0).more B0.size) hn hp hq P0.lt Q0.lt (CraneAt.blk P0) (LiftAt.blk Q0)).mono ?_
    rintro e w1 ⟨rfl, hb1⟩
    rw [K.out]
    have B1 := B0.trans (hb1.mono B0.size)
    have P1 := P0.bel hb1
    have Q1 := Q0.bel hb1
    clear P0 Q0 hb1
    obtain ⟨c0, c1, c2, c3, c4, c5, c6⟩ := Crane.blk P1
    obtain ⟨d0, d1, d2, d3, d4, d5, d6, d7, d8⟩ := Lift.blk Q1
    replace c1 := cell_regrown c1
    replace c2 := cell_regrown c2
    replace d2 := cell_regrown d2
    replace d3 := cell_regrown d3
    replace d4 := cell_regrown d4
    replace d5 := cell_regrown d5
    clear c0 c3 c4 c5 c6 d0 d1 d6 d7 d8
    go_wp2
    refine wp_region_quiet_below (by kernel_rfl) (by kernel_rfl) ?_
    repeat (go_big_quiet_step (first | (go_at_call 76; exact Calls.regrown_of (HS.out _ _ _ (by assumption))) | (go_at_call 75; exact Calls.regrown_of (HR.out _ _ _ (by assumption)))))
    refine wpQuiet_nil ?_
    intro _ hw9
    obtain ⟨⟨dq, osq⟩, hw9⟩ := hw9
    subst hw9
    have hb9 := below_regrown w1 dq osq
    dsimp only at hb9 ⊢
    clear c1 c2 d2 d3 d4 d5 HS HR
    generalize grow (redrawn w1 dq) osq = W2 at hb9 ⊢
    go_wp2
    go_ret3
    exact ⟨by rw [H.out.1, H.out.2.1, H.out.2.2]; rfl, B1.trans (hb9.mono B1.size)⟩
end Go.Proofs.Ytifemomicniboaa
