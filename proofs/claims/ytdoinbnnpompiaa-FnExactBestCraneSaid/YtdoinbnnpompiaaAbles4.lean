/- Cranes and lifts: l09Plain, l09Code, l09Load, l09Can, LiftRadii, LiftMargin, CanLift, UsedPercent of the reference. -/
import Derived.Test.YtdoinbnnpompiaaAbles3
namespace Go.Proofs.Ytdoinbnnpompiaa
open Go.RowKit Go.Sort
set_option linter.unusedVariables false

theorem oneB_nil (v : LiftV) : oneB v [] 0 = plainB v := by unfold oneB; rw [show risesB [] 0 = true from rfl, Bool.and_true]
set_option maxRecDepth 100000 in
set_option maxHeartbeats 1600000 in
theorem l09Plain_any (b2 off2 : Nat) (l : Lift) (w : World) (hq : l.v.name.size ≤ 9223372036854775807) (hbl2 : b2 < w.heap.size) (hd : LiftAt w b2 off2 l) :
    Calls Try.prog 81 #[.pointer (some ⟨b2, off2, none⟩)] w fun e w' => e = .returned (.bool (plainB l.v)) ∧ Below w.heap.size w w' := by
  obtain ⟨d0, d1, d2, d3, d4, d5, d6, d7, d8⟩ := hd
  have hb2 : ∀ o, b2 < (w.alloc o).heap.size := fun o => by simp; omega
  go_enter Try.func81, Try.ntmps81
  go_wp2_with fail
  obtain ⟨W, hW⟩ : ∃ W : World, W = w.alloc (.cells #[.string l.v.name, .int .i64 l.v.weight, .int .i64 l.v.fx, .int .i64 l.v.fy, .int .i64 l.v.tx, .int .i64 l.v.ty, .int .i64 l.v.height, .int .i64 l.v.deadline, .slice none 0 0] 40) := ⟨_, rfl⟩
  have B0 : Below w.heap.size w W := by rw [hW]; exact (Below.refl _ _).alloc (Nat.le_refl _) _
  have Q0 : Blk W w.heap.size 40 #[.string l.v.name, .int .i64 l.v.weight, .int .i64 l.v.fx, .int .i64 l.v.fy, .int .i64 l.v.tx, .int .i64 l.v.ty, .int .i64 l.v.height, .int .i64 l.v.deadline, .slice none 0 0] := by rw [hW]; exact Blk.new _ _ _
  rw [← hW]
  clear hW d0 d1 d2 d3 d4 d5 d6 d7 d8 hb2
  obtain ⟨d0, d1, d2, d3, d4, d5, d6, d7, d8⟩ := Lift.blk Q0
  have hlt := Q0.lt
  refine (l08One_any w.heap.size 0 ⟨l.v, ⟨none, 0, 0, []⟩⟩ 0 W 0 hq (Arr.nil _) (Nat.zero_le _) (by omega) (by omega) hlt d0 d1 d2 d3 d4 d5 d6 d7 d8).mono ?_
  rintro e w1 ⟨rfl, hb⟩
  go_wp2
  go_ret
  exact ⟨by rw [oneB_nil]; rfl, B0.trans (hb.mono B0.size)⟩

theorem l00Min_any (a b : Int) (w : World) : Calls Try.prog 167 #[.int .i64 a, .int .i64 b] w fun e w' => e = .returned (.int .i64 (if a < b then a else b)) ∧ w = w' := by
  by_cases h : a < b
  · rw [if_pos h]
    go_enter Try.func167, Try.ntmps167
    go_wp2
    go_ret
    exact ⟨rfl, rfl⟩
  · rw [if_neg h]
    go_enter Try.func167, Try.ntmps167
    go_wp2
    go_ret
    exact ⟨rfl, rfl⟩

set_option maxRecDepth 100000 in
set_option maxHeartbeats 1600000 in
theorem l09Load_any (b off b2 off2 : Nat) (p : Crane) (l : Lift) (w : World) (lo : Nat) (hr : Arr ChartStep.cs 2 w lo w.heap.size p.r.a p.r.n p.r.xs) (hn : p.r.n ≤ 9223372036854775807) (hp : p.v.name.size ≤ 9223372036854775807) (hq : l.v.name.size ≤ 9223372036854775807) (hbl : b < w.heap.size) (hbl2 : b2 < w.heap.size) (hc : CraneAt w b off p) (hd : LiftAt w b2 off2 l) (hok : craneOk p.val = true) (hpl : plainB l.v = true) :
    Calls Try.prog 93 #[.pointer (some ⟨b, off, none⟩), .pointer (some ⟨b2, off2, none⟩)] w fun e w' => e = .returned (.int .i64 (ldF p.val l.v)) ∧ Below w.heap.size w w' := by
  have hP := plainB_parts hpl
  obtain ⟨c0, c1, c2, c3, c4, c5, c6⟩ := hc
  obtain ⟨d0, d1, d2, d3, d4, d5, d6, d7, d8⟩ := hd
  have HF : Hid (ldF p.val l.v = if ldP p.val l.v.fx l.v.fy < ldP p.val l.v.tx l.v.ty then ldP p.val l.v.fx l.v.fy else ldP p.val l.v.tx l.v.ty) := rfl
  have pA := hP.fp
  have pB := hP.tp
  have HA := Lib.hid (show ∀ x y d os, Plc x y → Calls Try.prog 168 #[.pointer (some ⟨b, off, none⟩), .agg #[.int .i64 x, .int .i64 y]] (grow (redrawn w d) os) fun e w' => e = .returned (.int .i64 (ldP p.val x y)) ∧ Below (grow (redrawn w d) os).heap.size (grow (redrawn w d) os) w' from fun x y d os hxy => by
    have hb9 := below_regrown w d os
    exact l04Load_any b off p _ _ _ lo ((hr.below hb9).more hb9.size) hn hok hxy (by have := hb9.size; omega) (cell_regrown c1 d os) (cell_regrown c2 d os) (cell_regrown c6 d os))
  have HM := Lib.hid (show ∀ W, Calls Try.prog 167 #[.int .i64 (ldP p.val l.v.fx l.v.fy), .int .i64 (ldP p.val l.v.tx l.v.ty)] W fun e w' => e = .returned (.int .i64 (ldF p.val l.v)) ∧ Below W.heap.size W w' from fun W => same_bel (by rw [HF.out]; exact l00Min_any _ _ W))
  clear HF
  replace d2 := cell_regrown d2
  replace d3 := cell_regrown d3
  replace d4 := cell_regrown d4
  replace d5 := cell_regrown d5
  clear c0 c1 c2 c3 c4 c5 c6 d0 d1 d6 d7 d8 hok hpl hP hr
  go_enter Try.func93, Try.ntmps93
  go_wp2
  refine wp_region_quiet_below (by kernel_rfl) (by kernel_rfl) ?_
  repeat (go_big_quiet_step (first | (go_at_call 168; exact Calls.regrown_of (HA.out _ _ _ _ (by assumption))) | (go_at_call 167; exact Calls.regrown_of (HM.out _))))
  refine wpQuiet_nil ?_
  intro _ hw9
  obtain ⟨⟨dq, osq⟩, hw9⟩ := hw9
  subst hw9
  have hb9 := below_regrown w dq osq
  dsimp only at hb9 ⊢
  clear d2 d3 d4 d5 HA HM
  generalize grow (redrawn w dq) osq = W2 at hb9 ⊢
  go_wp2
  go_ret
  exact ⟨rfl, hb9⟩
set_option maxRecDepth 100000 in
set_option maxHeartbeats 1600000 in
theorem l09Can_any (b off b2 off2 : Nat) (p : Crane) (l : Lift) (w : World) (lo : Nat) (hr : Arr ChartStep.cs 2 w lo w.heap.size p.r.a p.r.n p.r.xs) (hn : p.r.n ≤ 9223372036854775807) (hp : p.v.name.size ≤ 9223372036854775807) (hq : l.v.name.size ≤ 9223372036854775807) (hbl : b < w.heap.size) (hbl2 : b2 < w.heap.size) (hc : CraneAt w b off p) (hd : LiftAt w b2 off2 l) (hok : craneOk p.val = true) (hpl : plainB l.v = true) :
    Calls Try.prog 160 #[.pointer (some ⟨b, off, none⟩), .pointer (some ⟨b2, off2, none⟩)] w fun e w' => e = .returned (.bool (ableB p.val l.v)) ∧ Below w.heap.size w w' := by
  have hP := plainB_parts hpl
  have hC := craneOk_parts hok
  have hf := ldF_range hok l.v
  have hw := hP.weight
  have hh := hP.height
  have hch : 1 ≤ p.v.height ∧ p.v.height ≤ 2000 := hC.height
  have HA := Lib.hid (show ∀ d os, Calls Try.prog 93 #[.pointer (some ⟨b, off, none⟩), .pointer (some ⟨b2, off2, none⟩)] (grow (redrawn w d) os) fun e w' => e = .returned (.int .i64 (ldF p.val l.v)) ∧ Below (grow (redrawn w d) os).heap.size (grow (redrawn w d) os) w' from fun d os => by
    have hb9 := below_regrown w d os
    exact l09Load_any b off b2 off2 p l _ lo ((hr.below hb9).more hb9.size) hn hp hq (by have := hb9.size; omega) (by have := hb9.size; omega) (hc.below hb9 hbl) (hd.below hb9 hbl2) hok hpl)
  have HD : Hid (ableB p.val l.v = (decide (l.v.weight ≤ ldF p.val l.v) && decide (l.v.height + 30 ≤ p.v.height))) := rfl
  obtain ⟨c0, c1, c2, c3, c4, c5, c6⟩ := hc
  obtain ⟨d0, d1, d2, d3, d4, d5, d6, d7, d8⟩ := hd
  replace c3 := cell_regrown c3
  replace d1 := cell_regrown d1
  replace d6 := cell_regrown d6
  clear c0 c1 c2 c4 c5 c6 d0 d2 d3 d4 d5 d7 d8 hok hpl hP hC hr
  generalize ldF p.val l.v = f at *
  by_cases h1 : l.v.weight ≤ f
  · have H : Hid (ableB p.val l.v = decide (l.v.height + 30 ≤ p.v.height)) := by show _ = _; rw [HD.out, decide_eq_true h1, Bool.true_and]
    have h2 : decide (l.v.weight ≤ f) = true := decide_eq_true h1
    clear HD
    go_enter Try.func160, Try.ntmps160
    go_wp2
    refine wp_region_quiet_below (by kernel_rfl) (by kernel_rfl) ?_
    repeat (go_big_quiet_step (first | (go_at_call 93; exact Calls.regrown_of (HA.out _ _))))
    refine wpQuiet_nil ?_
    intro _ hw9
    obtain ⟨⟨dq, osq⟩, hw9⟩ := hw9
    subst hw9
    have hb9 := below_regrown w dq osq
    dsimp only at hb9 ⊢
    clear c3 d1 d6 HA
    generalize grow (redrawn w dq) osq = W2 at hb9 ⊢
    go_wp2
    go_ret
    exact ⟨by rw [H.out]; rfl, hb9⟩
  · have H : Hid (ableB p.val l.v = false) := by show _ = _; rw [HD.out, decide_eq_false h1, Bool.false_and]
    have h2 : decide (l.v.weight ≤ f) = false := decide_eq_false h1
    clear HD
    go_enter Try.func160, Try.ntmps160
    go_wp2
    refine wp_region_quiet_below (by kernel_rfl) (by kernel_rfl) ?_
    repeat (go_big_quiet_step (first | (go_at_call 93; exact Calls.regrown_of (HA.out _ _))))
    refine wpQuiet_nil ?_
    intro _ hw9
    obtain ⟨⟨dq, osq⟩, hw9⟩ := hw9
    subst hw9
    have hb9 := below_regrown w dq osq
    dsimp only at hb9 ⊢
    clear c3 d1 d6 HA
    generalize grow (redrawn w dq) osq = W2 at hb9 ⊢
    go_wp2
    go_ret
    exact ⟨by rw [H.out]; rfl, hb9⟩
end Go.Proofs.Ytdoinbnnpompiaa
