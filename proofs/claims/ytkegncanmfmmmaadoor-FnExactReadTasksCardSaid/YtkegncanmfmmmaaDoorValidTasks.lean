/- ValidTasks of the program, l11Ok of the reference: both say tasksOk. -/
import Derived.Test.YtkegncanmfmmmaaDoorTasks
import Derived.Test.YtkegncanmfmmmaaDoorSpecTasks
import Derived.Lib.QuietBelow
import Derived.BigQuiet
namespace Go.Proofs.YtkegncanmfmmmaaDoor
open Go.RowKit Go.Sort
set_option linter.unusedVariables false

theorem taskValid_eq (t : Task) (w : World) {v : Bool} (h : tOk t = v) : Calls Tryd.prog 116 #[.agg #[.int .i64 t.lift, .int .i64 t.crane, .int .i64 t.start, .int .i64 t.stop]] w fun e w' => e = .returned (.bool v) ∧ Below w.heap.size w w' := by subst h; exact taskValid_any t w

set_option maxRecDepth 100000 in
set_option maxHeartbeats 800000 in
theorem validTasks_any (A : Option Addr) (n c : Nat) (ps : List Task) (w : World) (lo : Nat) (h : Arr Task.cs 4 w lo w.heap.size A n ps) (hn : n ≤ 1048576) :
    Calls Tryd.prog 68 #[.slice A n c] w fun e w' => e = .returned (.bool (tasksOk ps)) ∧ Below w.heap.size w w' := by
  go_enter Tryd.func68, Tryd.ntmps68
  go_wp2
  go_loopw [7] (fun i wr => ∃ k : Nat, k ≤ n ∧ i = .int .i64 k ∧ allTo (taskAt ps) k = true ∧ Below w.heap.size w wr) (fun i _ => n - (intOf i).toNat)
  case atStart => exact ⟨0, Nat.zero_le _, rfl, rfl, Below.refl _ _⟩
  case round =>
    obtain ⟨k, hk, rfl, hall, hb⟩ := hrel
    have HA := Lib.hid hall
    clear hall
    by_cases hlt : k < n
    · obtain ⟨b, off, p, rfl, hx, _, hbl, c0, c1, c2, c3⟩ := Task.at (h.below hb) hlt
      have HX := Lib.hid hx
      have hsz := hb.size
      have hk1 : (k : Int) < (n : Int) := by omega
      clear hx
      cases hq : tOk p
      · have HQ := Lib.hid hq
        obtain ⟨W, hW⟩ : ∃ W : World, W = wr.alloc (.cells #[.int .i64 p.lift, .int .i64 p.crane, .int .i64 p.start, .int .i64 p.stop] 102) := ⟨_, rfl⟩
        have hbW : Below wr.heap.size wr W := by rw [hW]; exact (Below.refl _ _).alloc (Nat.le_refl _) _
        have hszW : wr.heap.size < W.heap.size := by rw [hW]; simp
        have t0 := cell_regrown (show W.cell? ⟨wr.heap.size, 0, none⟩ = some (.int .i64 p.lift) by rw [hW]; simp)
        have t1 := cell_regrown (show W.cell? ⟨wr.heap.size, 1, none⟩ = some (.int .i64 p.crane) by rw [hW]; simp)
        have t2 := cell_regrown (show W.cell? ⟨wr.heap.size, 2, none⟩ = some (.int .i64 p.start) by rw [hW]; simp)
        have t3 := cell_regrown (show W.cell? ⟨wr.heap.size, 3, none⟩ = some (.int .i64 p.stop) by rw [hW]; simp)
        go_wp2
        rw [← hW]
        clear hW c0 c1 c2 c3
        refine wp_region_quiet_below (by kernel_rfl) (by kernel_rfl) ?_
        repeat (go_big_quiet_step (first | (go_at_call 116; exact Calls.regrown_of (taskValid_eq p _ hq))))
        refine wpQuiet_nil ?_
        intro _ hw9
        obtain ⟨⟨dq, osq⟩, hw9⟩ := hw9
        subst hw9
        have hb1 := below_regrown W dq osq
        dsimp only at hb1 ⊢
        generalize grow (redrawn W dq) osq = W2 at hb1 ⊢
        go_wp2
        go_ret
        exact ⟨by rw [tasksOk_bad HX.out (by rw [HQ.out]; rfl)]; rfl, (hb.trans (hbW.mono hsz)).trans (hb1.mono (by omega))⟩
      · have HQ := Lib.hid hq
        rcases Nat.eq_zero_or_pos k with rfl | hk0
        · simp only [Nat.zero_mul, Nat.add_zero] at c0 c1 c2 c3
          obtain ⟨W, hW⟩ : ∃ W : World, W = wr.alloc (.cells #[.int .i64 p.lift, .int .i64 p.crane, .int .i64 p.start, .int .i64 p.stop] 102) := ⟨_, rfl⟩
          have hbW : Below wr.heap.size wr W := by rw [hW]; exact (Below.refl _ _).alloc (Nat.le_refl _) _
          have hszW : wr.heap.size < W.heap.size := by rw [hW]; simp
          have t0 := cell_regrown (show W.cell? ⟨wr.heap.size, 0, none⟩ = some (.int .i64 p.lift) by rw [hW]; simp)
          have t1 := cell_regrown (show W.cell? ⟨wr.heap.size, 1, none⟩ = some (.int .i64 p.crane) by rw [hW]; simp)
          have t2 := cell_regrown (show W.cell? ⟨wr.heap.size, 2, none⟩ = some (.int .i64 p.start) by rw [hW]; simp)
          have t3 := cell_regrown (show W.cell? ⟨wr.heap.size, 3, none⟩ = some (.int .i64 p.stop) by rw [hW]; simp)
          go_wp2
          rw [← hW]
          clear hW c0 c1 c2 c3
          refine wp_region_quiet_below (by kernel_rfl) (by kernel_rfl) ?_
          repeat (go_big_quiet_step (first | (go_at_call 116; exact Calls.regrown_of (taskValid_eq p _ hq))))
          refine wpQuiet_nil ?_
          intro _ hw9
          obtain ⟨⟨dq, osq⟩, hw9⟩ := hw9
          subst hw9
          have hb1 := below_regrown W dq osq
          dsimp only at hb1 ⊢
          generalize grow (redrawn W dq) osq = W2 at hb1 ⊢
          go_wp2
          go_roundw
          case rel => exact ⟨1, by omega, by go_num, allTo_step HA.out (by rw [taskAt_of HX.out, HQ.out]; rfl), (hb.trans (hbW.mono hsz)).trans (hb1.mono (by omega))⟩
          case measure => simp [intOf]; omega
        · obtain ⟨m, rfl⟩ : ∃ m, k = m + 1 := ⟨k - 1, by omega⟩
          obtain ⟨b4, off4, q, e4, hx4, _, _, d0, d1, d2, d3⟩ := Task.at (h.below hb) (show m < n by omega)
          cases e4
          have HX4 := Lib.hid hx4
          have hm0 : (0 : Int) ≤ (m : Int) := by omega
          have hm1 : (m : Int) < (n : Int) := by omega
          clear hx4
          obtain ⟨W, hW⟩ : ∃ W : World, W = wr.alloc (.cells #[.int .i64 p.lift, .int .i64 p.crane, .int .i64 p.start, .int .i64 p.stop] 102) := ⟨_, rfl⟩
          have hbW : Below wr.heap.size wr W := by rw [hW]; exact (Below.refl _ _).alloc (Nat.le_refl _) _
          have hszW : wr.heap.size < W.heap.size := by rw [hW]; simp
          have t0 := cell_regrown (show W.cell? ⟨wr.heap.size, 0, none⟩ = some (.int .i64 p.lift) by rw [hW]; simp)
          have t1 := cell_regrown (show W.cell? ⟨wr.heap.size, 1, none⟩ = some (.int .i64 p.crane) by rw [hW]; simp)
          have t2 := cell_regrown (show W.cell? ⟨wr.heap.size, 2, none⟩ = some (.int .i64 p.start) by rw [hW]; simp)
          have t3 := cell_regrown (show W.cell? ⟨wr.heap.size, 3, none⟩ = some (.int .i64 p.stop) by rw [hW]; simp)
          have y0 := cell_regrown ((hbW.cell (p := ⟨b, off + m * 4, none⟩) (show b < _ by omega)).trans d0)
          have y1 := cell_regrown ((hbW.cell (p := ⟨b, off + m * 4 + 1, none⟩) (show b < _ by omega)).trans d1)
          have y2 := cell_regrown ((hbW.cell (p := ⟨b, off + m * 4 + 2, none⟩) (show b < _ by omega)).trans d2)
          have y3 := cell_regrown ((hbW.cell (p := ⟨b, off + m * 4 + 3, none⟩) (show b < _ by omega)).trans d3)
          clear d0 d1 d2 d3
          cases hc : befB q p
          · have HC := Lib.hid hc
            have hge : (0 : Int) ≤ cmpT q p := by unfold befB at hc; simp at hc; exact hc
            clear hc
            go_wp2
            rw [← hW]
            clear hW c0 c1 c2 c3
            refine wp_region_quiet_below (by kernel_rfl) (by kernel_rfl) ?_
            repeat (go_big_quiet_step (first | (go_at_call 116; exact Calls.regrown_of (taskValid_eq p _ hq)) | (go_at_call 117; exact Calls.regrown_of (compareTasks_any q p _))))
            refine wpQuiet_nil ?_
            intro _ hw9
            obtain ⟨⟨dq, osq⟩, hw9⟩ := hw9
            subst hw9
            have hb1 := below_regrown W dq osq
            dsimp only at hb1 ⊢
            generalize grow (redrawn W dq) osq = W2 at hb1 ⊢
            go_wp2
            go_ret
            exact ⟨by rw [tasksOk_bad HX.out (by rw [HQ.out, seqAt_succ HX4.out HX.out, HC.out]; rfl)]; rfl, (hb.trans (hbW.mono hsz)).trans (hb1.mono (by omega))⟩
          · have HC := Lib.hid hc
            have hge : ¬ (0 : Int) ≤ cmpT q p := by unfold befB at hc; simp at hc; omega
            clear hc
            go_wp2
            rw [← hW]
            clear hW c0 c1 c2 c3
            refine wp_region_quiet_below (by kernel_rfl) (by kernel_rfl) ?_
            repeat (go_big_quiet_step (first | (go_at_call 116; exact Calls.regrown_of (taskValid_eq p _ hq)) | (go_at_call 117; exact Calls.regrown_of (compareTasks_any q p _))))
            refine wpQuiet_nil ?_
            intro _ hw9
            obtain ⟨⟨dq, osq⟩, hw9⟩ := hw9
            subst hw9
            have hb1 := below_regrown W dq osq
            dsimp only at hb1 ⊢
            generalize grow (redrawn W dq) osq = W2 at hb1 ⊢
            go_wp2
            go_roundw
            case rel => exact ⟨m + 1 + 1, by omega, by go_num, allTo_step HA.out (by rw [taskAt_of HX.out, HQ.out, seqAt_succ HX4.out HX.out, HC.out]; rfl), (hb.trans (hbW.mono hsz)).trans (hb1.mono (by omega))⟩
            case measure => simp [intOf]; omega
    · obtain rfl : k = n := by omega
      have HL : Hid (tasksOk ps = decide ((k : Int) ≤ 40)) := by
        show _ = _
        unfold tasksOk; rw [h.1, HA.out]; simp; omega
      go_wp2
      go_ret
      exact ⟨by rw [HL.out]; rfl, hb⟩

theorem l11One_eq (b off : Nat) (t : Task) (w : World) {v : Bool} (h : tOk t = v) (c0 : w.cell? ⟨b, off, none⟩ = some (.int .i64 t.lift)) (c1 : w.cell? ⟨b, off + 1, none⟩ = some (.int .i64 t.crane)) (c2 : w.cell? ⟨b, off + 2, none⟩ = some (.int .i64 t.start)) (c3 : w.cell? ⟨b, off + 3, none⟩ = some (.int .i64 t.stop)) :
    Calls Tryd.prog 113 #[.pointer (some ⟨b, off, none⟩)] w (Quiet (.bool v) w) := by subst h; exact l11One_any b off t w c0 c1 c2 c3
theorem l12Before_eq (b off b2 off2 : Nat) (x y : Task) (w : World) {v : Bool} (h : befB x y = v) (c0 : w.cell? ⟨b, off, none⟩ = some (.int .i64 x.lift)) (c1 : w.cell? ⟨b, off + 1, none⟩ = some (.int .i64 x.crane)) (c2 : w.cell? ⟨b, off + 2, none⟩ = some (.int .i64 x.start))
    (d0 : w.cell? ⟨b2, off2, none⟩ = some (.int .i64 y.lift)) (d1 : w.cell? ⟨b2, off2 + 1, none⟩ = some (.int .i64 y.crane)) (d2 : w.cell? ⟨b2, off2 + 2, none⟩ = some (.int .i64 y.start)) :
    Calls Tryd.prog 114 #[.pointer (some ⟨b, off, none⟩), .pointer (some ⟨b2, off2, none⟩)] w (Quiet (.bool v) w) := by subst h; exact l12Before_any b off b2 off2 x y w c0 c1 c2 d0 d1 d2

set_option maxRecDepth 100000 in
set_option maxHeartbeats 800000 in
theorem l11Ok_any (A : Option Addr) (n c : Nat) (ps : List Task) (w : World) (lo : Nat) (h : Arr Task.cs 4 w lo w.heap.size A n ps) (hn : n ≤ 1048576) :
    Calls Tryd.prog 66 #[.slice A n c] w (Quiet (.bool (tasksOk ps)) w) := by
  go_enter Tryd.func66, Tryd.ntmps66
  go_wp2
  go_loopw [3] (fun i wr => ∃ k : Nat, k ≤ n ∧ i = .int .i64 k ∧ allTo (taskAt ps) k = true ∧ ∃ m, wr = w.drewN m) (fun i _ => n - (intOf i).toNat)
  case atStart => exact ⟨0, Nat.zero_le _, rfl, rfl, 0, rfl⟩
  case round =>
    obtain ⟨k, hk, rfl, hall, N, rfl⟩ := hrel
    have HA := Lib.hid hall
    clear hall
    by_cases hlt : k < n
    · obtain ⟨b, off, p, rfl, hx, _, hbl, c0, c1, c2, c3⟩ := Task.at h hlt
      have HX := Lib.hid hx
      have hk00 : (0 : Int) ≤ (k : Int) := by omega
      have hk1 : (k : Int) < (n : Int) := by omega
      clear hx
      cases hq : tOk p
      · have HQ := Lib.hid hq
        go_wp2
        go_quiet ((go_at_call 113; exact quiet_add (l11One_eq b _ p _ hq c0 c1 c2 c3)))
        go_wp2
        go_ret
        exact ⟨by rw [tasksOk_bad HX.out (by rw [HQ.out]; rfl)]; rfl, by first | exact ⟨_, rfl⟩ | exact ⟨_, World.drewN_drewN _ _ _⟩⟩
      · have HQ := Lib.hid hq
        rcases Nat.eq_zero_or_pos k with rfl | hk0
        · simp only [Nat.zero_mul, Nat.add_zero] at c0 c1 c2 c3
          go_wp2
          go_quiet ((go_at_call 113; exact quiet_add (l11One_eq b _ p _ hq c0 c1 c2 c3)))
          go_wp2
          go_roundw
          case rel => exact ⟨1, by omega, by go_num, allTo_step HA.out (by rw [taskAt_of HX.out, HQ.out]; rfl), by first | exact ⟨_, rfl⟩ | exact ⟨_, World.drewN_drewN _ _ _⟩⟩
          case measure => simp [intOf]; omega
        · obtain ⟨m, rfl⟩ : ∃ m, k = m + 1 := ⟨k - 1, by omega⟩
          obtain ⟨b4, off4, q, e4, hx4, _, _, d0, d1, d2, d3⟩ := Task.at h (show m < n by omega)
          cases e4
          have HX4 := Lib.hid hx4
          have hm0 : (0 : Int) ≤ (m : Int) := by omega
          have hm1 : (m : Int) < (n : Int) := by omega
          have ew : IntKind.i64.wrap (m : Int) = (m : Int) := IntWalk.i64_in _ ⟨by omega, by omega⟩
          clear hx4
          cases hc : befB q p
          · have HC := Lib.hid hc
            go_wp2
            go_quiet ((first | (go_at_call 113; exact quiet_add (l11One_eq b _ p _ hq c0 c1 c2 c3)) | (go_at_call 114; exact quiet_add (l12Before_eq b _ b _ q p _ hc d0 d1 d2 c0 c1 c2))))
            go_wp2
            go_ret
            exact ⟨by rw [tasksOk_bad HX.out (by rw [HQ.out, seqAt_succ HX4.out HX.out, HC.out]; rfl)]; rfl, by first | exact ⟨_, rfl⟩ | exact ⟨_, World.drewN_drewN _ _ _⟩⟩
          · have HC := Lib.hid hc
            go_wp2
            go_quiet ((first | (go_at_call 113; exact quiet_add (l11One_eq b _ p _ hq c0 c1 c2 c3)) | (go_at_call 114; exact quiet_add (l12Before_eq b _ b _ q p _ hc d0 d1 d2 c0 c1 c2))))
            go_wp2
            go_roundw
            case rel => exact ⟨m + 1 + 1, by omega, by go_num, allTo_step HA.out (by rw [taskAt_of HX.out, HQ.out, seqAt_succ HX4.out HX.out, HC.out]; rfl), by first | exact ⟨_, rfl⟩ | exact ⟨_, World.drewN_drewN _ _ _⟩⟩
            case measure => simp [intOf]; omega
    · obtain rfl : k = n := by omega
      have HL : Hid (tasksOk ps = decide ((k : Int) ≤ 40)) := by
        show _ = _
        unfold tasksOk; rw [h.1, HA.out]; simp; omega
      go_wp2
      go_ret
      exact ⟨by rw [HL.out]; rfl, by first | exact ⟨_, rfl⟩ | exact ⟨_, World.drewN_drewN _ _ _⟩⟩
end Go.Proofs.YtkegncanmfmmmaaDoor
