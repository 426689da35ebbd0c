/- l11One and l12Before of the reference. -/
import Derived.Test.YtkegncanmfmmmaaDoorTaskLaw
import Derived.Test.YtkegncanmfmmmaaDoorQuiet
namespace Go.Proofs.YtkegncanmfmmmaaDoor
open Go.RowKit
set_option linter.unusedVariables false

theorem l00InT_eq (n a b : Int) (w : World) {v : Bool} (h : inB n a b = v) : Calls Tryd.prog 82 #[.int .i64 n, .int .i64 a, .int .i64 b] w fun e w' => e = .returned (.bool v) ∧ w = w' := by subst h; exact l00In_any n a b w
theorem tTime_two (t : Task) : tTime t = (inB t.start 0 1000000 && inB t.stop t.start 1000000) := by
  rw [Bool.eq_iff_iff]; unfold tTime
  simp only [Bool.and_eq_true, decide_eq_true_eq, inB_true]; omega
theorem tOk_cases4 (t : Task) : (inB t.lift 0 9 = false ∧ tOk t = false) ∨ (inB t.lift 0 9 = true ∧ inB t.crane 0 5 = false ∧ tOk t = false) ∨ (inB t.lift 0 9 = true ∧ inB t.crane 0 5 = true ∧ inB t.start 0 1000000 = false ∧ tOk t = false) ∨ (inB t.lift 0 9 = true ∧ inB t.crane 0 5 = true ∧ inB t.start 0 1000000 = true ∧ tOk t = inB t.stop t.start 1000000) := by
  unfold tOk; rw [tTime_two]
  cases inB t.lift 0 9 <;> cases inB t.crane 0 5 <;> cases inB t.start 0 1000000 <;> simp

set_option maxHeartbeats 800000 in
theorem l11One_any (b off : Nat) (t : Task) (w : World) (c0 : w.cell? ⟨b, off, none⟩ = some (.int .i64 t.lift)) (c1 : w.cell? ⟨b, off + 1, none⟩ = some (.int .i64 t.crane)) (c2 : w.cell? ⟨b, off + 2, none⟩ = some (.int .i64 t.start)) (c3 : w.cell? ⟨b, off + 3, none⟩ = some (.int .i64 t.stop)) :
    Calls Tryd.prog 113 #[.pointer (some ⟨b, off, none⟩)] w (Quiet (.bool (tOk t)) w) := by
  rcases tOk_cases4 t with ⟨a1, ao⟩ | ⟨a1, a2, ao⟩ | ⟨a1, a2, a3, ao⟩ | ⟨a1, a2, a3, ao⟩
  · have HO := Lib.hid ao; clear ao
    go_enter Tryd.func113, Tryd.ntmps113
    go_wp2_with fail
    go_quiet ((go_at_call 82; exact quiet_left (l00InT_eq _ _ _ _ (by assumption))))
    go_wp2
    go_ret
    exact ⟨by rw [HO.out]; rfl, _, rfl⟩
  · have HO := Lib.hid ao; clear ao
    go_enter Tryd.func113, Tryd.ntmps113
    go_wp2_with fail
    go_quiet ((go_at_call 82; exact quiet_left (l00InT_eq _ _ _ _ (by assumption))))
    go_wp2
    go_ret
    exact ⟨by rw [HO.out]; rfl, _, rfl⟩
  · have HO := Lib.hid ao; clear ao
    go_enter Tryd.func113, Tryd.ntmps113
    go_wp2_with fail
    go_quiet ((go_at_call 82; exact quiet_left (l00InT_eq _ _ _ _ (by assumption))))
    go_wp2
    go_ret
    exact ⟨by rw [HO.out]; rfl, _, rfl⟩
  · have HO := Lib.hid ao; clear ao
    cases a4 : inB t.stop t.start 1000000
    all_goals
      have H4 := Lib.hid a4
      go_enter Tryd.func113, Tryd.ntmps113
      go_wp2_with fail
      go_quiet ((go_at_call 82; exact quiet_left (l00InT_eq _ _ _ _ (by assumption))))
      go_wp2
      go_ret
      exact ⟨by rw [HO.out, H4.out]; rfl, _, rfl⟩

set_option maxHeartbeats 800000 in
theorem l12Before_any (b off b2 off2 : Nat) (x y : Task) (w : World) (c0 : w.cell? ⟨b, off, none⟩ = some (.int .i64 x.lift)) (c1 : w.cell? ⟨b, off + 1, none⟩ = some (.int .i64 x.crane)) (c2 : w.cell? ⟨b, off + 2, none⟩ = some (.int .i64 x.start))
    (d0 : w.cell? ⟨b2, off2, none⟩ = some (.int .i64 y.lift)) (d1 : w.cell? ⟨b2, off2 + 1, none⟩ = some (.int .i64 y.crane)) (d2 : w.cell? ⟨b2, off2 + 2, none⟩ = some (.int .i64 y.start)) :
    Calls Tryd.prog 114 #[.pointer (some ⟨b, off, none⟩), .pointer (some ⟨b2, off2, none⟩)] w (Quiet (.bool (befB x y)) w) := by
  by_cases h1 : x.start = y.start
  · have e1 : (x.start != y.start) = false := by rw [h1]; simp
    by_cases h2 : x.crane = y.crane
    · have e2 : (x.crane != y.crane) = false := by rw [h2]; simp
      have H : Hid (befB x y = decide (x.lift < y.lift)) := befB_lift h1 h2
      clear h1 h2
      go_enter Tryd.func114, Tryd.ntmps114
      go_wp2_with fail
      go_quiet (fail)
      go_wp2
      go_quiet (fail)
      go_wp2
      go_quiet (fail)
      go_wp2
      go_ret
      exact ⟨by rw [H.out]; rfl, by simp only [World.drewN_drewN]; exact ⟨_, rfl⟩⟩
    · have e2 : (x.crane != y.crane) = true := by simp [h2]
      have H : Hid (befB x y = decide (x.crane < y.crane)) := befB_crane h1 h2
      clear h1 h2
      go_enter Tryd.func114, Tryd.ntmps114
      go_wp2_with fail
      go_quiet (fail)
      go_wp2
      go_quiet (fail)
      go_wp2
      go_quiet (fail)
      go_wp2
      go_ret
      exact ⟨by rw [H.out]; rfl, by simp only [World.drewN_drewN]; exact ⟨_, rfl⟩⟩
  · have e1 : (x.start != y.start) = true := by simp [h1]
    have H : Hid (befB x y = decide (x.start < y.start)) := befB_start h1
    clear h1
    go_enter Tryd.func114, Tryd.ntmps114
    go_wp2_with fail
    go_quiet (fail)
    go_wp2
    go_quiet (fail)
    go_wp2
    go_ret
    exact ⟨by rw [H.out]; rfl, by simp only [World.drewN_drewN]; exact ⟨_, rfl⟩⟩
end Go.Proofs.YtkegncanmfmmmaaDoor
