/- Shifts: their form, faults, hours. -/
import Derived.Test.YtdhobglhjdgboaaRShift
import Derived.Test.YtdhobglhjdgboaaHasPermit
import Derived.Test.YtdhobglhjdgboaaFind
import Derived.Test.YtdhobglhjdgboaaQuiet
namespace Go.Proofs.Ytdhobglhjdgboaa
open Go.RowKit
set_option linter.unusedVariables false

def fOk (x : Shift) : Bool := inB x.person 0 29 && (inB x.crane 0 5 && (roleB x.role && (inB x.start 0 240000 && inB x.stop (x.start + 1) (x.start + 12))))
theorem fOk_cases (x : Shift) : (inB x.person 0 29 = false ∧ fOk x = false) ∨ (inB x.person 0 29 = true ∧ inB x.crane 0 5 = false ∧ fOk x = false) ∨ (inB x.person 0 29 = true ∧ inB x.crane 0 5 = true ∧ roleB x.role = false ∧ fOk x = false) ∨
    (inB x.person 0 29 = true ∧ inB x.crane 0 5 = true ∧ roleB x.role = true ∧ inB x.start 0 240000 = false ∧ fOk x = false) ∨ (inB x.person 0 29 = true ∧ inB x.crane 0 5 = true ∧ roleB x.role = true ∧ inB x.start 0 240000 = true ∧ fOk x = inB x.stop (x.start + 1) (x.start + 12)) := by
  unfold fOk
  cases inB x.person 0 29 <;> cases inB x.crane 0 5 <;> cases roleB x.role <;> cases inB x.start 0 240000 <;> simp
theorem fOk_iff {x : Shift} (h : fOk x = true) : (0 ≤ x.person ∧ x.person ≤ 29) ∧ (0 ≤ x.crane ∧ x.crane ≤ 5) ∧ (x.role = 1 ∨ x.role = 2 ∨ x.role = 4) ∧ (0 ≤ x.start ∧ x.start ≤ 240000) ∧ (x.start + 1 ≤ x.stop ∧ x.stop ≤ x.start + 12) := by
  unfold fOk at h
  simp only [Bool.and_eq_true] at h
  obtain ⟨h1, h2, h3, h4, h5⟩ := h
  exact ⟨inB_true.1 h1, inB_true.1 h2, roleB_iff.1 h3, inB_true.1 h4, inB_true.1 h5⟩

set_option maxHeartbeats 800000 in
theorem formed_any (x : Shift) (w : World) :
    Calls Try.prog 70 #[.agg #[.int .i64 x.person, .int .i64 x.crane, .int .i64 x.role, .int .i64 x.start, .int .i64 x.stop]] w fun e w' => e = .returned (.bool (fOk x)) ∧ Below w.heap.size w w' := by
  rcases fOk_cases x with ⟨a1, ao⟩ | ⟨a1, a2, ao⟩ | ⟨a1, a2, a3, ao⟩ | ⟨a1, a2, a3, a4, ao⟩ | ⟨a1, a2, a3, a4, ao⟩
  rotate_left 4
  · obtain ⟨b1, b2⟩ := inB_true.1 a4
    have HO := Lib.hid ao
    clear ao
    go_enter Try.func70, Try.ntmps70
    go_wp2_with (first | (go_at_call 71; refine (within_any _ _ _ _).mono ?_; rintro e w1 ⟨rfl, rfl⟩) | (go_at_call 101; refine (isRole_any _ _).mono ?_; rintro e w1 ⟨rfl, rfl⟩))
    go_ret
    exact ⟨by rw [HO.out]; rfl, (Below.refl _ _).alloc (Nat.le_refl _) _⟩
  all_goals
    have HO := Lib.hid ao
    clear ao
    go_enter Try.func70, Try.ntmps70
    go_wp2_with (first | (go_at_call 71; refine (within_any _ _ _ _).mono ?_; rintro e w1 ⟨rfl, rfl⟩) | (go_at_call 101; refine (isRole_any _ _).mono ?_; rintro e w1 ⟨rfl, rfl⟩))
    go_ret
    exact ⟨by rw [HO.out]; rfl, (Below.refl _ _).alloc (Nat.le_refl _) _⟩

theorem l00In_eq (n a b : Int) (w : World) {v : Bool} (h : inB n a b = v) : Calls Try.prog 34 #[.int .i64 n, .int .i64 a, .int .i64 b] w fun e w' => e = .returned (.bool v) ∧ w = w' := by subst h; exact l00In_any n a b w
theorem specRole_eq (r : Int) (w : World) {v : Bool} (h : roleB r = v) : Calls Try.prog 98 #[.int .i64 r] w fun e w' => e = .returned (.bool v) ∧ w = w' := by subst h; exact specRole_any r w
theorem specHour_eq (r : Int) (w : World) {v : Bool} (h : inB r 0 240000 = v) : Calls Try.prog 99 #[.int .i64 r] w fun e w' => e = .returned (.bool v) ∧ w = w' := by subst h; exact specHour_any r w
theorem fOk_wrap {x : Shift} (h1 : 0 ≤ x.start) (h2 : x.start ≤ 240000) (h : fOk x = inB x.stop (x.start + 1) (x.start + 12)) : fOk x = inB x.stop (IntKind.i64.wrap (x.start + 1)) (IntKind.i64.wrap (x.start + 12)) := by
  have e1 : IntKind.i64.wrap (x.start + 1) = x.start + 1 := IntWalk.i64_in _ ⟨by omega, by omega⟩
  have e2 : IntKind.i64.wrap (x.start + 12) = x.start + 12 := IntWalk.i64_in _ ⟨by omega, by omega⟩
  rw [e1, e2]; exact h

set_option maxHeartbeats 100000 in
theorem specForm_yes (b off : Nat) (x : Shift) (w : World) (a1 : inB x.person 0 29 = true) (a2 : inB x.crane 0 5 = true) (a3 : roleB x.role = true) (a4 : inB x.start 0 240000 = true) (ao : fOk x = inB x.stop (x.start + 1) (x.start + 12)) (b1 : 0 ≤ x.start) (b2 : x.start ≤ 240000) (c0 : w.cell? ⟨b, off, none⟩ = some (.int .i64 x.person)) (c1 : w.cell? ⟨b, off + 1, none⟩ = some (.int .i64 x.crane)) (c2 : w.cell? ⟨b, off + 2, none⟩ = some (.int .i64 x.role)) (c3 : w.cell? ⟨b, off + 3, none⟩ = some (.int .i64 x.start)) (c4 : w.cell? ⟨b, off + 4, none⟩ = some (.int .i64 x.stop)) :
    Calls Try.prog 67 #[.pointer (some ⟨b, off, none⟩)] w (Quiet (.bool (fOk x)) w) := by
  have HO := Lib.hid (fOk_wrap b1 b2 ao)
  clear b1 b2
  clear ao
  go_enter Try.func67, Try.ntmps67
  go_wp2_with fail
  go_quiet ((first | (go_at_call 34; exact quiet_left (l00In_any _ _ _ _)) | (go_at_call 98; exact quiet_left (specRole_any _ _)) | (go_at_call 99; exact quiet_left (specHour_any _ _))))
  go_wp2
  go_ret
  refine ⟨?_, _, rfl⟩
  simp [HO.out]

set_option maxHeartbeats 400000 in
theorem specForm_no1 (b off : Nat) (x : Shift) (w : World) (a1 : inB x.person 0 29 = false) (ao : fOk x = false) (c0 : w.cell? ⟨b, off, none⟩ = some (.int .i64 x.person)) (c1 : w.cell? ⟨b, off + 1, none⟩ = some (.int .i64 x.crane)) (c2 : w.cell? ⟨b, off + 2, none⟩ = some (.int .i64 x.role)) (c3 : w.cell? ⟨b, off + 3, none⟩ = some (.int .i64 x.start)) (c4 : w.cell? ⟨b, off + 4, none⟩ = some (.int .i64 x.stop)) :
    Calls Try.prog 67 #[.pointer (some ⟨b, off, none⟩)] w (Quiet (.bool (fOk x)) w) := by
  have HO := Lib.hid ao
  clear ao
  go_enter Try.func67, Try.ntmps67
  go_wp2_with fail
  go_quiet ((first | (go_at_call 34; exact quiet_left (l00In_eq _ _ _ _ (by assumption))) | (go_at_call 98; exact quiet_left (specRole_eq _ _ (by assumption))) | (go_at_call 99; exact quiet_left (specHour_eq _ _ (by assumption)))))
  go_wp2
  go_ret
  exact ⟨by rw [HO.out]; rfl, _, rfl⟩

set_option maxHeartbeats 400000 in
theorem specForm_no2 (b off : Nat) (x : Shift) (w : World) (a1 : inB x.person 0 29 = true) (a2 : inB x.crane 0 5 = false) (ao : fOk x = false) (c0 : w.cell? ⟨b, off, none⟩ = some (.int .i64 x.person)) (c1 : w.cell? ⟨b, off + 1, none⟩ = some (.int .i64 x.crane)) (c2 : w.cell? ⟨b, off + 2, none⟩ = some (.int .i64 x.role)) (c3 : w.cell? ⟨b, off + 3, none⟩ = some (.int .i64 x.start)) (c4 : w.cell? ⟨b, off + 4, none⟩ = some (.int .i64 x.stop)) :
    Calls Try.prog 67 #[.pointer (some ⟨b, off, none⟩)] w (Quiet (.bool (fOk x)) w) := by
  have HO := Lib.hid ao
  clear ao
  go_enter Try.func67, Try.ntmps67
  go_wp2_with fail
  go_quiet ((first | (go_at_call 34; exact quiet_left (l00In_eq _ _ _ _ (by assumption))) | (go_at_call 98; exact quiet_left (specRole_eq _ _ (by assumption))) | (go_at_call 99; exact quiet_left (specHour_eq _ _ (by assumption)))))
  go_wp2
  go_ret
  exact ⟨by rw [HO.out]; rfl, _, rfl⟩

set_option maxHeartbeats 400000 in
theorem specForm_no3 (b off : Nat) (x : Shift) (w : World) (a1 : inB x.person 0 29 = true) (a2 : inB x.crane 0 5 = true) (a3 : roleB x.role = false) (ao : fOk x = false) (c0 : w.cell? ⟨b, off, none⟩ = some (.int .i64 x.person)) (c1 : w.cell? ⟨b, off + 1, none⟩ = some (.int .i64 x.crane)) (c2 : w.cell? ⟨b, off + 2, none⟩ = some (.int .i64 x.role)) (c3 : w.cell? ⟨b, off + 3, none⟩ = some (.int .i64 x.start)) (c4 : w.cell? ⟨b, off + 4, none⟩ = some (.int .i64 x.stop)) :
    Calls Try.prog 67 #[.pointer (some ⟨b, off, none⟩)] w (Quiet (.bool (fOk x)) w) := by
  have HO := Lib.hid ao
  clear ao
  go_enter Try.func67, Try.ntmps67
  go_wp2_with fail
  go_quiet ((first | (go_at_call 34; exact quiet_left (l00In_eq _ _ _ _ (by assumption))) | (go_at_call 98; exact quiet_left (specRole_eq _ _ (by assumption))) | (go_at_call 99; exact quiet_left (specHour_eq _ _ (by assumption)))))
  go_wp2
  go_ret
  exact ⟨by rw [HO.out]; rfl, _, rfl⟩

set_option maxHeartbeats 400000 in
theorem specForm_no4 (b off : Nat) (x : Shift) (w : World) (a1 : inB x.person 0 29 = true) (a2 : inB x.crane 0 5 = true) (a3 : roleB x.role = true) (a4 : inB x.start 0 240000 = false) (ao : fOk x = false) (c0 : w.cell? ⟨b, off, none⟩ = some (.int .i64 x.person)) (c1 : w.cell? ⟨b, off + 1, none⟩ = some (.int .i64 x.crane)) (c2 : w.cell? ⟨b, off + 2, none⟩ = some (.int .i64 x.role)) (c3 : w.cell? ⟨b, off + 3, none⟩ = some (.int .i64 x.start)) (c4 : w.cell? ⟨b, off + 4, none⟩ = some (.int .i64 x.stop)) :
    Calls Try.prog 67 #[.pointer (some ⟨b, off, none⟩)] w (Quiet (.bool (fOk x)) w) := by
  have HO := Lib.hid ao
  clear ao
  go_enter Try.func67, Try.ntmps67
  go_wp2_with fail
  go_quiet ((first | (go_at_call 34; exact quiet_left (l00In_eq _ _ _ _ (by assumption))) | (go_at_call 98; exact quiet_left (specRole_eq _ _ (by assumption))) | (go_at_call 99; exact quiet_left (specHour_eq _ _ (by assumption)))))
  go_wp2
  go_ret
  exact ⟨by rw [HO.out]; rfl, _, rfl⟩

theorem specForm_any (b off : Nat) (x : Shift) (w : World) (c0 : w.cell? ⟨b, off, none⟩ = some (.int .i64 x.person)) (c1 : w.cell? ⟨b, off + 1, none⟩ = some (.int .i64 x.crane)) (c2 : w.cell? ⟨b, off + 2, none⟩ = some (.int .i64 x.role)) (c3 : w.cell? ⟨b, off + 3, none⟩ = some (.int .i64 x.start)) (c4 : w.cell? ⟨b, off + 4, none⟩ = some (.int .i64 x.stop)) :
    Calls Try.prog 67 #[.pointer (some ⟨b, off, none⟩)] w (Quiet (.bool (fOk x)) w) := by
  rcases fOk_cases x with ⟨a1, ao⟩ | ⟨a1, a2, ao⟩ | ⟨a1, a2, a3, ao⟩ | ⟨a1, a2, a3, a4, ao⟩ | ⟨a1, a2, a3, a4, ao⟩
  · exact specForm_no1 b off x w a1 ao c0 c1 c2 c3 c4
  · exact specForm_no2 b off x w a1 a2 ao c0 c1 c2 c3 c4
  · exact specForm_no3 b off x w a1 a2 a3 ao c0 c1 c2 c3 c4
  · exact specForm_no4 b off x w a1 a2 a3 a4 ao c0 c1 c2 c3 c4
  · obtain ⟨b1, b2⟩ := inB_true.1 a4
    exact specForm_yes b off x w a1 a2 a3 a4 ao b1 b2 c0 c1 c2 c3 c4

def badShift (x : Shift) : Bool := !fOk x
theorem badShift_any (x : Shift) (w : World) :
    Calls Try.prog 69 #[.agg #[.int .i64 x.person, .int .i64 x.crane, .int .i64 x.role, .int .i64 x.start, .int .i64 x.stop]] w fun e w' => e = .returned (.bool (badShift x)) ∧ Below w.heap.size w w' := by
  go_enter Try.func69, Try.ntmps69
  go_wp2_with (go_at_call 70; refine (formed_any x _).mono ?_; rintro e w1 ⟨rfl, hb⟩)
  go_ret
  exact ⟨rfl, ((Below.refl _ _).alloc (Nat.le_refl _) _).trans (hb.mono (by simp))⟩
end Go.Proofs.Ytdhobglhjdgboaa
