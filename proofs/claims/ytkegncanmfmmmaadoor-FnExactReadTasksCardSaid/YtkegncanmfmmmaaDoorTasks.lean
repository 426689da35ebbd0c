/- ValidTasks of the program, l11Ok of the reference: both say tasksOk. -/
import Derived.Test.YtkegncanmfmmmaaDoorTaskLaw
import Derived.Test.YtkegncanmfmmmaaDoorQuiet
import Derived.Test.YtkegncanmfmmmaaDoorGrow2
import Derived.Deep.RegionHeld3
import Derived.Deep.DrawnRows
import Derived.StillTailTactics
namespace Go.Proofs.YtkegncanmfmmmaaDoor
open Go.RowKit
set_option linter.unusedVariables false

theorem orTo3 (a b c : Int) : orTo [a, b, c] = if a ≠ 0 then a else if b ≠ 0 then b else c := by
  unfold orTo orTo orTo orTo
  by_cases ha : a = 0
  · by_cases hb : b = 0
    · by_cases hc : c = 0 <;> simp [ha, hb, hc]
    · simp [ha, hb]
  · simp [ha]
/-- three numbers that lie in a block of their own -/
theorem arr3 (w : World) (a b c : Int) (t : TypeId) : Arr ic 1 (w.alloc (.cells #[.int .i64 a, .int .i64 b, .int .i64 c] t)) w.heap.size (w.heap.size + 1) (some ⟨w.heap.size, 0, none⟩) 3 [a, b, c] :=
  ⟨rfl, fun _ => ⟨w.heap.size, 0, rfl, Nat.le_refl _, by omega, fun i x hx j u hu => by
    have hi : i < 3 := (List.getElem?_eq_some_iff.1 hx).1
    have hj : j = 0 := by
      have := (List.getElem?_eq_some_iff.1 hu).1
      simp [ic] at this; exact this
    subst hj
    simp [ic] at hu
    subst hu
    have : i = 0 ∨ i = 1 ∨ i = 2 := by omega
    rcases this with rfl | rfl | rfl
    · simp at hx; subst hx; simp
    · simp at hx; subst hx; simp
    · simp at hx; subst hx; simp⟩⟩

theorem taskTime_any (t : Task) (w : World) : Calls Tryd.prog 144 #[.agg #[.int .i64 t.lift, .int .i64 t.crane, .int .i64 t.start, .int .i64 t.stop]] w fun e w' => e = .returned (.bool (tTime t)) ∧ Below w.heap.size w w' := by
  by_cases h1 : 0 ≤ t.start
  · by_cases h2 : t.start ≤ t.stop
    · have H : Hid (tTime t = decide (t.stop ≤ 1000000)) := by show _ = _; unfold tTime; rw [decide_eq_true h1, decide_eq_true h2]; rfl
      go_enter Tryd.func144, Tryd.ntmps144
      go_wp2
      go_ret
      exact ⟨by rw [H.out]; rfl, (Below.refl _ _).alloc (Nat.le_refl _) _⟩
    · have H : Hid (tTime t = false) := by show _ = _; unfold tTime; rw [decide_eq_false h2]; simp
      go_enter Tryd.func144, Tryd.ntmps144
      go_wp2
      go_ret
      exact ⟨by rw [H.out]; rfl, (Below.refl _ _).alloc (Nat.le_refl _) _⟩
  · have H : Hid (tTime t = false) := by show _ = _; unfold tTime; rw [decide_eq_false h1]; rfl
    go_enter Tryd.func144, Tryd.ntmps144
    go_wp2
    go_ret
    exact ⟨by rw [H.out]; rfl, (Below.refl _ _).alloc (Nat.le_refl _) _⟩

theorem taskValid_any (t : Task) (w : World) : Calls Tryd.prog 116 #[.agg #[.int .i64 t.lift, .int .i64 t.crane, .int .i64 t.start, .int .i64 t.stop]] w fun e w' => e = .returned (.bool (tOk t)) ∧ Below w.heap.size w w' := by
  rcases tOk_cases t with ⟨a1, ao⟩ | ⟨a1, a2, ao⟩ | ⟨a1, a2, ao⟩
  · have HO := Lib.hid ao; clear ao
    go_enter Tryd.func116, Tryd.ntmps116
    go_wp2_with (go_at_call 77; refine (within_any _ _ _ _).mono ?_; rintro e w1 ⟨rfl, rfl⟩)
    go_ret
    exact ⟨by rw [HO.out]; rfl, (Below.refl _ _).alloc (Nat.le_refl _) _⟩
  · have HO := Lib.hid ao; clear ao
    go_enter Tryd.func116, Tryd.ntmps116
    go_wp2_with (go_at_call 77; refine (within_any _ _ _ _).mono ?_; rintro e w1 ⟨rfl, rfl⟩)
    go_ret
    exact ⟨by rw [HO.out]; rfl, (Below.refl _ _).alloc (Nat.le_refl _) _⟩
  · have HO := Lib.hid ao; clear ao
    go_enter Tryd.func116, Tryd.ntmps116
    go_wp2_with (first | (go_at_call 77; refine (within_any _ _ _ _).mono ?_; rintro e w1 ⟨rfl, rfl⟩) | (go_at_call 144; refine (taskTime_any t _).mono ?_; rintro e w1 ⟨rfl, hb⟩))
    go_ret
    exact ⟨by rw [HO.out]; rfl, ((Below.refl _ _).alloc (Nat.le_refl _) _).trans (hb.mono (by simp))⟩

theorem cmpInt_still (a b : Int) (w : World) : Calls Tryd.prog 146 #[.int .i64 a, .int .i64 b] w fun e w' => e = .returned (.int .i64 (sgn a b)) ∧ w' = w := (cmpInt_any a b w).mono fun _ _ h => ⟨h.1, h.2.symm⟩
set_option maxHeartbeats 400000 in
set_option maxRecDepth 100000 in
theorem compareTasks_any (a b : Task) (w : World) : Calls Tryd.prog 117 #[.agg #[.int .i64 a.lift, .int .i64 a.crane, .int .i64 a.start, .int .i64 a.stop], .agg #[.int .i64 b.lift, .int .i64 b.crane, .int .i64 b.start, .int .i64 b.stop]] w fun e w' => e = .returned (.int .i64 (cmpT a b)) ∧ Below w.heap.size w w' := by
  have HC : Hid (cmpT a b = orTo [sgn a.start b.start, sgn a.crane b.crane, sgn a.lift b.lift]) := by show _ = _; rw [orTo3]; rfl
  obtain ⟨W, hW⟩ : ∃ W : World, W = (w.alloc (.cells #[.int .i64 a.lift, .int .i64 a.crane, .int .i64 a.start, .int .i64 a.stop] 102)).alloc (.cells #[.int .i64 b.lift, .int .i64 b.crane, .int .i64 b.start, .int .i64 b.stop] 102) := ⟨_, rfl⟩
  have hbW : Below w.heap.size w W := by rw [hW]; exact ((Below.refl _ _).alloc (Nat.le_refl _) _).alloc (by simp) _
  have hszW : W.heap.size = w.heap.size + 2 := by rw [hW]; simp
  have a0 : W.cell? ⟨w.heap.size, 0, none⟩ = some (.int .i64 a.lift) := by rw [hW]; rw [World.cell?_alloc_lt _ _ _ (by simp)]; simp
  have a1 : W.cell? ⟨w.heap.size, 1, none⟩ = some (.int .i64 a.crane) := by rw [hW]; rw [World.cell?_alloc_lt _ _ _ (by simp)]; simp
  have a2 : W.cell? ⟨w.heap.size, 2, none⟩ = some (.int .i64 a.start) := by rw [hW]; rw [World.cell?_alloc_lt _ _ _ (by simp)]; simp
  have b0 : W.cell? ⟨w.heap.size + 1, 0, none⟩ = some (.int .i64 b.lift) := by rw [hW]; simp
  have b1 : W.cell? ⟨w.heap.size + 1, 1, none⟩ = some (.int .i64 b.crane) := by rw [hW]; simp
  have b2 : W.cell? ⟨w.heap.size + 1, 2, none⟩ = some (.int .i64 b.start) := by rw [hW]; simp
  go_enter Tryd.func117, Tryd.ntmps117
  go_wp2
  rw [← hW]
  clear hW
  have hbD : True := trivial
  refine wp_region_still_tail 15 (by kernel_rfl) (by kernel_rfl) ?_
  simp only [List.take_succ_cons, List.take_zero, List.drop_succ_cons, List.drop_zero]
  repeat still_step
  still_call (cmpInt_still a.start b.start _)
  repeat still_step
  still_call (cmpInt_still a.crane b.crane _)
  repeat still_step
  still_call (cmpInt_still a.lift b.lift _)
  repeat still_step
  refine wpStill_nil ?_
  have hbD : Below w.heap.size w W.drew := hbW.drew
  have hsD : W.drew.heap.size = w.heap.size + 2 := hszW
  obtain ⟨W2, hW2⟩ : ∃ W2 : World, W2 = W.drew := ⟨_, rfl⟩
  have hW3 : ({ W with drawn := W.drawn + 1 } : World) = W2 := hW2.symm
  rw [← hW2] at hbD hsD
  rw [hW3]
  clear hW2 hW3
  have hor := orInts_any (some ⟨W2.heap.size, 0, none⟩) 3 3 [sgn a.start b.start, sgn a.crane b.crane, sgn a.lift b.lift] (W2.alloc (.cells #[.int .i64 (sgn a.start b.start), .int .i64 (sgn a.crane b.crane), .int .i64 (sgn a.lift b.lift)] 3)) W2.heap.size ((arr3 W2 _ _ _ _).more (by simp)) (by omega)
  clear a0 a1 a2 b0 b1 b2 hbW hszW hsD
  go_wp2_with (go_at_call 145; refine hor.mono ?_; rintro e w1 ⟨rfl, rfl⟩)
  go_ret
  exact ⟨by rw [HC.out]; rfl, hbD.alloc hbD.size _⟩
end Go.Proofs.YtkegncanmfmmmaaDoor
