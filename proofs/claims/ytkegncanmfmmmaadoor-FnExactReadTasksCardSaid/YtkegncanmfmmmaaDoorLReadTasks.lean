/- FnExactReadTasks: the walk: the law returns true for every input. -/
import Derived.Test.YtkegncanmfmmmaaDoorSpTasks
import Derived.Test.YtkegncanmfmmmaaDoorReadTasks
import Derived.Test.YtkegncanmfmmmaaDoorMTask
namespace Go.Proofs.YtkegncanmfmmmaaDoor.lawReadTasks
open Go.RowKit
set_option linter.unusedVariables false

theorem one {s : ByteArray} {w w' : World} {e : Ending} (h : RetTks s w e w') {xs : List Task} {v : Bool} (hk : (IsTasks s xs ∧ v = true) ∨ ((¬ ∃ xs, IsTasks s xs) ∧ xs = [] ∧ v = false)) :
    ∃ A cap, e = .returned (.tuple #[.slice A xs.length cap, .bool v]) ∧ Own Task.cs 4 w' w.heap.size w'.heap.size 102 A xs.length xs ∧ Below w.heap.size w w' := by
  rcases hk with ⟨hk, rfl⟩ | ⟨hk, rfl, rfl⟩
  · rcases h.2 with ⟨ys, A, cap, hy, e1, ho⟩ | ⟨hn, _⟩
    · obtain rfl := hk.unique hy
      exact ⟨A, cap, e1, ho, h.1⟩
    · exact absurd ⟨xs, hk⟩ hn
  · rcases h.2 with ⟨ys, A, cap, hy, e1, ho⟩ | ⟨_, e1⟩
    · exact absurd ⟨ys, hy⟩ hk
    · exact ⟨none, 0, e1, Own.nil none, h.1⟩
set_option maxRecDepth 100000 in
set_option maxHeartbeats 3200000 in
theorem walk (s : ByteArray) (w : World) (hsm : s.size ≤ 9223372036854775807) (ht : TabW w) (hE : ErrW w) (hM : MaxW w) : Calls Tryd.prog 6 #[.string s] w fun e w' => e = .returned (.bool true) ∧ Below w.heap.size w w' := by
  by_cases hs : s.size ≤ 1048576
  · have HT := Lib.hid ht
    have HE := Lib.hid hE
    have HM := Lib.hid hM
    clear ht hE hM
    have hex : ∃ (xs : List Task) (v : Bool), ((IsTasks s xs ∧ v = true) ∨ ((¬ ∃ xs, IsTasks s xs) ∧ xs = [] ∧ v = false)) ∧ xs.length ≤ 4194304 := by
      by_cases h : ∃ xs, IsTasks s xs
      · obtain ⟨xs, hx⟩ := h
        exact ⟨xs, true, .inl ⟨hx, rfl⟩, by have := tasks_len hx.1; omega⟩
      · exact ⟨[], false, .inr ⟨h, rfl, rfl⟩, by simp⟩
    obtain ⟨xs, v, hk, hn⟩ := hex
    have HK := Lib.hid hk
    clear hk
    have hsz : (s.size : Int) ≤ 1048576 := by omega
    go_enter Tryd.func6, Tryd.ntmps6
    go_wp2_with fail
    refine (specReadTasks_any s hs _).mono ?_
    intro e w1 hr1
    obtain ⟨A1, c1, rfl, u1, hb1⟩ := one hr1 HK.out
    clear hr1
    have B1 := hb1
    have S1 := hb1.size
    go_wp2_with fail
    refine (readTasks_any s hs _ (HT.out.bel B1) (HE.out.bel B1) (HM.out.bel B1)).mono ?_
    intro e w2 hr2
    obtain ⟨A2, c2, rfl, g2, hb2⟩ := one hr2 HK.out
    clear hr2
    have B2 := bel2 B1 hb2
    have S2 := hb2.size
    have u1_2 := u1.bel hb2
    clear u1
    go_wp2_with fail
    refine (eqTaskS_same _ _ _ _ _ xs _ _ _ ((g2.arr Task.cs_len).more (by omega)) ((u1_2.arr Task.cs_len).more (by omega)) (by omega)).mono ?_
    rintro e w3 ⟨rfl, hb3⟩
    have B3 := bel2 B2 hb3
    have S3 := hb3.size
    have u1_3 := u1_2.bel hb3
    clear u1_2
    have g2_3 := g2.bel hb3
    clear g2
    go_wp2_with fail
    refine (markTaskS_any _ _ _ _ _ _ _ _ g2_3 (by omega) (by omega) (by omega)).mono ?_
    rintro e w4 ⟨rfl, hw4, o4⟩
    have B4 := Below.within B3 hw4 (by omega) (by omega)
    have S4 := hw4.size
    have u1_4 := u1_3.within hw4 (by omega)
    clear u1_3
    clear g2_3
    go_wp2_with fail
    refine (heldTaskS_same _ _ _ _ _ _ ((o4.arr Task.cs_len).more (by omega)) (by omega) (by omega) (by omega)).mono ?_
    rintro e w5 ⟨rfl, hb5⟩
    have B5 := bel2 B4 hb5
    have S5 := hb5.size
    have u1_5 := u1_4.bel hb5
    clear u1_4
    have g2_5 := o4.bel hb5
    clear o4
    go_wp2_with fail
    refine (readTasks_any s hs _ (HT.out.bel B5) (HE.out.bel B5) (HM.out.bel B5)).mono ?_
    intro e w6 hr6
    obtain ⟨A6, c6, rfl, v6, hb6⟩ := one hr6 HK.out
    clear hr6
    have B6 := bel2 B5 hb6
    have S6 := hb6.size
    have u1_6 := u1_5.bel hb6
    clear u1_5
    have g2_6 := g2_5.bel hb6
    clear g2_5
    go_wp2_with fail
    refine (eqTaskS_same _ _ _ _ _ xs _ _ _ ((v6.arr Task.cs_len).more (by omega)) ((u1_6.arr Task.cs_len).more (by omega)) (by omega)).mono ?_
    rintro e w7 ⟨rfl, hb7⟩
    have B7 := bel2 B6 hb7
    have S7 := hb7.size
    clear u1_6 v6
    have g2_7 := g2_6.bel hb7
    clear g2_6
    go_wp2_with fail
    refine (heldTaskS_same _ _ _ _ _ _ ((g2_7.arr Task.cs_len).more (by omega)) (by omega) (by omega) (by omega)).mono ?_
    rintro e w8 ⟨rfl, hb8⟩
    have B8 := bel2 B7 hb8
    go_wp2
    go_ret
    exact ⟨rfl, B8⟩
  · have hsz : (1048576 : Int) < (s.size : Int) := by omega
    go_enter Tryd.func6, Tryd.ntmps6
    go_wp2
    go_ret
    exact ⟨rfl, Below.refl _ _⟩
end Go.Proofs.YtkegncanmfmmmaaDoor.lawReadTasks
