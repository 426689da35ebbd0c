/- Made by merge.py of XLifts, XLifts2, XLifts3. -/
import Derived.Test.YtkegncanmfmmmaaDoorLiftLaw
import Derived.Test.YtkegncanmfmmmaaDoorQuiet
import Derived.Test.YtkegncanmfmmmaaDoorValidPersons
import Derived.Lib.QuietBelow
import Derived.BigQuiet
import Derived.Test.YtkegncanmfmmmaaDoorFind
/- XLifts: ValidLifts of the program, l08Ok of the reference: both say liftsOk. -/
namespace Go.Proofs.YtkegncanmfmmmaaDoor
open Go.RowKit Go.Sort
set_option linter.unusedVariables false

theorem same_bel {P : Program} {f : FuncId} {args : Array Value} {w : World} {v : Value} (h : Calls P f args w fun e w' => e = .returned v ∧ w = w') : Calls P f args w fun e w' => e = .returned v ∧ Below w.heap.size w w' :=
  h.mono fun _ _ ⟨he, hw⟩ => ⟨he, hw ▸ Below.refl _ _⟩

theorem validPlace_any (x y : Int) (w : World) :
    Calls Tryd.prog 34 #[.agg #[.int .i64 x, .int .i64 y]] w fun e w' => e = .returned (.bool (plcB x y)) ∧ Below w.heap.size w w' := by
  cases h1 : inB x (-10000) 10000 <;> cases h2 : inB y (-10000) 10000
  all_goals
    have H : Hid (plcB x y = (inB x (-10000) 10000 && inB y (-10000) 10000)) := rfl
    rw [h1, h2] at H
    go_enter Tryd.func34, Tryd.ntmps34
    go_wp2_with (go_at_call 77; refine (within_any _ _ _ _).mono ?_; rintro e w1 ⟨rfl, rfl⟩)
    go_ret
    exact ⟨by rw [H.out]; rfl, (Below.refl _ _).alloc (Nat.le_refl _) _⟩
theorem l02Ok_any (x y : Int) (w : World) :
    Calls Tryd.prog 37 #[.agg #[.int .i64 x, .int .i64 y]] w fun e w' => e = .returned (.bool (plcB x y)) ∧ Below w.heap.size w w' := by
  cases h1 : inB x (-10000) 10000 <;> cases h2 : inB y (-10000) 10000
  all_goals
    have H : Hid (plcB x y = (inB x (-10000) 10000 && inB y (-10000) 10000)) := rfl
    rw [h1, h2] at H
    go_enter Tryd.func37, Tryd.ntmps37
    go_wp2_with (go_at_call 82; refine (l00In_any _ _ _ _).mono ?_; rintro e w1 ⟨rfl, rfl⟩)
    go_ret
    exact ⟨by rw [H.out]; rfl, (Below.refl _ _).alloc (Nat.le_refl _) _⟩

set_option maxRecDepth 100000 in
set_option maxHeartbeats 1600000 in
theorem plain_any (p : Lift) (w : World) (hp : p.v.name.size ≤ 9223372036854775807) :
    Calls Tryd.prog 86 #[.agg #[.string p.v.name, .int .i64 p.v.weight, .int .i64 p.v.fx, .int .i64 p.v.fy, .int .i64 p.v.tx, .int .i64 p.v.ty, .int .i64 p.v.height, .int .i64 p.v.deadline, .slice p.r.a p.r.n p.r.cap]] w fun e w' => e = .returned (.bool (plainB p.v)) ∧ Below w.heap.size w w' := by
  obtain ⟨W, hW⟩ : ∃ W : World, W = w.alloc (.cells #[.string p.v.name, .int .i64 p.v.weight, .int .i64 p.v.fx, .int .i64 p.v.fy, .int .i64 p.v.tx, .int .i64 p.v.ty, .int .i64 p.v.height, .int .i64 p.v.deadline, .slice p.r.a p.r.n p.r.cap] 41) := ⟨_, rfl⟩
  have B0 : Below w.heap.size w W := by rw [hW]; exact (Below.refl _ _).alloc (Nat.le_refl _) _
  have P0 : Blk W w.heap.size 41 #[.string p.v.name, .int .i64 p.v.weight, .int .i64 p.v.fx, .int .i64 p.v.fy, .int .i64 p.v.tx, .int .i64 p.v.ty, .int .i64 p.v.height, .int .i64 p.v.deadline, .slice p.r.a p.r.n p.r.cap] := by rw [hW]; exact Blk.new _ _ _
  have s0 := P0.lt
  rcases plainB_cases p.v with ⟨a1, ao⟩ | ⟨a1, a2, ao⟩ | ⟨a1, a2, a3, ao⟩ | ⟨a1, a2, a3, a4, ao⟩ | ⟨a1, a2, a3, a4, a5, ao⟩ | ⟨a1, a2, a3, a4, a5, a6, ao⟩ | ⟨a1, a2, a3, a4, a5, a6, ao⟩
  · have HO := Lib.hid ao
    clear ao
    go_enter Tryd.func86, Tryd.ntmps86
    go_wp2_with fail
    rw [← hW]
    clear hW
    obtain ⟨d0, d1, d2, d3, d4, d5, d6, d7, d8⟩ := Lift.blk P0
    go_wp2_with fail
    refine (isName_any _ _ hp).mono ?_; rintro _ _ ⟨rfl, rfl⟩
    go_wp2
    go_ret
    exact ⟨by rw [HO.out]; rfl, B0⟩
  · have HO := Lib.hid ao
    clear ao
    go_enter Tryd.func86, Tryd.ntmps86
    go_wp2_with fail
    rw [← hW]
    clear hW
    obtain ⟨d0, d1, d2, d3, d4, d5, d6, d7, d8⟩ := Lift.blk P0
    go_wp2_with fail
    refine (isName_any _ _ hp).mono ?_; rintro _ _ ⟨rfl, rfl⟩
    go_wp2_with fail
    refine (within_any _ _ _ _).mono ?_; rintro _ _ ⟨rfl, rfl⟩
    go_wp2
    go_ret
    exact ⟨by rw [HO.out]; rfl, B0⟩
  · have HO := Lib.hid ao
    clear ao
    go_enter Tryd.func86, Tryd.ntmps86
    go_wp2_with fail
    rw [← hW]
    clear hW
    obtain ⟨d0, d1, d2, d3, d4, d5, d6, d7, d8⟩ := Lift.blk P0
    go_wp2_with fail
    refine (isName_any _ _ hp).mono ?_; rintro _ _ ⟨rfl, rfl⟩
    go_wp2_with fail
    refine (within_any _ _ _ _).mono ?_; rintro _ _ ⟨rfl, rfl⟩
    go_wp2_with fail
    refine (validPlace_any _ _ _).mono ?_; rintro _ x1 ⟨rfl, h1⟩
    have B1 := B0.trans (h1.mono (by omega))
    have P1 := P0.bel h1
    have s1 := P1.lt
    clear d0 d1 d2 d3 d4 d5 d6 d7 d8 h1
    obtain ⟨d0, d1, d2, d3, d4, d5, d6, d7, d8⟩ := Lift.blk P1
    go_wp2
    go_ret
    exact ⟨by rw [HO.out]; rfl, B1⟩
  · have HO := Lib.hid ao
    clear ao
    go_enter Tryd.func86, Tryd.ntmps86
    go_wp2_with fail
    rw [← hW]
    clear hW
    obtain ⟨d0, d1, d2, d3, d4, d5, d6, d7, d8⟩ := Lift.blk P0
    go_wp2_with fail
    refine (isName_any _ _ hp).mono ?_; rintro _ _ ⟨rfl, rfl⟩
    go_wp2_with fail
    refine (within_any _ _ _ _).mono ?_; rintro _ _ ⟨rfl, rfl⟩
    go_wp2_with fail
    refine (validPlace_any _ _ _).mono ?_; rintro _ x1 ⟨rfl, h1⟩
    have B1 := B0.trans (h1.mono (by omega))
    have P1 := P0.bel h1
    have s1 := P1.lt
    clear d0 d1 d2 d3 d4 d5 d6 d7 d8 h1
    obtain ⟨d0, d1, d2, d3, d4, d5, d6, d7, d8⟩ := Lift.blk P1
    go_wp2_with fail
    refine (validPlace_any _ _ _).mono ?_; rintro _ x2 ⟨rfl, h2⟩
    have B2 := B1.trans (h2.mono (by omega))
    have P2 := P1.bel h2
    have s2 := P2.lt
    clear d0 d1 d2 d3 d4 d5 d6 d7 d8 h2
    obtain ⟨d0, d1, d2, d3, d4, d5, d6, d7, d8⟩ := Lift.blk P2
    go_wp2
    go_ret
    exact ⟨by rw [HO.out]; rfl, B2⟩
  · have HO := Lib.hid ao
    clear ao
    go_enter Tryd.func86, Tryd.ntmps86
    go_wp2_with fail
    rw [← hW]
    clear hW
    obtain ⟨d0, d1, d2, d3, d4, d5, d6, d7, d8⟩ := Lift.blk P0
    go_wp2_with fail
    refine (isName_any _ _ hp).mono ?_; rintro _ _ ⟨rfl, rfl⟩
    go_wp2_with fail
    refine (within_any _ _ _ _).mono ?_; rintro _ _ ⟨rfl, rfl⟩
    go_wp2_with fail
    refine (validPlace_any _ _ _).mono ?_; rintro _ x1 ⟨rfl, h1⟩
    have B1 := B0.trans (h1.mono (by omega))
    have P1 := P0.bel h1
    have s1 := P1.lt
    clear d0 d1 d2 d3 d4 d5 d6 d7 d8 h1
    obtain ⟨d0, d1, d2, d3, d4, d5, d6, d7, d8⟩ := Lift.blk P1
    go_wp2_with fail
    refine (validPlace_any _ _ _).mono ?_; rintro _ x2 ⟨rfl, h2⟩
    have B2 := B1.trans (h2.mono (by omega))
    have P2 := P1.bel h2
    have s2 := P2.lt
    clear d0 d1 d2 d3 d4 d5 d6 d7 d8 h2
    obtain ⟨d0, d1, d2, d3, d4, d5, d6, d7, d8⟩ := Lift.blk P2
    go_wp2_with fail
    refine (within_any _ _ _ _).mono ?_; rintro _ _ ⟨rfl, rfl⟩
    go_wp2
    go_ret
    exact ⟨by rw [HO.out]; rfl, B2⟩
  · have HO := Lib.hid ao
    clear ao
    go_enter Tryd.func86, Tryd.ntmps86
    go_wp2_with fail
    rw [← hW]
    clear hW
    obtain ⟨d0, d1, d2, d3, d4, d5, d6, d7, d8⟩ := Lift.blk P0
    go_wp2_with fail
    refine (isName_any _ _ hp).mono ?_; rintro _ _ ⟨rfl, rfl⟩
    go_wp2_with fail
    refine (within_any _ _ _ _).mono ?_; rintro _ _ ⟨rfl, rfl⟩
    go_wp2_with fail
    refine (validPlace_any _ _ _).mono ?_; rintro _ x1 ⟨rfl, h1⟩
    have B1 := B0.trans (h1.mono (by omega))
    have P1 := P0.bel h1
    have s1 := P1.lt
    clear d0 d1 d2 d3 d4 d5 d6 d7 d8 h1
    obtain ⟨d0, d1, d2, d3, d4, d5, d6, d7, d8⟩ := Lift.blk P1
    go_wp2_with fail
    refine (validPlace_any _ _ _).mono ?_; rintro _ x2 ⟨rfl, h2⟩
    have B2 := B1.trans (h2.mono (by omega))
    have P2 := P1.bel h2
    have s2 := P2.lt
    clear d0 d1 d2 d3 d4 d5 d6 d7 d8 h2
    obtain ⟨d0, d1, d2, d3, d4, d5, d6, d7, d8⟩ := Lift.blk P2
    go_wp2_with fail
    refine (within_any _ _ _ _).mono ?_; rintro _ _ ⟨rfl, rfl⟩
    go_wp2_with fail
    refine (within_any _ _ _ _).mono ?_; rintro _ _ ⟨rfl, rfl⟩
    go_wp2
    go_ret
    exact ⟨by rw [HO.out]; rfl, B2⟩
  · have HO := Lib.hid ao
    clear ao
    go_enter Tryd.func86, Tryd.ntmps86
    go_wp2_with fail
    rw [← hW]
    clear hW
    obtain ⟨d0, d1, d2, d3, d4, d5, d6, d7, d8⟩ := Lift.blk P0
    go_wp2_with fail
    refine (isName_any _ _ hp).mono ?_; rintro _ _ ⟨rfl, rfl⟩
    go_wp2_with fail
    refine (within_any _ _ _ _).mono ?_; rintro _ _ ⟨rfl, rfl⟩
    go_wp2_with fail
    refine (validPlace_any _ _ _).mono ?_; rintro _ x1 ⟨rfl, h1⟩
    have B1 := B0.trans (h1.mono (by omega))
    have P1 := P0.bel h1
    have s1 := P1.lt
    clear d0 d1 d2 d3 d4 d5 d6 d7 d8 h1
    obtain ⟨d0, d1, d2, d3, d4, d5, d6, d7, d8⟩ := Lift.blk P1
    go_wp2_with fail
    refine (validPlace_any _ _ _).mono ?_; rintro _ x2 ⟨rfl, h2⟩
    have B2 := B1.trans (h2.mono (by omega))
    have P2 := P1.bel h2
    have s2 := P2.lt
    clear d0 d1 d2 d3 d4 d5 d6 d7 d8 h2
    obtain ⟨d0, d1, d2, d3, d4, d5, d6, d7, d8⟩ := Lift.blk P2
    go_wp2_with fail
    refine (within_any _ _ _ _).mono ?_; rintro _ _ ⟨rfl, rfl⟩
    go_wp2_with fail
    refine (within_any _ _ _ _).mono ?_; rintro _ _ ⟨rfl, rfl⟩
    go_wp2
    go_ret
    exact ⟨by rw [HO.out]; rfl, B2⟩

theorem in_eq (n a b : Int) (w : World) {v : Bool} (h : inB n a b = v) : Calls Tryd.prog 82 #[.int .i64 n, .int .i64 a, .int .i64 b] w fun e w' => e = .returned (.bool v) ∧ w = w' := by subst h; exact l00In_any n a b w
def oneB (v : LiftV) (xs : List Int) (m : Int) : Bool := plainB v && risesB xs m
end Go.Proofs.YtkegncanmfmmmaaDoor
/- XLifts2: ValidLifts of the program, l08Ok of the reference: both say liftsOk. -/
namespace Go.Proofs.YtkegncanmfmmmaaDoor
open Go.RowKit Go.Sort
set_option linter.unusedVariables false

def nameIs (s : ByteArray) (v : LV) : Bool := decide (v.1.name = s)
theorem fresh_no (vs : List LV) (i : Nat) (s : ByteArray) : freshTo vs i s = noTo (nameIs s) vs i := by unfold freshTo noTo; congr 1; funext j; cases vs[j]? <;> rfl
theorem fresh_idx {vs : List LV} {i : Nat} {s : ByteArray} (hi : i ≤ vs.length) (h : freshTo vs i s = true) : fIdx (nameIs s) (vs.take i) = -1 := by
  refine fIdx_none (noTo_iff.2 fun j hj y hy => ?_)
  rw [List.length_take] at hj
  rw [List.getElem?_take, if_pos (by omega)] at hy
  exact noTo_iff.1 ((fresh_no vs i s).symm.trans h) j (by omega) y hy
theorem fresh_idx_no {vs : List LV} {i : Nat} {s : ByteArray} (hi : i ≤ vs.length) (h : freshTo vs i s = false) : 0 ≤ fIdx (nameIs s) (vs.take i) := by
  rcases fIdx_cases (nameIs s) (vs.take i) with ⟨_, h2, _⟩ | ⟨k, x, h2, _⟩
  · exfalso
    have : freshTo vs i s = true := by
      rw [fresh_no]
      refine noTo_iff.2 fun j hj y hy => ?_
      exact noTo_iff.1 h2 j (by rw [List.length_take]; omega) y (by rw [List.getElem?_take, if_pos hj]; exact hy)
    rw [this] at h; cases h
  · rw [h2]; omega

end Go.Proofs.YtkegncanmfmmmaaDoor
/- XLifts3: l08Ok at a slice of whatever capacity. -/
namespace Go.Proofs.YtkegncanmfmmmaaDoor
open Go.RowKit Go.Sort
set_option linter.unusedVariables false

end Go.Proofs.YtkegncanmfmmmaaDoor
