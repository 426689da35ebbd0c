/- Made by merge.py of XLifts, XLifts2, XLifts3. -/
import Derived.Test.YtnidnmbicnhflaaLiftLaw
import Derived.Test.YtnidnmbicnhflaaQuiet
import Derived.Test.YtnidnmbicnhflaaValidPersons
import Derived.Lib.QuietBelow
import Derived.BigQuiet
import Derived.Test.YtnidnmbicnhflaaFind
/- XLifts: ValidLifts of the program, l08Ok of the reference: both say liftsOk. -/
namespace Go.Proofs.Ytnidnmbicnhflaa
open Go.RowKit Go.Sort
set_option linter.unusedVariables false

theorem same_bel {P : Program} {f : FuncId} {args : Array Value} {w : World} {v : Value} (h : Calls P f args w fun e w' => e = .returned v ∧ w = w') : Calls P f args w fun e w' => e = .returned v ∧ Below w.heap.size w w' :=
  h.mono fun _ _ ⟨he, hw⟩ => ⟨he, hw ▸ Below.refl _ _⟩

theorem validPlace_any (x y : Int) (w : World) :
    Calls Try.prog 61 #[.agg #[.int .i64 x, .int .i64 y]] w fun e w' => e = .returned (.bool (plcB x y)) ∧ Below w.heap.size w w' := by
  cases h1 : inB x (-10000) 10000 <;> cases h2 : inB y (-10000) 10000
  all_goals
    have H : Hid (plcB x y = (inB x (-10000) 10000 && inB y (-10000) 10000)) := rfl
    rw [h1, h2] at H
    go_enter Try.func61, Try.ntmps61
    go_wp2_with (go_at_call 60; refine (within_any _ _ _ _).mono ?_; rintro e w1 ⟨rfl, rfl⟩)
    go_ret
    exact ⟨by rw [H.out]; rfl, (Below.refl _ _).alloc (Nat.le_refl _) _⟩
theorem l02Ok_any (x y : Int) (w : World) :
    Calls Try.prog 89 #[.agg #[.int .i64 x, .int .i64 y]] w fun e w' => e = .returned (.bool (plcB x y)) ∧ Below w.heap.size w w' := by
  cases h1 : inB x (-10000) 10000 <;> cases h2 : inB y (-10000) 10000
  all_goals
    have H : Hid (plcB x y = (inB x (-10000) 10000 && inB y (-10000) 10000)) := rfl
    rw [h1, h2] at H
    go_enter Try.func89, Try.ntmps89
    go_wp2_with (go_at_call 67; refine (l00In_any _ _ _ _).mono ?_; rintro e w1 ⟨rfl, rfl⟩)
    go_ret
    exact ⟨by rw [H.out]; rfl, (Below.refl _ _).alloc (Nat.le_refl _) _⟩

set_option maxRecDepth 100000 in
set_option maxHeartbeats 1600000 in
theorem plain_any (p : Lift) (w : World) (hp : p.v.name.size ≤ 9223372036854775807) :
    Calls Try.prog 30 #[.agg #[.string p.v.name, .int .i64 p.v.weight, .int .i64 p.v.fx, .int .i64 p.v.fy, .int .i64 p.v.tx, .int .i64 p.v.ty, .int .i64 p.v.height, .int .i64 p.v.deadline, .slice p.r.a p.r.n p.r.cap]] w fun e w' => e = .returned (.bool (plainB p.v)) ∧ Below w.heap.size w w' := by
  obtain ⟨W, hW⟩ : ∃ W : World, W = w.alloc (.cells #[.string p.v.name, .int .i64 p.v.weight, .int .i64 p.v.fx, .int .i64 p.v.fy, .int .i64 p.v.tx, .int .i64 p.v.ty, .int .i64 p.v.height, .int .i64 p.v.deadline, .slice p.r.a p.r.n p.r.cap] 40) := ⟨_, rfl⟩
  have B0 : Below w.heap.size w W := by rw [hW]; exact (Below.refl _ _).alloc (Nat.le_refl _) _
  have P0 : Blk W w.heap.size 40 #[.string p.v.name, .int .i64 p.v.weight, .int .i64 p.v.fx, .int .i64 p.v.fy, .int .i64 p.v.tx, .int .i64 p.v.ty, .int .i64 p.v.height, .int .i64 p.v.deadline, .slice p.r.a p.r.n p.r.cap] := by rw [hW]; exact Blk.new _ _ _
  have s0 := P0.lt
  rcases plainB_cases p.v with ⟨a1, ao⟩ | ⟨a1, a2, ao⟩ | ⟨a1, a2, a3, ao⟩ | ⟨a1, a2, a3, a4, ao⟩ | ⟨a1, a2, a3, a4, a5, ao⟩ | ⟨a1, a2, a3, a4, a5, a6, ao⟩ | ⟨a1, a2, a3, a4, a5, a6, ao⟩
  · have HO := Lib.hid ao
    clear ao
    go_enter Try.func30, Try.ntmps30
    go_wp2_with fail
    rw [← hW]
    clear hW
    obtain ⟨d0, d1, d2, d3, d4, d5, d6, d7, d8⟩ := Lift.blk P0
    go_wp2_with fail
    refine (isName_any _ _ hp).mono ?_; rintro _ _ ⟨rfl, rfl⟩
    go_wp2
    go_ret
    exact ⟨by rw [HO.out]; rfl, B0⟩
  · have HO := Lib.hid ao
    clear ao
    go_enter Try.func30, Try.ntmps30
    go_wp2_with fail
    rw [← hW]
    clear hW
    obtain ⟨d0, d1, d2, d3, d4, d5, d6, d7, d8⟩ := Lift.blk P0
    go_wp2_with fail
    refine (isName_any _ _ hp).mono ?_; rintro _ _ ⟨rfl, rfl⟩
    go_wp2_with fail
    refine (within_any _ _ _ _).mono ?_; rintro _ _ ⟨rfl, rfl⟩
    go_wp2
    go_ret
    exact ⟨by rw [HO.out]; rfl, B0⟩
  · have HO := Lib.hid ao
    clear ao
    go_enter Try.func30, Try.ntmps30
    go_wp2_with fail
    rw [← hW]
    clear hW
    obtain ⟨d0, d1, d2, d3, d4, d5, d6, d7, d8⟩ := Lift.blk P0
    go_wp2_with fail
    refine (isName_any _ _ hp).mono ?_; rintro _ _ ⟨rfl, rfl⟩
    go_wp2_with fail
    refine (within_any _ _ _ _).mono ?_; rintro _ _ ⟨rfl, rfl⟩
    go_wp2_with fail
    refine (validPlace_any _ _ _).mono ?_; rintro _ x1 ⟨rfl, h1⟩
    have B1 := B0.trans (h1.mono (by omega))
    have P1 := P0.bel h1
    have s1 := P1.lt
    clear d0 d1 d2 d3 d4 d5 d6 d7 d8 h1
    obtain ⟨d0, d1, d2, d3, d4, d5, d6, d7, d8⟩ := Lift.blk P1
    go_wp2
    go_ret
    exact ⟨by rw [HO.out]; rfl, B1⟩
  · have HO := Lib.hid ao
    clear ao
    go_enter Try.func30, Try.ntmps30
    go_wp2_with fail
    rw [← hW]
    clear hW
    obtain ⟨d0, d1, d2, d3, d4, d5, d6, d7, d8⟩ := Lift.blk P0
    go_wp2_with fail
    refine (isName_any _ _ hp).mono ?_; rintro _ _ ⟨rfl, rfl⟩
    go_wp2_with fail
    refine (within_any _ _ _ _).mono ?_; rintro _ _ ⟨rfl, rfl⟩
    go_wp2_with fail
    refine (validPlace_any _ _ _).mono ?_; rintro _ x1 ⟨rfl, h1⟩
    have B1 := B0.trans (h1.mono (by omega))
    have P1 := P0.bel h1
    have s1 := P1.lt
    clear d0 d1 d2 d3 d4 d5 d6 d7 d8 h1
    obtain ⟨d0, d1, d2, d3, d4, d5, d6, d7, d8⟩ := Lift.blk P1
    go_wp2_with fail
    refine (validPlace_any _ _ _).mono ?_; rintro _ x2 ⟨rfl, h2⟩
    have B2 := B1.trans (h2.mono (by omega))
    have P2 := P1.bel h2
    have s2 := P2.lt
    clear d0 d1 d2 d3 d4 d5 d6 d7 d8 h2
    obtain ⟨d0, d1, d2, d3, d4, d5, d6, d7, d8⟩ := Lift.blk P2
    go_wp2
    go_ret
    exact ⟨by rw [HO.out]; rfl, B2⟩
  · have HO := Lib.hid ao
    clear ao
    go_enter Try.func30, Try.ntmps30
    go_wp2_with fail
    rw [← hW]
    clear hW
    obtain ⟨d0, d1, d2, d3, d4, d5, d6, d7, d8⟩ := Lift.blk P0
    go_wp2_with fail
    refine (isName_any _ _ hp).mono ?_; rintro _ _ ⟨rfl, rfl⟩
    go_wp2_with fail
    refine (within_any _ _ _ _).mono ?_; rintro _ _ ⟨rfl, rfl⟩
    go_wp2_with fail
    refine (validPlace_any _ _ _).mono ?_; rintro _ x1 ⟨rfl, h1⟩
    have B1 := B0.trans (h1.mono (by omega))
    have P1 := P0.bel h1
    have s1 := P1.lt
    clear d0 d1 d2 d3 d4 d5 d6 d7 d8 h1
    obtain ⟨d0, d1, d2, d3, d4, d5, d6, d7, d8⟩ := Lift.blk P1
    go_wp2_with fail
    refine (validPlace_any _ _ _).mono ?_; rintro _ x2 ⟨rfl, h2⟩
    have B2 := B1.trans (h2.mono (by omega))
    have P2 := P1.bel h2
    have s2 := P2.lt
    clear d0 d1 d2 d3 d4 d5 d6 d7 d8 h2
    obtain ⟨d0, d1, d2, d3, d4, d5, d6, d7, d8⟩ := Lift.blk P2
    go_wp2_with fail
    refine (within_any _ _ _ _).mono ?_; rintro _ _ ⟨rfl, rfl⟩
    go_wp2
    go_ret
    exact ⟨by rw [HO.out]; rfl, B2⟩
  · have HO := Lib.hid ao
    clear ao
    go_enter Try.func30, Try.ntmps30
    go_wp2_with fail
    rw [← hW]
    clear hW
    obtain ⟨d0, d1, d2, d3, d4, d5, d6, d7, d8⟩ := Lift.blk P0
    go_wp2_with fail
    refine (isName_any _ _ hp).mono ?_; rintro _ _ ⟨rfl, rfl⟩
    go_wp2_with fail
    refine (within_any _ _ _ _).mono ?_; rintro _ _ ⟨rfl, rfl⟩
    go_wp2_with fail
    refine (validPlace_any _ _ _).mono ?_; rintro _ x1 ⟨rfl, h1⟩
    have B1 := B0.trans (h1.mono (by omega))
    have P1 := P0.bel h1
    have s1 := P1.lt
    clear d0 d1 d2 d3 d4 d5 d6 d7 d8 h1
    obtain ⟨d0, d1, d2, d3, d4, d5, d6, d7, d8⟩ := Lift.blk P1
    go_wp2_with fail
    refine (validPlace_any _ _ _).mono ?_; rintro _ x2 ⟨rfl, h2⟩
    have B2 := B1.trans (h2.mono (by omega))
    have P2 := P1.bel h2
    have s2 := P2.lt
    clear d0 d1 d2 d3 d4 d5 d6 d7 d8 h2
    obtain ⟨d0, d1, d2, d3, d4, d5, d6, d7, d8⟩ := Lift.blk P2
    go_wp2_with fail
    refine (within_any _ _ _ _).mono ?_; rintro _ _ ⟨rfl, rfl⟩
    go_wp2_with fail
    refine (within_any _ _ _ _).mono ?_; rintro _ _ ⟨rfl, rfl⟩
    go_wp2
    go_ret
    exact ⟨by rw [HO.out]; rfl, B2⟩
  · have HO := Lib.hid ao
    clear ao
    go_enter Try.func30, Try.ntmps30
    go_wp2_with fail
    rw [← hW]
    clear hW
    obtain ⟨d0, d1, d2, d3, d4, d5, d6, d7, d8⟩ := Lift.blk P0
    go_wp2_with fail
    refine (isName_any _ _ hp).mono ?_; rintro _ _ ⟨rfl, rfl⟩
    go_wp2_with fail
    refine (within_any _ _ _ _).mono ?_; rintro _ _ ⟨rfl, rfl⟩
    go_wp2_with fail
    refine (validPlace_any _ _ _).mono ?_; rintro _ x1 ⟨rfl, h1⟩
    have B1 := B0.trans (h1.mono (by omega))
    have P1 := P0.bel h1
    have s1 := P1.lt
    clear d0 d1 d2 d3 d4 d5 d6 d7 d8 h1
    obtain ⟨d0, d1, d2, d3, d4, d5, d6, d7, d8⟩ := Lift.blk P1
    go_wp2_with fail
    refine (validPlace_any _ _ _).mono ?_; rintro _ x2 ⟨rfl, h2⟩
    have B2 := B1.trans (h2.mono (by omega))
    have P2 := P1.bel h2
    have s2 := P2.lt
    clear d0 d1 d2 d3 d4 d5 d6 d7 d8 h2
    obtain ⟨d0, d1, d2, d3, d4, d5, d6, d7, d8⟩ := Lift.blk P2
    go_wp2_with fail
    refine (within_any _ _ _ _).mono ?_; rintro _ _ ⟨rfl, rfl⟩
    go_wp2_with fail
    refine (within_any _ _ _ _).mono ?_; rintro _ _ ⟨rfl, rfl⟩
    go_wp2
    go_ret
    exact ⟨by rw [HO.out]; rfl, B2⟩

theorem in_eq (n a b : Int) (w : World) {v : Bool} (h : inB n a b = v) : Calls Try.prog 67 #[.int .i64 n, .int .i64 a, .int .i64 b] w fun e w' => e = .returned (.bool v) ∧ w = w' := by subst h; exact l00In_any n a b w
set_option maxRecDepth 100000 in
set_option maxHeartbeats 800000 in
theorem l08Rises_any (A : Option Addr) (n c : Nat) (xs : List Int) (m : Int) (w : World) (lo : Nat) (h : Arr ic 1 w lo w.heap.size A n xs) (hn : n ≤ 9223372036854775807) (hm0 : 0 ≤ m) (hm1 : m ≤ 1048576) :
    Calls Try.prog 105 #[.slice A n c, .int .i64 m] w (Quiet (.bool (risesB xs m)) w) := by
  have EM : Hid (IntKind.i64.wrap (m - 1) = m - 1) := IntWalk.i64_in _ ⟨by omega, by omega⟩
  have HL := Lib.hid h.1
  go_enter Try.func105, Try.ntmps105
  go_wp2
  go_loopw [5] (fun i wr => ∃ k : Nat, k ≤ n ∧ i = .int .i64 k ∧ allTo (riseAt xs m) k = true ∧ ∃ q, wr = w.drewN q) (fun i _ => n - (intOf i).toNat)
  case atStart => exact ⟨0, Nat.zero_le _, rfl, rfl, 0, rfl⟩
  case round =>
    obtain ⟨k, hk, rfl, hall, N, rfl⟩ := hrel
    have HA := Lib.hid hall
    clear hall
    by_cases hlt : k < n
    · obtain ⟨b, off, x, rfl, hx, _, hbl, c0⟩ := Ints.at h hlt
      have HX := Lib.hid hx
      have hk00 : (0 : Int) ≤ (k : Int) := by omega
      have hk1 : (k : Int) < (n : Int) := by omega
      clear hx
      cases hq : inB x 0 (m - 1)
      · have HQ := Lib.hid hq
        have em := EM.out
        go_wp2
        go_quiet ((go_at_call 67; exact quiet_add_left (in_eq _ _ _ _ hq)))
        go_wp2
        go_ret
        exact ⟨by rw [risesB_bad HX.out (by have := inB_false.1 HQ.out; omega)]; rfl, by first | exact ⟨_, rfl⟩ | exact ⟨_, World.drewN_drewN _ _ _⟩⟩
      · have HQ := Lib.hid (inB_true.1 hq)
        rcases Nat.eq_zero_or_pos k with rfl | hk0
        · simp only [Nat.add_zero] at c0
          have em := EM.out
          go_wp2
          go_quiet ((go_at_call 67; exact quiet_add_left (in_eq _ _ _ _ hq)))
          clear em hq
          go_wp2
          go_roundw
          case rel => exact ⟨1, by omega, by go_num, allTo_step HA.out (riseAt_good HX.out HQ.out.1 (by have := HQ.out; omega) (by have := HQ.out; simp [prv]; omega)), by first | exact ⟨_, rfl⟩ | exact ⟨_, World.drewN_drewN _ _ _⟩⟩
          case measure => simp [intOf]; omega
        · obtain ⟨j, rfl⟩ : ∃ j, k = j + 1 := ⟨k - 1, by omega⟩
          obtain ⟨b4, off4, y, e4, hx4, _, _, d0⟩ := Ints.at h (show j < n by omega)
          cases e4
          have HX4 := Lib.hid hx4
          have hm0 : (0 : Int) ≤ (j : Int) := by omega
          have hm1 : (j : Int) < (n : Int) := by omega
          have ew : IntKind.i64.wrap (j : Int) = (j : Int) := IntWalk.i64_in _ ⟨by omega, by omega⟩
          clear hx4
          have em := EM.out
          by_cases hle : x ≤ y
          · go_wp2
            go_quiet ((go_at_call 67; exact quiet_add_left (in_eq _ _ _ _ hq)))
            go_wp2
            go_ret
            exact ⟨by rw [risesB_bad HX.out (by rw [prv_succ HX4.out]; omega)]; rfl, by first | exact ⟨_, rfl⟩ | exact ⟨_, World.drewN_drewN _ _ _⟩⟩
          · have hle2 : y < x := by omega
            have HLE := Lib.hid hle2
            go_wp2
            go_quiet ((go_at_call 67; exact quiet_add_left (in_eq _ _ _ _ hq)))
            clear em hq ew
            go_wp2
            go_roundw
            case rel => exact ⟨j + 1 + 1, by omega, by go_num, allTo_step HA.out (riseAt_good HX.out HQ.out.1 (by have := HQ.out; omega) (by rw [prv_succ HX4.out]; exact HLE.out)), by first | exact ⟨_, rfl⟩ | exact ⟨_, World.drewN_drewN _ _ _⟩⟩
            case measure => simp [intOf]; omega
    · obtain rfl : k = n := by omega
      have H : Hid (risesB xs m = true) := by show _ = _; unfold risesB; rw [HL.out]; exact HA.out
      go_wp2
      go_ret
      exact ⟨by rw [H.out]; rfl, by first | exact ⟨_, rfl⟩ | exact ⟨_, World.drewN_drewN _ _ _⟩⟩

def oneB (v : LiftV) (xs : List Int) (m : Int) : Bool := plainB v && risesB xs m
set_option maxRecDepth 100000 in
set_option maxHeartbeats 1600000 in
theorem l08One_any (b off : Nat) (p : Lift) (m : Int) (w : World) (lo : Nat) (hp : p.v.name.size ≤ 9223372036854775807) (hr : Arr ic 1 w lo w.heap.size p.r.a p.r.n p.r.xs) (hn : p.r.n ≤ 9223372036854775807) (hm0 : 0 ≤ m) (hm1 : m ≤ 1048576) (hbl : b < w.heap.size)
    (c0 : w.cell? ⟨b, off, none⟩ = some (.string p.v.name)) (c1 : w.cell? ⟨b, off + 1, none⟩ = some (.int .i64 p.v.weight)) (c2 : w.cell? ⟨b, off + 2, none⟩ = some (.int .i64 p.v.fx)) (c3 : w.cell? ⟨b, off + 3, none⟩ = some (.int .i64 p.v.fy)) (c4 : w.cell? ⟨b, off + 4, none⟩ = some (.int .i64 p.v.tx)) (c5 : w.cell? ⟨b, off + 5, none⟩ = some (.int .i64 p.v.ty)) (c6 : w.cell? ⟨b, off + 6, none⟩ = some (.int .i64 p.v.height)) (c7 : w.cell? ⟨b, off + 7, none⟩ = some (.int .i64 p.v.deadline)) (c8 : w.cell? ⟨b, off + 8, none⟩ = some (.slice p.r.a p.r.n p.r.cap)) :
    Calls Try.prog 91 #[.pointer (some ⟨b, off, none⟩), .int .i64 m] w fun e w' => e = .returned (.bool (oneB p.v p.r.xs m)) ∧ Below w.heap.size w w' := by
  have B0 : Below w.heap.size w w := Below.refl _ _
  rcases plainB_cases p.v with ⟨a1, ao⟩ | ⟨a1, a2, ao⟩ | ⟨a1, a2, a3, ao⟩ | ⟨a1, a2, a3, a4, ao⟩ | ⟨a1, a2, a3, a4, a5, ao⟩ | ⟨a1, a2, a3, a4, a5, a6, ao⟩ | ⟨a1, a2, a3, a4, a5, a6, ao⟩
  · have HO : Hid (oneB p.v p.r.xs m = false) := by show _ = _; unfold oneB; rw [ao]; simp
    clear ao
    go_enter Try.func91, Try.ntmps91
    go_wp2_with fail
    refine (specName_any _ _ hp).mono ?_; rintro _ _ ⟨rfl, rfl⟩
    go_wp2
    go_ret
    exact ⟨by rw [HO.out]; rfl, B0⟩
  · have HO : Hid (oneB p.v p.r.xs m = false) := by show _ = _; unfold oneB; rw [ao]; simp
    clear ao
    go_enter Try.func91, Try.ntmps91
    go_wp2_with fail
    refine (specName_any _ _ hp).mono ?_; rintro _ _ ⟨rfl, rfl⟩
    go_wp2_with fail
    refine (l00In_any _ _ _ _).mono ?_; rintro _ _ ⟨rfl, rfl⟩
    go_wp2
    go_ret
    exact ⟨by rw [HO.out]; rfl, B0⟩
  · have HO : Hid (oneB p.v p.r.xs m = false) := by show _ = _; unfold oneB; rw [ao]; simp
    clear ao
    go_enter Try.func91, Try.ntmps91
    go_wp2_with fail
    refine (specName_any _ _ hp).mono ?_; rintro _ _ ⟨rfl, rfl⟩
    go_wp2_with fail
    refine (l00In_any _ _ _ _).mono ?_; rintro _ _ ⟨rfl, rfl⟩
    go_wp2_with fail
    refine (l02Ok_any _ _ _).mono ?_; rintro _ x1 ⟨rfl, h1⟩
    have B1 := B0.trans (h1.mono (by have := B0.size; omega))
    replace c0 := (h1.cell (p := ⟨b, off, none⟩) (by have := B0.size; dsimp only; omega)).trans c0
    replace c1 := (h1.cell (p := ⟨b, off + 1, none⟩) (by have := B0.size; dsimp only; omega)).trans c1
    replace c2 := (h1.cell (p := ⟨b, off + 2, none⟩) (by have := B0.size; dsimp only; omega)).trans c2
    replace c3 := (h1.cell (p := ⟨b, off + 3, none⟩) (by have := B0.size; dsimp only; omega)).trans c3
    replace c4 := (h1.cell (p := ⟨b, off + 4, none⟩) (by have := B0.size; dsimp only; omega)).trans c4
    replace c5 := (h1.cell (p := ⟨b, off + 5, none⟩) (by have := B0.size; dsimp only; omega)).trans c5
    replace c6 := (h1.cell (p := ⟨b, off + 6, none⟩) (by have := B0.size; dsimp only; omega)).trans c6
    replace c7 := (h1.cell (p := ⟨b, off + 7, none⟩) (by have := B0.size; dsimp only; omega)).trans c7
    replace c8 := (h1.cell (p := ⟨b, off + 8, none⟩) (by have := B0.size; dsimp only; omega)).trans c8
    clear h1
    go_wp2
    go_ret
    exact ⟨by rw [HO.out]; rfl, B1⟩
  · have HO : Hid (oneB p.v p.r.xs m = false) := by show _ = _; unfold oneB; rw [ao]; simp
    clear ao
    go_enter Try.func91, Try.ntmps91
    go_wp2_with fail
    refine (specName_any _ _ hp).mono ?_; rintro _ _ ⟨rfl, rfl⟩
    go_wp2_with fail
    refine (l00In_any _ _ _ _).mono ?_; rintro _ _ ⟨rfl, rfl⟩
    go_wp2_with fail
    refine (l02Ok_any _ _ _).mono ?_; rintro _ x1 ⟨rfl, h1⟩
    have B1 := B0.trans (h1.mono (by have := B0.size; omega))
    replace c0 := (h1.cell (p := ⟨b, off, none⟩) (by have := B0.size; dsimp only; omega)).trans c0
    replace c1 := (h1.cell (p := ⟨b, off + 1, none⟩) (by have := B0.size; dsimp only; omega)).trans c1
    replace c2 := (h1.cell (p := ⟨b, off + 2, none⟩) (by have := B0.size; dsimp only; omega)).trans c2
    replace c3 := (h1.cell (p := ⟨b, off + 3, none⟩) (by have := B0.size; dsimp only; omega)).trans c3
    replace c4 := (h1.cell (p := ⟨b, off + 4, none⟩) (by have := B0.size; dsimp only; omega)).trans c4
    replace c5 := (h1.cell (p := ⟨b, off + 5, none⟩) (by have := B0.size; dsimp only; omega)).trans c5
    replace c6 := (h1.cell (p := ⟨b, off + 6, none⟩) (by have := B0.size; dsimp only; omega)).trans c6
    replace c7 := (h1.cell (p := ⟨b, off + 7, none⟩) (by have := B0.size; dsimp only; omega)).trans c7
    replace c8 := (h1.cell (p := ⟨b, off + 8, none⟩) (by have := B0.size; dsimp only; omega)).trans c8
    clear h1
    go_wp2_with fail
    refine (l02Ok_any _ _ _).mono ?_; rintro _ x2 ⟨rfl, h2⟩
    have B2 := B1.trans (h2.mono (by have := B1.size; omega))
    replace c0 := (h2.cell (p := ⟨b, off, none⟩) (by have := B1.size; dsimp only; omega)).trans c0
    replace c1 := (h2.cell (p := ⟨b, off + 1, none⟩) (by have := B1.size; dsimp only; omega)).trans c1
    replace c2 := (h2.cell (p := ⟨b, off + 2, none⟩) (by have := B1.size; dsimp only; omega)).trans c2
    replace c3 := (h2.cell (p := ⟨b, off + 3, none⟩) (by have := B1.size; dsimp only; omega)).trans c3
    replace c4 := (h2.cell (p := ⟨b, off + 4, none⟩) (by have := B1.size; dsimp only; omega)).trans c4
    replace c5 := (h2.cell (p := ⟨b, off + 5, none⟩) (by have := B1.size; dsimp only; omega)).trans c5
    replace c6 := (h2.cell (p := ⟨b, off + 6, none⟩) (by have := B1.size; dsimp only; omega)).trans c6
    replace c7 := (h2.cell (p := ⟨b, off + 7, none⟩) (by have := B1.size; dsimp only; omega)).trans c7
    replace c8 := (h2.cell (p := ⟨b, off + 8, none⟩) (by have := B1.size; dsimp only; omega)).trans c8
    clear h2
    go_wp2
    go_ret
    exact ⟨by rw [HO.out]; rfl, B2⟩
  · have HO : Hid (oneB p.v p.r.xs m = false) := by show _ = _; unfold oneB; rw [ao]; simp
    clear ao
    go_enter Try.func91, Try.ntmps91
    go_wp2_with fail
    refine (specName_any _ _ hp).mono ?_; rintro _ _ ⟨rfl, rfl⟩
    go_wp2_with fail
    refine (l00In_any _ _ _ _).mono ?_; rintro _ _ ⟨rfl, rfl⟩
    go_wp2_with fail
    refine (l02Ok_any _ _ _).mono ?_; rintro _ x1 ⟨rfl, h1⟩
    have B1 := B0.trans (h1.mono (by have := B0.size; omega))
    replace c0 := (h1.cell (p := ⟨b, off, none⟩) (by have := B0.size; dsimp only; omega)).trans c0
    replace c1 := (h1.cell (p := ⟨b, off + 1, none⟩) (by have := B0.size; dsimp only; omega)).trans c1
    replace c2 := (h1.cell (p := ⟨b, off + 2, none⟩) (by have := B0.size; dsimp only; omega)).trans c2
    replace c3 := (h1.cell (p := ⟨b, off + 3, none⟩) (by have := B0.size; dsimp only; omega)).trans c3
    replace c4 := (h1.cell (p := ⟨b, off + 4, none⟩) (by have := B0.size; dsimp only; omega)).trans c4
    replace c5 := (h1.cell (p := ⟨b, off + 5, none⟩) (by have := B0.size; dsimp only; omega)).trans c5
    replace c6 := (h1.cell (p := ⟨b, off + 6, none⟩) (by have := B0.size; dsimp only; omega)).trans c6
    replace c7 := (h1.cell (p := ⟨b, off + 7, none⟩) (by have := B0.size; dsimp only; omega)).trans c7
    replace c8 := (h1.cell (p := ⟨b, off + 8, none⟩) (by have := B0.size; dsimp only; omega)).trans c8
    clear h1
    go_wp2_with fail
    refine (l02Ok_any _ _ _).mono ?_; rintro _ x2 ⟨rfl, h2⟩
    have B2 := B1.trans (h2.mono (by have := B1.size; omega))
    replace c0 := (h2.cell (p := ⟨b, off, none⟩) (by have := B1.size; dsimp only; omega)).trans c0
    replace c1 := (h2.cell (p := ⟨b, off + 1, none⟩) (by have := B1.size; dsimp only; omega)).trans c1
    replace c2 := (h2.cell (p := ⟨b, off + 2, none⟩) (by have := B1.size; dsimp only; omega)).trans c2
    replace c3 := (h2.cell (p := ⟨b, off + 3, none⟩) (by have := B1.size; dsimp only; omega)).trans c3
    replace c4 := (h2.cell (p := ⟨b, off + 4, none⟩) (by have := B1.size; dsimp only; omega)).trans c4
    replace c5 := (h2.cell (p := ⟨b, off + 5, none⟩) (by have := B1.size; dsimp only; omega)).trans c5
    replace c6 := (h2.cell (p := ⟨b, off + 6, none⟩) (by have := B1.size; dsimp only; omega)).trans c6
    replace c7 := (h2.cell (p := ⟨b, off + 7, none⟩) (by have := B1.size; dsimp only; omega)).trans c7
    replace c8 := (h2.cell (p := ⟨b, off + 8, none⟩) (by have := B1.size; dsimp only; omega)).trans c8
    clear h2
    go_wp2_with fail
    refine (l00In_any _ _ _ _).mono ?_; rintro _ _ ⟨rfl, rfl⟩
    go_wp2
    go_ret
    exact ⟨by rw [HO.out]; rfl, B2⟩
  · have HO : Hid (oneB p.v p.r.xs m = false) := by show _ = _; unfold oneB; rw [ao]; simp
    clear ao
    go_enter Try.func91, Try.ntmps91
    go_wp2_with fail
    refine (specName_any _ _ hp).mono ?_; rintro _ _ ⟨rfl, rfl⟩
    go_wp2_with fail
    refine (l00In_any _ _ _ _).mono ?_; rintro _ _ ⟨rfl, rfl⟩
    go_wp2_with fail
    refine (l02Ok_any _ _ _).mono ?_; rintro _ x1 ⟨rfl, h1⟩
    have B1 := B0.trans (h1.mono (by have := B0.size; omega))
    replace c0 := (h1.cell (p := ⟨b, off, none⟩) (by have := B0.size; dsimp only; omega)).trans c0
    replace c1 := (h1.cell (p := ⟨b, off + 1, none⟩) (by have := B0.size; dsimp only; omega)).trans c1
    replace c2 := (h1.cell (p := ⟨b, off + 2, none⟩) (by have := B0.size; dsimp only; omega)).trans c2
    replace c3 := (h1.cell (p := ⟨b, off + 3, none⟩) (by have := B0.size; dsimp only; omega)).trans c3
    replace c4 := (h1.cell (p := ⟨b, off + 4, none⟩) (by have := B0.size; dsimp only; omega)).trans c4
    replace c5 := (h1.cell (p := ⟨b, off + 5, none⟩) (by have := B0.size; dsimp only; omega)).trans c5
    replace c6 := (h1.cell (p := ⟨b, off + 6, none⟩) (by have := B0.size; dsimp only; omega)).trans c6
    replace c7 := (h1.cell (p := ⟨b, off + 7, none⟩) (by have := B0.size; dsimp only; omega)).trans c7
    replace c8 := (h1.cell (p := ⟨b, off + 8, none⟩) (by have := B0.size; dsimp only; omega)).trans c8
    clear h1
    go_wp2_with fail
    refine (l02Ok_any _ _ _).mono ?_; rintro _ x2 ⟨rfl, h2⟩
    have B2 := B1.trans (h2.mono (by have := B1.size; omega))
    replace c0 := (h2.cell (p := ⟨b, off, none⟩) (by have := B1.size; dsimp only; omega)).trans c0
    replace c1 := (h2.cell (p := ⟨b, off + 1, none⟩) (by have := B1.size; dsimp only; omega)).trans c1
    replace c2 := (h2.cell (p := ⟨b, off + 2, none⟩) (by have := B1.size; dsimp only; omega)).trans c2
    replace c3 := (h2.cell (p := ⟨b, off + 3, none⟩) (by have := B1.size; dsimp only; omega)).trans c3
    replace c4 := (h2.cell (p := ⟨b, off + 4, none⟩) (by have := B1.size; dsimp only; omega)).trans c4
    replace c5 := (h2.cell (p := ⟨b, off + 5, none⟩) (by have := B1.size; dsimp only; omega)).trans c5
    replace c6 := (h2.cell (p := ⟨b, off + 6, none⟩) (by have := B1.size; dsimp only; omega)).trans c6
    replace c7 := (h2.cell (p := ⟨b, off + 7, none⟩) (by have := B1.size; dsimp only; omega)).trans c7
    replace c8 := (h2.cell (p := ⟨b, off + 8, none⟩) (by have := B1.size; dsimp only; omega)).trans c8
    clear h2
    go_wp2_with fail
    refine (l00In_any _ _ _ _).mono ?_; rintro _ _ ⟨rfl, rfl⟩
    go_wp2_with fail
    refine (l00In_any _ _ _ _).mono ?_; rintro _ _ ⟨rfl, rfl⟩
    go_wp2
    go_ret
    exact ⟨by rw [HO.out]; rfl, B2⟩
  · have HO : Hid (oneB p.v p.r.xs m = risesB p.r.xs m) := by show _ = _; unfold oneB; rw [ao]; simp
    clear ao
    go_enter Try.func91, Try.ntmps91
    go_wp2_with fail
    refine (specName_any _ _ hp).mono ?_; rintro _ _ ⟨rfl, rfl⟩
    go_wp2_with fail
    refine (l00In_any _ _ _ _).mono ?_; rintro _ _ ⟨rfl, rfl⟩
    go_wp2_with fail
    refine (l02Ok_any _ _ _).mono ?_; rintro _ x1 ⟨rfl, h1⟩
    have B1 := B0.trans (h1.mono (by have := B0.size; omega))
    replace c0 := (h1.cell (p := ⟨b, off, none⟩) (by have := B0.size; dsimp only; omega)).trans c0
    replace c1 := (h1.cell (p := ⟨b, off + 1, none⟩) (by have := B0.size; dsimp only; omega)).trans c1
    replace c2 := (h1.cell (p := ⟨b, off + 2, none⟩) (by have := B0.size; dsimp only; omega)).trans c2
    replace c3 := (h1.cell (p := ⟨b, off + 3, none⟩) (by have := B0.size; dsimp only; omega)).trans c3
    replace c4 := (h1.cell (p := ⟨b, off + 4, none⟩) (by have := B0.size; dsimp only; omega)).trans c4
    replace c5 := (h1.cell (p := ⟨b, off + 5, none⟩) (by have := B0.size; dsimp only; omega)).trans c5
    replace c6 := (h1.cell (p := ⟨b, off + 6, none⟩) (by have := B0.size; dsimp only; omega)).trans c6
    replace c7 := (h1.cell (p := ⟨b, off + 7, none⟩) (by have := B0.size; dsimp only; omega)).trans c7
    replace c8 := (h1.cell (p := ⟨b, off + 8, none⟩) (by have := B0.size; dsimp only; omega)).trans c8
    clear h1
    go_wp2_with fail
    refine (l02Ok_any _ _ _).mono ?_; rintro _ x2 ⟨rfl, h2⟩
    have B2 := B1.trans (h2.mono (by have := B1.size; omega))
    replace c0 := (h2.cell (p := ⟨b, off, none⟩) (by have := B1.size; dsimp only; omega)).trans c0
    replace c1 := (h2.cell (p := ⟨b, off + 1, none⟩) (by have := B1.size; dsimp only; omega)).trans c1
    replace c2 := (h2.cell (p := ⟨b, off + 2, none⟩) (by have := B1.size; dsimp only; omega)).trans c2
    replace c3 := (h2.cell (p := ⟨b, off + 3, none⟩) (by have := B1.size; dsimp only; omega)).trans c3
    replace c4 := (h2.cell (p := ⟨b, off + 4, none⟩) (by have := B1.size; dsimp only; omega)).trans c4
    replace c5 := (h2.cell (p := ⟨b, off + 5, none⟩) (by have := B1.size; dsimp only; omega)).trans c5
    replace c6 := (h2.cell (p := ⟨b, off + 6, none⟩) (by have := B1.size; dsimp only; omega)).trans c6
    replace c7 := (h2.cell (p := ⟨b, off + 7, none⟩) (by have := B1.size; dsimp only; omega)).trans c7
    replace c8 := (h2.cell (p := ⟨b, off + 8, none⟩) (by have := B1.size; dsimp only; omega)).trans c8
    clear h2
    go_wp2_with fail
    refine (l00In_any _ _ _ _).mono ?_; rintro _ _ ⟨rfl, rfl⟩
    go_wp2_with fail
    refine (l00In_any _ _ _ _).mono ?_; rintro _ _ ⟨rfl, rfl⟩
    have hr2 := (hr.below B2).more B2.size
    go_wp2_with fail
    refine (quiet_bel (l08Rises_any _ _ _ _ _ _ lo hr2 hn hm0 hm1)).mono ?_; rintro _ x9 ⟨rfl, h9⟩
    go_wp2
    go_ret
    exact ⟨by rw [HO.out]; rfl, B2.trans (h9.mono B2.size)⟩
end Go.Proofs.Ytnidnmbicnhflaa
/- XLifts2: ValidLifts of the program, l08Ok of the reference: both say liftsOk. -/
namespace Go.Proofs.Ytnidnmbicnhflaa
open Go.RowKit Go.Sort
set_option linter.unusedVariables false

set_option maxRecDepth 100000 in
set_option maxHeartbeats 1600000 in
theorem validLifts_any (A : Option Addr) (n c : Nat) (ps : List Lift) (vs : List LV) (hv : ps.map Lift.val = vs) (w : World) (lo : Nat) (h : Lifts w lo w.heap.size A n ps) (hn : n ≤ 1048576) (hp : ∀ p ∈ ps, p.wf) :
    Calls Try.prog 27 #[.slice A n c] w fun e w' => e = .returned (.bool (liftsOk vs)) ∧ Below w.heap.size w w' := by
  have hmm := @run_makeMap Try.prog
  have HV := Lib.hid hv
  have HL : Hid (vs.length = n) := by show _ = _; rw [lv_len hv, h.len]
  have HW := Lib.hid hp
  clear hv hp
  go_enter Try.func27, Try.ntmps27
  go_wp2
  clear hmm
  go_loopw [12] (fun i wr => ∃ k : Nat, k ≤ n ∧ i = .int .i64 k ∧ StrSet Try.prog 9 4 wr w.heap.size k (fun r => !freshTo vs k r) ∧ allTo (liftAt vs) k = true ∧ Below w.heap.size w wr) (fun i _ => n - (intOf i).toNat)
  case atStart => exact ⟨0, Nat.zero_le _, rfl, (StrSet.made w).to fun _ => rfl, rfl, (Below.refl _ _).alloc (Nat.le_refl _) _⟩
  case round =>
    obtain ⟨k, hk, rfl, hset, hall, hb⟩ := hrel
    have HA := Lib.hid hall
    clear hall
    by_cases hlt : k < n
    · obtain ⟨b, off, p, rfl, hx, _, hbl, hrow, c0, c1, c2, c3, c4, c5, c6, c7, c8⟩ := Lift.at (h.below hb) hlt
      have hpn := (HW.out p (List.mem_of_getElem? hx)).v.name
      have hpr := (HW.out p (List.mem_of_getElem? hx)).n
      have HM := Lib.hid (List.mem_of_getElem? hx)
      have HX := Lib.hid (lv_at HV.out hx)
      have hsz := hb.size
      have hsl := hset.lt
      obtain ⟨W, hW⟩ : ∃ W : World, W = wr.alloc (.cells #[.string p.v.name, .int .i64 p.v.weight, .int .i64 p.v.fx, .int .i64 p.v.fy, .int .i64 p.v.tx, .int .i64 p.v.ty, .int .i64 p.v.height, .int .i64 p.v.deadline, .slice p.r.a p.r.n p.r.cap] 40) := ⟨_, rfl⟩
      have hbW : Below wr.heap.size wr W := by rw [hW]; exact (Below.refl _ _).alloc (Nat.le_refl _) _
      have PB : Blk W wr.heap.size 40 #[.string p.v.name, .int .i64 p.v.weight, .int .i64 p.v.fx, .int .i64 p.v.fy, .int .i64 p.v.tx, .int .i64 p.v.ty, .int .i64 p.v.height, .int .i64 p.v.deadline, .slice p.r.a p.r.n p.r.cap] := by rw [hW]; exact Blk.new _ _ _
      have hset0 := hset.bel hbW hsl
      have hszW := PB.lt
      obtain ⟨d0, d1, d2, d3, d4, d5, d6, d7, d8⟩ := Lift.blk PB
      clear hx hset hrow
      go_wp2_with fail
      rw [← hW]
      clear hW c0 c1 c2 c3 c4 c5 c6 c7 c8
      go_wp2_with fail
      refine (plain_any p _ hpn).mono ?_
      rintro _ w1 ⟨rfl, hb1⟩
      have PB1 := PB.bel hb1
      have hset1 := hset0.bel hb1 (by omega)
      have hs1 := hb1.size
      have B1 := (hb.trans (hbW.mono hsz)).trans (hb1.mono (by omega))
      have hlook : (Instr.lookup 105 (.map (some w.heap.size)) (.string p.v.name) false).run Try.prog w1 = .ok (.bool (!freshTo vs k p.v.name)) w1 := hset1.look Try.underlying105 Try.underlying9 Try.underlying4 (zero4 _) hpn
      clear PB hset0 hb1 hbW d0 d1 d2 d3 d4 d5 d6 d7 d8
      obtain ⟨d0, d1, d2, d3, d4, d5, d6, d7, d8⟩ := Lift.blk PB1
      cases hq : plainB p.v
      · have HQ := Lib.hid hq
        go_wp2
        go_ret
        exact ⟨by rw [liftsOk_bad HX.out (by rw [HQ.out]; rfl)]; rfl, B1⟩
      · have HQ := Lib.hid hq
        cases hf : freshTo vs k p.v.name
        · have HF := Lib.hid hf
          go_wp2
          go_ret
          exact ⟨by rw [liftsOk_bad HX.out (by rw [HF.out]; simp)]; rfl, B1⟩
        · have HF := Lib.hid hf
          go_wp2_with (at_mapUpdate; go_loud (refine wpList_put_str rfl _ _ _ 105 rfl 9 4 Try.underlying105 Try.underlying9 Try.underlying4 w.heap.size k _ rfl hset1 (by omega) p.v.name rfl rfl hpn ?_; intro w2 hset2 hgrow2; have PB2 := PB1.grown hgrow2 (by intro hh; injection hh with hh; omega); obtain ⟨x0, x1, x2, x3, x4, x5, x6, x7, x8⟩ := Lift.blk PB2; have B2 := B1.grown hgrow2 (by omega) (fun j hj => by cases hj; exact Nat.le_refl _)))
          have hrow := (h.below B2).2 p HM.out
          have HB2 := Lib.hid B2
          have HR := Lib.hid hrow.1
          clear PB1 hset1 hlook d0 d1 d2 d3 d4 d5 d6 d7 d8 hq hf
          go_loop [6, 32] (fun v j => ∃ q : Nat, q ≤ p.r.n ∧ j = .int .i64 q ∧ v = .int .i64 (prv p.r.xs q) ∧ allTo (riseAt p.r.xs k) q = true) (fun _ j => p.r.n - (intOf j).toNat)
          case atStart => exact ⟨0, Nat.zero_le _, rfl, rfl, rfl⟩
          case round =>
            obtain ⟨q, hq, rfl, rfl, hri⟩ := hrel
            have hlow := prv_low hri (Nat.le_refl q) (by rw [HR.out]; exact hq)
            have HI := Lib.hid hri
            clear hri
            by_cases hqn : q < p.r.n
            · obtain ⟨b4, off4, x, ea, hx4, _, _, e0⟩ := Ints.at hrow hqn
              have HX4 := Lib.hid hx4
              have HA4 := Lib.hid ea
              have HS := Lib.hid (prv_succ hx4)
              have hq0 : (0 : Int) ≤ (q : Int) := by omega
              have hq1 : (q : Int) < (p.r.n : Int) := by omega
              clear hx4
              obtain ⟨y, hy⟩ : ∃ y : Int, prv p.r.xs q = y := ⟨_, rfl⟩
              rw [hy] at hlow ⊢
              have HY := Lib.hid hy
              clear hy
              by_cases h1 : x ≤ y
              · go_wp2
                go_ret
                exact ⟨by rw [liftsOk_bad HX.out (by rw [risesB_bad HX4.out (by rw [HY.out]; omega)]; simp)]; rfl, HB2.out⟩
              · by_cases h2 : (k : Int) ≤ x
                · go_wp2
                  go_ret
                  exact ⟨by rw [liftsOk_bad HX.out (by rw [risesB_bad HX4.out (by omega)]; simp)]; rfl, HB2.out⟩
                · go_wp2
                  go_round
                  case rel => exact ⟨q + 1, by omega, by go_num, by rw [HS.out], allTo_step HI.out (riseAt_good HX4.out (by omega) (by omega) (by rw [HY.out]; omega))⟩
                  case measure => simp [intOf]; omega
            · obtain rfl : q = p.r.n := by omega
              have HO : Hid (liftAt vs k = true) := by show _ = _; rw [liftAt_of HX.out, HQ.out, HF.out]; unfold risesB; rw [HR.out, HI.out]; rfl
              clear hlow
              go_wp2
              go_roundw
              case rel => exact ⟨k + 1, by omega, by go_num, hset2.to (freshTo_set HX.out), allTo_step HA.out HO.out, HB2.out⟩
              case measure => simp [intOf]; omega
    · obtain rfl : k = n := by omega
      have HE := Lib.hid (liftsOk_end HL.out HA.out)
      go_wp2
      go_ret
      exact ⟨by rw [HE.out]; rfl, hb⟩


def nameIs (s : ByteArray) (v : LV) : Bool := decide (v.1.name = s)
theorem fresh_no (vs : List LV) (i : Nat) (s : ByteArray) : freshTo vs i s = noTo (nameIs s) vs i := by unfold freshTo noTo; congr 1; funext j; cases vs[j]? <;> rfl
theorem fresh_idx {vs : List LV} {i : Nat} {s : ByteArray} (hi : i ≤ vs.length) (h : freshTo vs i s = true) : fIdx (nameIs s) (vs.take i) = -1 := by
  refine fIdx_none (noTo_iff.2 fun j hj y hy => ?_)
  rw [List.length_take] at hj
  rw [List.getElem?_take, if_pos (by omega)] at hy
  exact noTo_iff.1 ((fresh_no vs i s).symm.trans h) j (by omega) y hy
theorem fresh_idx_no {vs : List LV} {i : Nat} {s : ByteArray} (hi : i ≤ vs.length) (h : freshTo vs i s = false) : 0 ≤ fIdx (nameIs s) (vs.take i) := by
  rcases fIdx_cases (nameIs s) (vs.take i) with ⟨_, h2, _⟩ | ⟨k, x, h2, _⟩
  · exfalso
    have : freshTo vs i s = true := by
      rw [fresh_no]
      refine noTo_iff.2 fun j hj y hy => ?_
      exact noTo_iff.1 h2 j (by rw [List.length_take]; omega) y (by rw [List.getElem?_take, if_pos hj]; exact hy)
    rw [this] at h; cases h
  · rw [h2]; omega

end Go.Proofs.Ytnidnmbicnhflaa
/- XLifts3: l08Ok at a slice of whatever capacity. -/
namespace Go.Proofs.Ytnidnmbicnhflaa
open Go.RowKit Go.Sort
set_option linter.unusedVariables false

end Go.Proofs.Ytnidnmbicnhflaa
