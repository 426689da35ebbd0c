/- ValidLifts of the program, l08Ok of the reference: both say liftsOk. -/
import Derived.Test.YtdhobglhjdgboaaDoorLiftLaw
import Derived.Test.YtdhobglhjdgboaaDoorQuiet
import Derived.Test.YtdhobglhjdgboaaDoorValidPersons
import Derived.Lib.QuietBelow
import Derived.BigQuiet
namespace Go.Proofs.YtdhobglhjdgboaaDoor
open Go.RowKit Go.Sort
set_option linter.unusedVariables false

theorem same_bel {P : Program} {f : FuncId} {args : Array Value} {w : World} {v : Value} (h : Calls P f args w fun e w' => e = .returned v ∧ w = w') : Calls P f args w fun e w' => e = .returned v ∧ Below w.heap.size w w' :=
  h.mono fun _ _ ⟨he, hw⟩ => ⟨he, hw ▸ Below.refl _ _⟩

theorem validPlace_any (x y : Int) (w : World) :
    Calls Tryd.prog 96 #[.agg #[.int .i64 x, .int .i64 y]] w fun e w' => e = .returned (.bool (plcB x y)) ∧ Below w.heap.size w w' := by
  cases h1 : inB x (-10000) 10000 <;> cases h2 : inB y (-10000) 10000
  all_goals
    have H : Hid (plcB x y = (inB x (-10000) 10000 && inB y (-10000) 10000)) := rfl
    rw [h1, h2] at H
    go_enter Tryd.func96, Tryd.ntmps96
    go_wp2_with (go_at_call 113; refine (within_any _ _ _ _).mono ?_; rintro e w1 ⟨rfl, rfl⟩)
    go_ret
    exact ⟨by rw [H.out]; rfl, (Below.refl _ _).alloc (Nat.le_refl _) _⟩
theorem l02Ok_any (x y : Int) (w : World) :
    Calls Tryd.prog 98 #[.agg #[.int .i64 x, .int .i64 y]] w fun e w' => e = .returned (.bool (plcB x y)) ∧ Below w.heap.size w w' := by
  cases h1 : inB x (-10000) 10000 <;> cases h2 : inB y (-10000) 10000
  all_goals
    have H : Hid (plcB x y = (inB x (-10000) 10000 && inB y (-10000) 10000)) := rfl
    rw [h1, h2] at H
    go_enter Tryd.func98, Tryd.ntmps98
    go_wp2_with (go_at_call 146; refine (l00In_any _ _ _ _).mono ?_; rintro e w1 ⟨rfl, rfl⟩)
    go_ret
    exact ⟨by rw [H.out]; rfl, (Below.refl _ _).alloc (Nat.le_refl _) _⟩

set_option maxRecDepth 100000 in
set_option maxHeartbeats 1600000 in
theorem plain_any (p : Lift) (w : World) (hp : p.v.name.size ≤ 9223372036854775807) :
    Calls Tryd.prog 188 #[.agg #[.string p.v.name, .int .i64 p.v.weight, .int .i64 p.v.fx, .int .i64 p.v.fy, .int .i64 p.v.tx, .int .i64 p.v.ty, .int .i64 p.v.height, .int .i64 p.v.deadline, .slice p.r.a p.r.n p.r.cap]] w fun e w' => e = .returned (.bool (plainB p.v)) ∧ Below w.heap.size w w' := by
  obtain ⟨W, hW⟩ : ∃ W : World, W = w.alloc (.cells #[.string p.v.name, .int .i64 p.v.weight, .int .i64 p.v.fx, .int .i64 p.v.fy, .int .i64 p.v.tx, .int .i64 p.v.ty, .int .i64 p.v.height, .int .i64 p.v.deadline, .slice p.r.a p.r.n p.r.cap] 68) := ⟨_, rfl⟩
  have B0 : Below w.heap.size w W := by rw [hW]; exact (Below.refl _ _).alloc (Nat.le_refl _) _
  have P0 : Blk W w.heap.size 68 #[.string p.v.name, .int .i64 p.v.weight, .int .i64 p.v.fx, .int .i64 p.v.fy, .int .i64 p.v.tx, .int .i64 p.v.ty, .int .i64 p.v.height, .int .i64 p.v.deadline, .slice p.r.a p.r.n p.r.cap] := by rw [hW]; exact Blk.new _ _ _
  have s0 := P0.lt
  rcases plainB_cases p.v with ⟨a1, ao⟩ | ⟨a1, a2, ao⟩ | ⟨a1, a2, a3, ao⟩ | ⟨a1, a2, a3, a4, ao⟩ | ⟨a1, a2, a3, a4, a5, ao⟩ | ⟨a1, a2, a3, a4, a5, a6, ao⟩ | ⟨a1, a2, a3, a4, a5, a6, ao⟩
  · have HO := Lib.hid ao
    clear ao
    go_enter Tryd.func188, Tryd.ntmps188
    go_wp2_with fail
    rw [← hW]
    clear hW
    obtain ⟨d0, d1, d2, d3, d4, d5, d6, d7, d8⟩ := Lift.blk P0
    go_wp2_with fail
    refine (isName_any _ _ hp).mono ?_; rintro _ _ ⟨rfl, rfl⟩
    go_wp2
    go_ret
    exact ⟨by rw [HO.out]; rfl, B0⟩
  · have HO := Lib.hid ao
    clear ao
    go_enter Tryd.func188, Tryd.ntmps188
    go_wp2_with fail
    rw [← hW]
    clear hW
    obtain ⟨d0, d1, d2, d3, d4, d5, d6, d7, d8⟩ := Lift.blk P0
    go_wp2_with fail
    refine (isName_any _ _ hp).mono ?_; rintro _ _ ⟨rfl, rfl⟩
    go_wp2_with fail
    refine (within_any _ _ _ _).mono ?_; rintro _ _ ⟨rfl, rfl⟩
    go_wp2
    go_ret
    exact ⟨by rw [HO.out]; rfl, B0⟩
  · have HO := Lib.hid ao
    clear ao
    go_enter Tryd.func188, Tryd.ntmps188
    go_wp2_with fail
    rw [← hW]
    clear hW
    obtain ⟨d0, d1, d2, d3, d4, d5, d6, d7, d8⟩ := Lift.blk P0
    go_wp2_with fail
    refine (isName_any _ _ hp).mono ?_; rintro _ _ ⟨rfl, rfl⟩
    go_wp2_with fail
    refine (within_any _ _ _ _).mono ?_; rintro _ _ ⟨rfl, rfl⟩
    go_wp2_with fail
    refine (validPlace_any _ _ _).mono ?_; rintro _ x1 ⟨rfl, h1⟩
    have B1 := B0.trans (h1.mono (by omega))
    have P1 := P0.bel h1
    have s1 := P1.lt
    clear d0 d1 d2 d3 d4 d5 d6 d7 d8 h1
    obtain ⟨d0, d1, d2, d3, d4, d5, d6, d7, d8⟩ := Lift.blk P1
    go_wp2
    go_ret
    exact ⟨by rw [HO.out]; rfl, B1⟩
  · have HO := Lib.hid ao
    clear ao
    go_enter Tryd.func188, Tryd.ntmps188
    go_wp2_with fail
    rw [← hW]
    clear hW
    obtain ⟨d0, d1, d2, d3, d4, d5, d6, d7, d8⟩ := Lift.blk P0
    go_wp2_with fail
    refine (isName_any _ _ hp).mono ?_; rintro _ _ ⟨rfl, rfl⟩
    go_wp2_with fail
    refine (within_any _ _ _ _).mono ?_; rintro _ _ ⟨rfl, rfl⟩
    go_wp2_with fail
    refine (validPlace_any _ _ _).mono ?_; rintro _ x1 ⟨rfl, h1⟩
    have B1 := B0.trans (h1.mono (by omega))
    have P1 := P0.bel h1
    have s1 := P1.lt
    clear d0 d1 d2 d3 d4 d5 d6 d7 d8 h1
    obtain ⟨d0, d1, d2, d3, d4, d5, d6, d7, d8⟩ := Lift.blk P1
    go_wp2_with fail
    refine (validPlace_any _ _ _).mono ?_; rintro _ x2 ⟨rfl, h2⟩
    have B2 := B1.trans (h2.mono (by omega))
    have P2 := P1.bel h2
    have s2 := P2.lt
    clear d0 d1 d2 d3 d4 d5 d6 d7 d8 h2
    obtain ⟨d0, d1, d2, d3, d4, d5, d6, d7, d8⟩ := Lift.blk P2
    go_wp2
    go_ret
    exact ⟨by rw [HO.out]; rfl, B2⟩
  · have HO := Lib.hid ao
    clear ao
    go_enter Tryd.func188, Tryd.ntmps188
    go_wp2_with fail
    rw [← hW]
    clear hW
    obtain ⟨d0, d1, d2, d3, d4, d5, d6, d7, d8⟩ := Lift.blk P0
    go_wp2_with fail
    refine (isName_any _ _ hp).mono ?_; rintro _ _ ⟨rfl, rfl⟩
    go_wp2_with fail
    refine (within_any _ _ _ _).mono ?_; rintro _ _ ⟨rfl, rfl⟩
    go_wp2_with fail
    refine (validPlace_any _ _ _).mono ?_; rintro _ x1 ⟨rfl, h1⟩
    have B1 := B0.trans (h1.mono (by omega))
    have P1 := P0.bel h1
    have s1 := P1.lt
    clear d0 d1 d2 d3 d4 d5 d6 d7 d8 h1
    obtain ⟨d0, d1, d2, d3, d4, d5, d6, d7, d8⟩ := Lift.blk P1
    go_wp2_with fail
    refine (validPlace_any _ _ _).mono ?_; rintro _ x2 ⟨rfl, h2⟩
    have B2 := B1.trans (h2.mono (by omega))
    have P2 := P1.bel h2
    have s2 := P2.lt
    clear d0 d1 d2 d3 d4 d5 d6 d7 d8 h2
    obtain ⟨d0, d1, d2, d3, d4, d5, d6, d7, d8⟩ := Lift.blk P2
    go_wp2_with fail
    refine (within_any _ _ _ _).mono ?_; rintro _ _ ⟨rfl, rfl⟩
    go_wp2
    go_ret
    exact ⟨by rw [HO.out]; rfl, B2⟩
  · have HO := Lib.hid ao
    clear ao
    go_enter Tryd.func188, Tryd.ntmps188
    go_wp2_with fail
    rw [← hW]
    clear hW
    obtain ⟨d0, d1, d2, d3, d4, d5, d6, d7, d8⟩ := Lift.blk P0
    go_wp2_with fail
    refine (isName_any _ _ hp).mono ?_; rintro _ _ ⟨rfl, rfl⟩
    go_wp2_with fail
    refine (within_any _ _ _ _).mono ?_; rintro _ _ ⟨rfl, rfl⟩
    go_wp2_with fail
    refine (validPlace_any _ _ _).mono ?_; rintro _ x1 ⟨rfl, h1⟩
    have B1 := B0.trans (h1.mono (by omega))
    have P1 := P0.bel h1
    have s1 := P1.lt
    clear d0 d1 d2 d3 d4 d5 d6 d7 d8 h1
    obtain ⟨d0, d1, d2, d3, d4, d5, d6, d7, d8⟩ := Lift.blk P1
    go_wp2_with fail
    refine (validPlace_any _ _ _).mono ?_; rintro _ x2 ⟨rfl, h2⟩
    have B2 := B1.trans (h2.mono (by omega))
    have P2 := P1.bel h2
    have s2 := P2.lt
    clear d0 d1 d2 d3 d4 d5 d6 d7 d8 h2
    obtain ⟨d0, d1, d2, d3, d4, d5, d6, d7, d8⟩ := Lift.blk P2
    go_wp2_with fail
    refine (within_any _ _ _ _).mono ?_; rintro _ _ ⟨rfl, rfl⟩
    go_wp2_with fail
    refine (within_any _ _ _ _).mono ?_; rintro _ _ ⟨rfl, rfl⟩
    go_wp2
    go_ret
    exact ⟨by rw [HO.out]; rfl, B2⟩
  · have HO := Lib.hid ao
    clear ao
    go_enter Tryd.func188, Tryd.ntmps188
    go_wp2_with fail
    rw [← hW]
    clear hW
    obtain ⟨d0, d1, d2, d3, d4, d5, d6, d7, d8⟩ := Lift.blk P0
    go_wp2_with fail
    refine (isName_any _ _ hp).mono ?_; rintro _ _ ⟨rfl, rfl⟩
    go_wp2_with fail
    refine (within_any _ _ _ _).mono ?_; rintro _ _ ⟨rfl, rfl⟩
    go_wp2_with fail
    refine (validPlace_any _ _ _).mono ?_; rintro _ x1 ⟨rfl, h1⟩
    have B1 := B0.trans (h1.mono (by omega))
    have P1 := P0.bel h1
    have s1 := P1.lt
    clear d0 d1 d2 d3 d4 d5 d6 d7 d8 h1
    obtain ⟨d0, d1, d2, d3, d4, d5, d6, d7, d8⟩ := Lift.blk P1
    go_wp2_with fail
    refine (validPlace_any _ _ _).mono ?_; rintro _ x2 ⟨rfl, h2⟩
    have B2 := B1.trans (h2.mono (by omega))
    have P2 := P1.bel h2
    have s2 := P2.lt
    clear d0 d1 d2 d3 d4 d5 d6 d7 d8 h2
    obtain ⟨d0, d1, d2, d3, d4, d5, d6, d7, d8⟩ := Lift.blk P2
    go_wp2_with fail
    refine (within_any _ _ _ _).mono ?_; rintro _ _ ⟨rfl, rfl⟩
    go_wp2_with fail
    refine (within_any _ _ _ _).mono ?_; rintro _ _ ⟨rfl, rfl⟩
    go_wp2
    go_ret
    exact ⟨by rw [HO.out]; rfl, B2⟩

theorem in_eq (n a b : Int) (w : World) {v : Bool} (h : inB n a b = v) : Calls Tryd.prog 146 #[.int .i64 n, .int .i64 a, .int .i64 b] w fun e w' => e = .returned (.bool v) ∧ w = w' := by subst h; exact l00In_any n a b w
set_option maxRecDepth 100000 in
set_option maxHeartbeats 800000 in
theorem l08Rises_any (A : Option Addr) (n c : Nat) (xs : List Int) (m : Int) (w : World) (lo : Nat) (h : Arr ic 1 w lo w.heap.size A n xs) (hn : n ≤ 9223372036854775807) (hm0 : 0 ≤ m) (hm1 : m ≤ 1048576) :
    Calls Tryd.prog 259 #[.slice A n c, .int .i64 m] w (Quiet (.bool (risesB xs m)) w) := by
  have EM : Hid (IntKind.i64.wrap (m - 1) = m - 1) := IntWalk.i64_in _ ⟨by omega, by omega⟩
  have HL := Lib.hid h.1
  go_enter Tryd.func259, Tryd.ntmps259
  go_wp2
  go_loopw [5] (fun i wr => ∃ k : Nat, k ≤ n ∧ i = .int .i64 k ∧ allTo (riseAt xs m) k = true ∧ ∃ q, wr = w.drewN q) (fun i _ => n - (intOf i).toNat)
  case atStart => exact ⟨0, Nat.zero_le _, rfl, rfl, 0, rfl⟩
  case round =>
    obtain ⟨k, hk, rfl, hall, N, rfl⟩ := hrel
    have HA := Lib.hid hall
    clear hall
    by_cases hlt : k < n
    · obtain ⟨b, off, x, rfl, hx, _, hbl, c0⟩ := Ints.at h hlt
      have HX := Lib.hid hx
      have hk00 : (0 : Int) ≤ (k : Int) := by omega
      have hk1 : (k : Int) < (n : Int) := by omega
      clear hx
      cases hq : inB x 0 (m - 1)
      · have HQ := Lib.hid hq
        have em := EM.out
        go_wp2
        go_quiet ((go_at_call 146; exact quiet_add_left (in_eq _ _ _ _ hq)))
        go_wp2
        go_ret
        exact ⟨by rw [risesB_bad HX.out (by have := inB_false.1 HQ.out; omega)]; rfl, by first | exact ⟨_, rfl⟩ | exact ⟨_, World.drewN_drewN _ _ _⟩⟩
      · have HQ := Lib.hid (inB_true.1 hq)
        rcases Nat.eq_zero_or_pos k with rfl | hk0
        · simp only [Nat.add_zero] at c0
          have em := EM.out
          go_wp2
          go_quiet ((go_at_call 146; exact quiet_add_left (in_eq _ _ _ _ hq)))
          clear em hq
          go_wp2
          go_roundw
          case rel => exact ⟨1, by omega, by go_num, allTo_step HA.out (riseAt_good HX.out HQ.out.1 (by have := HQ.out; omega) (by have := HQ.out; simp [prv]; omega)), by first | exact ⟨_, rfl⟩ | exact ⟨_, World.drewN_drewN _ _ _⟩⟩
          case measure => simp [intOf]; omega
        · obtain ⟨j, rfl⟩ : ∃ j, k = j + 1 := ⟨k - 1, by omega⟩
          obtain ⟨b4, off4, y, e4, hx4, _, _, d0⟩ := Ints.at h (show j < n by omega)
          cases e4
          have HX4 := Lib.hid hx4
          have hm0 : (0 : Int) ≤ (j : Int) := by omega
          have hm1 : (j : Int) < (n : Int) := by omega
          have ew : IntKind.i64.wrap (j : Int) = (j : Int) := IntWalk.i64_in _ ⟨by omega, by omega⟩
          clear hx4
          have em := EM.out
          by_cases hle : x ≤ y
          · go_wp2
            go_quiet ((go_at_call 146; exact quiet_add_left (in_eq _ _ _ _ hq)))
            go_wp2
            go_ret
            exact ⟨by rw [risesB_bad HX.out (by rw [prv_succ HX4.out]; omega)]; rfl, by first | exact ⟨_, rfl⟩ | exact ⟨_, World.drewN_drewN _ _ _⟩⟩
          · have hle2 : y < x := by omega
            have HLE := Lib.hid hle2
            go_wp2
            go_quiet ((go_at_call 146; exact quiet_add_left (in_eq _ _ _ _ hq)))
            clear em hq ew
            go_wp2
            go_roundw
            case rel => exact ⟨j + 1 + 1, by omega, by go_num, allTo_step HA.out (riseAt_good HX.out HQ.out.1 (by have := HQ.out; omega) (by rw [prv_succ HX4.out]; exact HLE.out)), by first | exact ⟨_, rfl⟩ | exact ⟨_, World.drewN_drewN _ _ _⟩⟩
            case measure => simp [intOf]; omega
    · obtain rfl : k = n := by omega
      have H : Hid (risesB xs m = true) := by show _ = _; unfold risesB; rw [HL.out]; exact HA.out
      go_wp2
      go_ret
      exact ⟨by rw [H.out]; rfl, by first | exact ⟨_, rfl⟩ | exact ⟨_, World.drewN_drewN _ _ _⟩⟩

def oneB (v : LiftV) (xs : List Int) (m : Int) : Bool := plainB v && risesB xs m
set_option maxRecDepth 100000 in
set_option maxHeartbeats 1600000 in
theorem l08One_any (b off : Nat) (p : Lift) (m : Int) (w : World) (lo : Nat) (hp : p.v.name.size ≤ 9223372036854775807) (hr : Arr ic 1 w lo w.heap.size p.r.a p.r.n p.r.xs) (hn : p.r.n ≤ 9223372036854775807) (hm0 : 0 ≤ m) (hm1 : m ≤ 1048576) (hbl : b < w.heap.size)
    (c0 : w.cell? ⟨b, off, none⟩ = some (.string p.v.name)) (c1 : w.cell? ⟨b, off + 1, none⟩ = some (.int .i64 p.v.weight)) (c2 : w.cell? ⟨b, off + 2, none⟩ = some (.int .i64 p.v.fx)) (c3 : w.cell? ⟨b, off + 3, none⟩ = some (.int .i64 p.v.fy)) (c4 : w.cell? ⟨b, off + 4, none⟩ = some (.int .i64 p.v.tx)) (c5 : w.cell? ⟨b, off + 5, none⟩ = some (.int .i64 p.v.ty)) (c6 : w.cell? ⟨b, off + 6, none⟩ = some (.int .i64 p.v.height)) (c7 : w.cell? ⟨b, off + 7, none⟩ = some (.int .i64 p.v.deadline)) (c8 : w.cell? ⟨b, off + 8, none⟩ = some (.slice p.r.a p.r.n p.r.cap)) :
    Calls Tryd.prog 222 #[.pointer (some ⟨b, off, none⟩), .int .i64 m] w fun e w' => e = .returned (.bool (oneB p.v p.r.xs m)) ∧ Below w.heap.size w w' := by
  have B0 : Below w.heap.size w w := Below.refl _ _
  rcases plainB_cases p.v with ⟨a1, ao⟩ | ⟨a1, a2, ao⟩ | ⟨a1, a2, a3, ao⟩ | ⟨a1, a2, a3, a4, ao⟩ | ⟨a1, a2, a3, a4, a5, ao⟩ | ⟨a1, a2, a3, a4, a5, a6, ao⟩ | ⟨a1, a2, a3, a4, a5, a6, ao⟩
  · have HO : Hid (oneB p.v p.r.xs m = false) := by show _ = _; unfold oneB; rw [ao]; simp
    clear ao
    go_enter Tryd.func222, Tryd.ntmps222
    go_wp2_with fail
    refine (specName_any _ _ hp).mono ?_; rintro _ _ ⟨rfl, rfl⟩
    go_wp2
    go_ret
    exact ⟨by rw [HO.out]; rfl, B0⟩
  · have HO : Hid (oneB p.v p.r.xs m = false) := by show _ = _; unfold oneB; rw [ao]; simp
    clear ao
    go_enter Tryd.func222, Tryd.ntmps222
    go_wp2_with fail
    refine (specName_any _ _ hp).mono ?_; rintro _ _ ⟨rfl, rfl⟩
    go_wp2_with fail
    refine (l00In_any _ _ _ _).mono ?_; rintro _ _ ⟨rfl, rfl⟩
    go_wp2
    go_ret
    exact ⟨by rw [HO.out]; rfl, B0⟩
  · have HO : Hid (oneB p.v p.r.xs m = false) := by show _ = _; unfold oneB; rw [ao]; simp
    clear ao
    go_enter Tryd.func222, Tryd.ntmps222
    go_wp2_with fail
    refine (specName_any _ _ hp).mono ?_; rintro _ _ ⟨rfl, rfl⟩
    go_wp2_with fail
    refine (l00In_any _ _ _ _).mono ?_; rintro _ _ ⟨rfl, rfl⟩
    go_wp2_with fail
    refine (l02Ok_any _ _ _).mono ?_; rintro _ x1 ⟨rfl, h1⟩
    have B1 := B0.trans (h1.mono (by have := B0.size; omega))
    replace c0 := (h1.cell (p := ⟨b, off, none⟩) (by have := B0.size; dsimp only; omega)).trans c0
    replace c1 := (h1.cell (p := ⟨b, off + 1, none⟩) (by have := B0.size; dsimp only; omega)).trans c1
    replace c2 := (h1.cell (p := ⟨b, off + 2, none⟩) (by have := B0.size; dsimp only; omega)).trans c2
    replace c3 := (h1.cell (p := ⟨b, off + 3, none⟩) (by have := B0.size; dsimp only; omega)).trans c3
    replace c4 := (h1.cell (p := ⟨b, off + 4, none⟩) (by have := B0.size; dsimp only; omega)).trans c4
    replace c5 := (h1.cell (p := ⟨b, off + 5, none⟩) (by have := B0.size; dsimp only; omega)).trans c5
    replace c6 := (h1.cell (p := ⟨b, off + 6, none⟩) (by have := B0.size; dsimp only; omega)).trans c6
    replace c7 := (h1.cell (p := ⟨b, off + 7, none⟩) (by have := B0.size; dsimp only; omega)).trans c7
    replace c8 := (h1.cell (p := ⟨b, off + 8, none⟩) (by have := B0.size; dsimp only; omega)).trans c8
    clear h1
    go_wp2
    go_ret
    exact ⟨by rw [HO.out]; rfl, B1⟩
  · have HO : Hid (oneB p.v p.r.xs m = false) := by show _ = _; unfold oneB; rw [ao]; simp
    clear ao
    go_enter Tryd.func222, Tryd.ntmps222
    go_wp2_with fail
    refine (specName_any _ _ hp).mono ?_; rintro _ _ ⟨rfl, rfl⟩
    go_wp2_with fail
    refine (l00In_any _ _ _ _).mono ?_; rintro _ _ ⟨rfl, rfl⟩
    go_wp2_with fail
    refine (l02Ok_any _ _ _).mono ?_; rintro _ x1 ⟨rfl, h1⟩
    have B1 := B0.trans (h1.mono (by have := B0.size; omega))
    replace c0 := (h1.cell (p := ⟨b, off, none⟩) (by have := B0.size; dsimp only; omega)).trans c0
    replace c1 := (h1.cell (p := ⟨b, off + 1, none⟩) (by have := B0.size; dsimp only; omega)).trans c1
    replace c2 := (h1.cell (p := ⟨b, off + 2, none⟩) (by have := B0.size; dsimp only; omega)).trans c2
    replace c3 := (h1.cell (p := ⟨b, off + 3, none⟩) (by have := B0.size; dsimp only; omega)).trans c3
    replace c4 := (h1.cell (p := ⟨b, off + 4, none⟩) (by have := B0.size; dsimp only; omega)).trans c4
    replace c5 := (h1.cell (p := ⟨b, off + 5, none⟩) (by have := B0.size; dsimp only; omega)).trans c5
    replace c6 := (h1.cell (p := ⟨b, off + 6, none⟩) (by have := B0.size; dsimp only; omega)).trans c6
    replace c7 := (h1.cell (p := ⟨b, off + 7, none⟩) (by have := B0.size; dsimp only; omega)).trans c7
    replace c8 := (h1.cell (p := ⟨b, off + 8, none⟩) (by have := B0.size; dsimp only; omega)).trans c8
    clear h1
    go_wp2_with fail
    refine (l02Ok_any _ _ _).mono ?_; rintro _ x2 ⟨rfl, h2⟩
    have B2 := B1.trans (h2.mono (by have := B1.size; omega))
    replace c0 := (h2.cell (p := ⟨b, off, none⟩) (by have := B1.size; dsimp only; omega)).trans c0
    replace c1 := (h2.cell (p := ⟨b, off + 1, none⟩) (by have := B1.size; dsimp only; omega)).trans c1
    replace c2 := (h2.cell (p := ⟨b, off + 2, none⟩) (by have := B1.size; dsimp only; omega)).trans c2
    replace c3 := (h2.cell (p := ⟨b, off + 3, none⟩) (by have := B1.size; dsimp only; omega)).trans c3
    replace c4 := (h2.cell (p := ⟨b, off + 4, none⟩) (by have := B1.size; dsimp only; omega)).trans c4
    replace c5 := (h2.cell (p := ⟨b, off + 5, none⟩) (by have := B1.size; dsimp only; omega)).trans c5
    replace c6 := (h2.cell (p := ⟨b, off + 6, none⟩) (by have := B1.size; dsimp only; omega)).trans c6
    replace c7 := (h2.cell (p := ⟨b, off + 7, none⟩) (by have := B1.size; dsimp only; omega)).trans c7
    replace c8 := (h2.cell (p := ⟨b, off + 8, none⟩) (by have := B1.size; dsimp only; omega)).trans c8
    clear h2
    go_wp2
    go_ret
    exact ⟨by rw [HO.out]; rfl, B2⟩
  · have HO : Hid (oneB p.v p.r.xs m = false) := by show _ = _; unfold oneB; rw [ao]; simp
    clear ao
    go_enter Tryd.func222, Tryd.ntmps222
    go_wp2_with fail
    refine (specName_any _ _ hp).mono ?_; rintro _ _ ⟨rfl, rfl⟩
    go_wp2_with fail
    refine (l00In_any _ _ _ _).mono ?_; rintro _ _ ⟨rfl, rfl⟩
    go_wp2_with fail
    refine (l02Ok_any _ _ _).mono ?_; rintro _ x1 ⟨rfl, h1⟩
    have B1 := B0.trans (h1.mono (by have := B0.size; omega))
    replace c0 := (h1.cell (p := ⟨b, off, none⟩) (by have := B0.size; dsimp only; omega)).trans c0
    replace c1 := (h1.cell (p := ⟨b, off + 1, none⟩) (by have := B0.size; dsimp only; omega)).trans c1
    replace c2 := (h1.cell (p := ⟨b, off + 2, none⟩) (by have := B0.size; dsimp only; omega)).trans c2
    replace c3 := (h1.cell (p := ⟨b, off + 3, none⟩) (by have := B0.size; dsimp only; omega)).trans c3
    replace c4 := (h1.cell (p := ⟨b, off + 4, none⟩) (by have := B0.size; dsimp only; omega)).trans c4
    replace c5 := (h1.cell (p := ⟨b, off + 5, none⟩) (by have := B0.size; dsimp only; omega)).trans c5
    replace c6 := (h1.cell (p := ⟨b, off + 6, none⟩) (by have := B0.size; dsimp only; omega)).trans c6
    replace c7 := (h1.cell (p := ⟨b, off + 7, none⟩) (by have := B0.size; dsimp only; omega)).trans c7
    replace c8 := (h1.cell (p := ⟨b, off + 8, none⟩) (by have := B0.size; dsimp only; omega)).trans c8
    clear h1
    go_wp2_with fail
    refine (l02Ok_any _ _ _).mono ?_; rintro _ x2 ⟨rfl, h2⟩
    have B2 := B1.trans (h2.mono (by have := B1.size; omega))
    replace c0 := (h2.cell (p := ⟨b, off, none⟩) (by have := B1.size; dsimp only; omega)).trans c0
    replace c1 := (h2.cell (p := ⟨b, off + 1, none⟩) (by have := B1.size; dsimp only; omega)).trans c1
    replace c2 := (h2.cell (p := ⟨b, off + 2, none⟩) (by have := B1.size; dsimp only; omega)).trans c2
    replace c3 := (h2.cell (p := ⟨b, off + 3, none⟩) (by have := B1.size; dsimp only; omega)).trans c3
    replace c4 := (h2.cell (p := ⟨b, off + 4, none⟩) (by have := B1.size; dsimp only; omega)).trans c4
    replace c5 := (h2.cell (p := ⟨b, off + 5, none⟩) (by have := B1.size; dsimp only; omega)).trans c5
    replace c6 := (h2.cell (p := ⟨b, off + 6, none⟩) (by have := B1.size; dsimp only; omega)).trans c6
    replace c7 := (h2.cell (p := ⟨b, off + 7, none⟩) (by have := B1.size; dsimp only; omega)).trans c7
    replace c8 := (h2.cell (p := ⟨b, off + 8, none⟩) (by have := B1.size; dsimp only; omega)).trans c8
    clear h2
    go_wp2_with fail
    refine (l00In_any _ _ _ _).mono ?_; rintro _ _ ⟨rfl, rfl⟩
    go_wp2
    go_ret
    exact ⟨by rw [HO.out]; rfl, B2⟩
  · have HO : Hid (oneB p.v p.r.xs m = false) := by show _ = _; unfold oneB; rw [ao]; simp
    clear ao
    go_enter Tryd.func222, Tryd.ntmps222
    go_wp2_with fail
    refine (specName_any _ _ hp).mono ?_; rintro _ _ ⟨rfl, rfl⟩
    go_wp2_with fail
    refine (l00In_any _ _ _ _).mono ?_; rintro _ _ ⟨rfl, rfl⟩
    go_wp2_with fail
    refine (l02Ok_any _ _ _).mono ?_; rintro _ x1 ⟨rfl, h1⟩
    have B1 := B0.trans (h1.mono (by have := B0.size; omega))
    replace c0 := (h1.cell (p := ⟨b, off, none⟩) (by have := B0.size; dsimp only; omega)).trans c0
    replace c1 := (h1.cell (p := ⟨b, off + 1, none⟩) (by have := B0.size; dsimp only; omega)).trans c1
    replace c2 := (h1.cell (p := ⟨b, off + 2, none⟩) (by have := B0.size; dsimp only; omega)).trans c2
    replace c3 := (h1.cell (p := ⟨b, off + 3, none⟩) (by have := B0.size; dsimp only; omega)).trans c3
    replace c4 := (h1.cell (p := ⟨b, off + 4, none⟩) (by have := B0.size; dsimp only; omega)).trans c4
    replace c5 := (h1.cell (p := ⟨b, off + 5, none⟩) (by have := B0.size; dsimp only; omega)).trans c5
    replace c6 := (h1.cell (p := ⟨b, off + 6, none⟩) (by have := B0.size; dsimp only; omega)).trans c6
    replace c7 := (h1.cell (p := ⟨b, off + 7, none⟩) (by have := B0.size; dsimp only; omega)).trans c7
    replace c8 := (h1.cell (p := ⟨b, off + 8, none⟩) (by have := B0.size; dsimp only; omega)).trans c8
    clear h1
    go_wp2_with fail
    refine (l02Ok_any _ _ _).mono ?_; rintro _ x2 ⟨rfl, h2⟩
    have B2 := B1.trans (h2.mono (by have := B1.size; omega))
    replace c0 := (h2.cell (p := ⟨b, off, none⟩) (by have := B1.size; dsimp only; omega)).trans c0
    replace c1 := (h2.cell (p := ⟨b, off + 1, none⟩) (by have := B1.size; dsimp only; omega)).trans c1
    replace c2 := (h2.cell (p := ⟨b, off + 2, none⟩) (by have := B1.size; dsimp only; omega)).trans c2
    replace c3 := (h2.cell (p := ⟨b, off + 3, none⟩) (by have := B1.size; dsimp only; omega)).trans c3
    replace c4 := (h2.cell (p := ⟨b, off + 4, none⟩) (by have := B1.size; dsimp only; omega)).trans c4
    replace c5 := (h2.cell (p := ⟨b, off + 5, none⟩) (by have := B1.size; dsimp only; omega)).trans c5
    replace c6 := (h2.cell (p := ⟨b, off + 6, none⟩) (by have := B1.size; dsimp only; omega)).trans c6
    replace c7 := (h2.cell (p := ⟨b, off + 7, none⟩) (by have := B1.size; dsimp only; omega)).trans c7
    replace c8 := (h2.cell (p := ⟨b, off + 8, none⟩) (by have := B1.size; dsimp only; omega)).trans c8
    clear h2
    go_wp2_with fail
    refine (l00In_any _ _ _ _).mono ?_; rintro _ _ ⟨rfl, rfl⟩
    go_wp2_with fail
    refine (l00In_any _ _ _ _).mono ?_; rintro _ _ ⟨rfl, rfl⟩
    go_wp2
    go_ret
    exact ⟨by rw [HO.out]; rfl, B2⟩
  · have HO : Hid (oneB p.v p.r.xs m = risesB p.r.xs m) := by show _ = _; unfold oneB; rw [ao]; simp
    clear ao
    go_enter Tryd.func222, Tryd.ntmps222
    go_wp2_with fail
    refine (specName_any _ _ hp).mono ?_; rintro _ _ ⟨rfl, rfl⟩
    go_wp2_with fail
    refine (l00In_any _ _ _ _).mono ?_; rintro _ _ ⟨rfl, rfl⟩
    go_wp2_with fail
    refine (l02Ok_any _ _ _).mono ?_; rintro _ x1 ⟨rfl, h1⟩
    have B1 := B0.trans (h1.mono (by have := B0.size; omega))
    replace c0 := (h1.cell (p := ⟨b, off, none⟩) (by have := B0.size; dsimp only; omega)).trans c0
    replace c1 := (h1.cell (p := ⟨b, off + 1, none⟩) (by have := B0.size; dsimp only; omega)).trans c1
    replace c2 := (h1.cell (p := ⟨b, off + 2, none⟩) (by have := B0.size; dsimp only; omega)).trans c2
    replace c3 := (h1.cell (p := ⟨b, off + 3, none⟩) (by have := B0.size; dsimp only; omega)).trans c3
    replace c4 := (h1.cell (p := ⟨b, off + 4, none⟩) (by have := B0.size; dsimp only; omega)).trans c4
    replace c5 := (h1.cell (p := ⟨b, off + 5, none⟩) (by have := B0.size; dsimp only; omega)).trans c5
    replace c6 := (h1.cell (p := ⟨b, off + 6, none⟩) (by have := B0.size; dsimp only; omega)).trans c6
    replace c7 := (h1.cell (p := ⟨b, off + 7, none⟩) (by have := B0.size; dsimp only; omega)).trans c7
    replace c8 := (h1.cell (p := ⟨b, off + 8, none⟩) (by have := B0.size; dsimp only; omega)).trans c8
    clear h1
    go_wp2_with fail
    refine (l02Ok_any _ _ _).mono ?_; rintro _ x2 ⟨rfl, h2⟩
    have B2 := B1.trans (h2.mono (by have := B1.size; omega))
    replace c0 := (h2.cell (p := ⟨b, off, none⟩) (by have := B1.size; dsimp only; omega)).trans c0
    replace c1 := (h2.cell (p := ⟨b, off + 1, none⟩) (by have := B1.size; dsimp only; omega)).trans c1
    replace c2 := (h2.cell (p := ⟨b, off + 2, none⟩) (by have := B1.size; dsimp only; omega)).trans c2
    replace c3 := (h2.cell (p := ⟨b, off + 3, none⟩) (by have := B1.size; dsimp only; omega)).trans c3
    replace c4 := (h2.cell (p := ⟨b, off + 4, none⟩) (by have := B1.size; dsimp only; omega)).trans c4
    replace c5 := (h2.cell (p := ⟨b, off + 5, none⟩) (by have := B1.size; dsimp only; omega)).trans c5
    replace c6 := (h2.cell (p := ⟨b, off + 6, none⟩) (by have := B1.size; dsimp only; omega)).trans c6
    replace c7 := (h2.cell (p := ⟨b, off + 7, none⟩) (by have := B1.size; dsimp only; omega)).trans c7
    replace c8 := (h2.cell (p := ⟨b, off + 8, none⟩) (by have := B1.size; dsimp only; omega)).trans c8
    clear h2
    go_wp2_with fail
    refine (l00In_any _ _ _ _).mono ?_; rintro _ _ ⟨rfl, rfl⟩
    go_wp2_with fail
    refine (l00In_any _ _ _ _).mono ?_; rintro _ _ ⟨rfl, rfl⟩
    have hr2 := (hr.below B2).more B2.size
    go_wp2_with fail
    refine (quiet_bel (l08Rises_any _ _ _ _ _ _ lo hr2 hn hm0 hm1)).mono ?_; rintro _ x9 ⟨rfl, h9⟩
    go_wp2
    go_ret
    exact ⟨by rw [HO.out]; rfl, B2.trans (h9.mono B2.size)⟩
end Go.Proofs.YtdhobglhjdgboaaDoor
