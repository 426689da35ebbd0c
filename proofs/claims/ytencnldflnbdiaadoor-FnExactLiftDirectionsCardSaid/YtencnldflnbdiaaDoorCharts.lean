/- Charts: ValidChart, stepFor, loadAt, ceil of the program; l03Ok, l03Find, l03Load, l03Up, l03Last of the reference. -/
import Derived.Test.YtencnldflnbdiaaDoorChartLaw
import Derived.Test.YtencnldflnbdiaaDoorQuiet
import Derived.Lib.QuietBelow
namespace Go.Proofs.YtencnldflnbdiaaDoor
open Go.RowKit
set_option linter.unusedVariables false

set_option maxRecDepth 100000 in
set_option maxHeartbeats 1600000 in
theorem validChart_any (A : Option Addr) (n c : Nat) (xs : List ChartStep) (w : World) (lo : Nat) (h : Arr ChartStep.cs 2 w lo w.heap.size A n xs) (hn : n ≤ 9223372036854775807) :
    Calls Tryd.prog 171 #[.slice A n c] w fun e w' => e = .returned (.bool (chartOk xs)) ∧ Below w.heap.size w w' := by
  have HL := Lib.hid h.1
  go_enter Tryd.func171, Tryd.ntmps171
  go_wp2
  go_loopw [7] (fun i wr => ∃ k : Nat, k ≤ n ∧ i = .int .i64 k ∧ allTo (stepAt xs) k = true ∧ Below w.heap.size w wr) (fun i _ => n - (intOf i).toNat)
  case atStart => exact ⟨0, Nat.zero_le _, rfl, rfl, Below.refl _ _⟩
  case round =>
    obtain ⟨k, hk, rfl, hall, hb⟩ := hrel
    have HA := Lib.hid hall
    clear hall
    by_cases hlt : k < n
    · obtain ⟨b, off, s, rfl, hx, _, hbl, c0, c1⟩ := ChartStep.at (h.below hb) hlt
      have HX := Lib.hid hx
      have hsz := hb.size
      have hk0 : (0 : Int) ≤ (k : Int) := by omega
      have hk1 : (k : Int) < (n : Int) := by omega
      clear hx
      obtain ⟨W, hW⟩ : ∃ W : World, W = wr.alloc (.cells #[.int .i64 s.radius, .int .i64 s.load] 199) := ⟨_, rfl⟩
      have hbW : Below wr.heap.size wr W := by rw [hW]; exact (Below.refl _ _).alloc (Nat.le_refl _) _
      have hbB : Below w.heap.size w W := hb.trans (hbW.mono hsz)
      have t0 : W.cell? ⟨wr.heap.size, 0, none⟩ = some (.int .i64 s.radius) := by rw [hW]; simp
      have t1 : W.cell? ⟨wr.heap.size, 1, none⟩ = some (.int .i64 s.load) := by rw [hW]; simp
      cases h1 : inB s.radius 1 1000
      · have HB : Hid (chartOk xs = false) := chartOk_bad HX.out (by rw [h1]; rfl)
        go_wp2_with fail
        rw [← hW]
        clear hW c0 c1
        go_wp2_with (go_at_call 68; refine (within_any _ _ _ _).mono ?_; rintro e w1 ⟨rfl, rfl⟩)
        go_ret
        exact ⟨by rw [HB.out]; rfl, hbB⟩
      · cases h2 : inB s.load 0 50000
        · have HB : Hid (chartOk xs = false) := chartOk_bad HX.out (by rw [h1, h2]; rfl)
          go_wp2_with fail
          rw [← hW]
          clear hW c0 c1
          go_wp2_with (go_at_call 68; refine (within_any _ _ _ _).mono ?_; rintro e w1 ⟨rfl, rfl⟩)
          go_ret
          exact ⟨by rw [HB.out]; rfl, hbB⟩
        · have HB : Hid (stepAt xs k = upB xs k s) := by show _ = _; rw [stepAt_of HX.out, h1, h2]; rfl
          have HC : Hid (upB xs k s = false → chartOk xs = false) := fun hq => chartOk_bad HX.out (by rw [h1, h2, hq]; rfl)
          rcases Nat.eq_zero_or_pos k with rfl | hkp
          · simp only [Nat.zero_mul, Nat.add_zero] at c0 c1
            go_wp2_with fail
            rw [← hW]
            clear hW c0 c1
            go_wp2_with (go_at_call 68; refine (within_any _ _ _ _).mono ?_; rintro e w1 ⟨rfl, rfl⟩)
            go_quiet (fail)
            go_wp2
            go_roundw
            case rel => exact ⟨1, by omega, by go_num, allTo_step HA.out HB.out, bel_drewN hbB _⟩
            case measure => simp [intOf]; omega
          · obtain ⟨j, rfl⟩ : ∃ j, k = j + 1 := ⟨k - 1, by omega⟩
            obtain ⟨b4, off4, r, e4, hx4, _, _, d0, d1⟩ := ChartStep.at (h.below hbB) (show j < n by omega)
            cases e4
            have HU : Hid (upB xs (j + 1) s = (decide (r.radius < s.radius) && decide (s.load ≤ r.load))) := upB_succ hx4
            have hm0 : (0 : Int) ≤ (j : Int) := by omega
            have hm1 : (j : Int) < (n : Int) := by omega
            have ew : IntKind.i64.wrap (j : Int) = (j : Int) := IntWalk.i64_in _ ⟨by omega, by omega⟩
            clear hx4
            by_cases hr : s.radius ≤ r.radius
            · have HQ := Lib.hid (HC.out (by rw [HU.out]; simp; omega))
              clear HC
              go_wp2_with fail
              rw [← hW]
              clear hW c0 c1
              go_wp2_with (go_at_call 68; refine (within_any _ _ _ _).mono ?_; rintro e w1 ⟨rfl, rfl⟩)
              go_quiet (fail)
              go_wp2
              go_ret
              exact ⟨by rw [HQ.out]; rfl, bel_drewN hbB _⟩
            · have hr2 : r.radius < s.radius := by omega
              have hr3 : decide (s.radius ≤ r.radius) = false := by simpa using hr2
              by_cases hl : r.load < s.load
              · have HQ := Lib.hid (HC.out (by rw [HU.out]; simp; omega))
                clear HC
                go_wp2_with fail
                rw [← hW]
                clear hW c0 c1
                go_wp2_with (go_at_call 68; refine (within_any _ _ _ _).mono ?_; rintro e w1 ⟨rfl, rfl⟩)
                go_quiet (fail)
                go_wp2
                go_ret
                exact ⟨by rw [HQ.out]; rfl, bel_drewN hbB _⟩
              · have hl2 : s.load ≤ r.load := by omega
                have hl3 : decide (r.load < s.load) = false := by simpa using hl2
                have HQ : Hid (upB xs (j + 1) s = true) := by show _ = _; rw [HU.out]; simp; omega
                clear HC hl hr
                go_wp2_with fail
                rw [← hW]
                clear hW c0 c1
                go_wp2_with (go_at_call 68; refine (within_any _ _ _ _).mono ?_; rintro e w1 ⟨rfl, rfl⟩)
                go_quiet (fail)
                clear ew hr3 hl3
                go_wp2
                go_roundw
                case rel => exact ⟨j + 1 + 1, by omega, by go_num, allTo_step HA.out (by rw [HB.out, HQ.out]), bel_drewN hbB _⟩
                case measure => simp [intOf]; omega
    · obtain rfl : k = n := by omega
      have HE : Hid (chartOk xs = inB (k : Int) 1 20) := chartOk_end HL.out HA.out
      by_cases h1 : 1 ≤ (k : Int)
      · have HE2 : Hid (chartOk xs = decide ((k : Int) ≤ 20)) := by show _ = _; rw [HE.out]; unfold inB; simp only [h1, decide_true, Bool.true_and]
        go_wp2
        go_ret
        exact ⟨by rw [HE2.out]; rfl, hb⟩
      · have HE2 : Hid (chartOk xs = false) := by show _ = _; rw [HE.out]; unfold inB; simp only [h1, decide_false, Bool.false_and]
        go_wp2
        go_ret
        exact ⟨by rw [HE2.out]; rfl, hb⟩

set_option maxRecDepth 100000 in
set_option maxHeartbeats 1600000 in
theorem l03Ok_any (A : Option Addr) (n c : Nat) (xs : List ChartStep) (w : World) (lo : Nat) (h : Arr ChartStep.cs 2 w lo w.heap.size A n xs) (hn : n ≤ 9223372036854775807) :
    Calls Tryd.prog 140 #[.slice A n c] w (Quiet (.bool (chartOk xs)) w) := by
  have HL := Lib.hid h.1
  go_enter Tryd.func140, Tryd.ntmps140
  go_wp2
  go_loopw [3] (fun i wr => ∃ k : Nat, k ≤ n ∧ i = .int .i64 k ∧ allTo (stepAt xs) k = true ∧ ∃ q, wr = w.drewN q) (fun i _ => n - (intOf i).toNat)
  case atStart => exact ⟨0, Nat.zero_le _, rfl, rfl, 0, rfl⟩
  case round =>
    obtain ⟨k, hk, rfl, hall, N, rfl⟩ := hrel
    have HA := Lib.hid hall
    clear hall
    by_cases hlt : k < n
    · obtain ⟨b, off, s, rfl, hx, _, hbl, c0, c1⟩ := ChartStep.at h hlt
      have HX := Lib.hid hx
      have hk0 : (0 : Int) ≤ (k : Int) := by omega
      have hk1 : (k : Int) < (n : Int) := by omega
      clear hx
      cases h1 : inB s.radius 1 1000
      · have HB : Hid (chartOk xs = false) := chartOk_bad HX.out (by rw [h1]; rfl)
        go_wp2_with (go_at_call 85; refine (l00In_any _ _ _ _).mono ?_; rintro e w1 ⟨rfl, rfl⟩)
        go_ret
        exact ⟨by rw [HB.out]; rfl, _, rfl⟩
      · cases h2 : inB s.load 0 50000
        · have HB : Hid (chartOk xs = false) := chartOk_bad HX.out (by rw [h1, h2]; rfl)
          go_wp2_with (go_at_call 85; refine (l00In_any _ _ _ _).mono ?_; rintro e w1 ⟨rfl, rfl⟩)
          go_ret
          exact ⟨by rw [HB.out]; rfl, _, rfl⟩
        · have HB : Hid (stepAt xs k = upB xs k s) := by show _ = _; rw [stepAt_of HX.out, h1, h2]; rfl
          have HC : Hid (upB xs k s = false → chartOk xs = false) := fun hq => chartOk_bad HX.out (by rw [h1, h2, hq]; rfl)
          rcases Nat.eq_zero_or_pos k with rfl | hkp
          · simp only [Nat.zero_mul, Nat.add_zero] at c0 c1
            go_wp2_with (go_at_call 85; refine (l00In_any _ _ _ _).mono ?_; rintro e w1 ⟨rfl, rfl⟩)
            go_quiet (fail)
            go_wp2
            go_roundw
            case rel => exact ⟨1, by omega, by go_num, allTo_step HA.out HB.out, by first | exact ⟨_, rfl⟩ | exact ⟨_, World.drewN_drewN _ _ _⟩⟩
            case measure => simp [intOf]; omega
          · obtain ⟨j, rfl⟩ : ∃ j, k = j + 1 := ⟨k - 1, by omega⟩
            obtain ⟨b4, off4, r, e4, hx4, _, _, d0, d1⟩ := ChartStep.at h (show j < n by omega)
            cases e4
            have HU : Hid (upB xs (j + 1) s = (decide (r.radius < s.radius) && decide (s.load ≤ r.load))) := upB_succ hx4
            have hm0 : (0 : Int) ≤ (j : Int) := by omega
            have hm1 : (j : Int) < (n : Int) := by omega
            have ew : IntKind.i64.wrap (j : Int) = (j : Int) := IntWalk.i64_in _ ⟨by omega, by omega⟩
            clear hx4
            by_cases hr : s.radius ≤ r.radius
            · have HQ := Lib.hid (HC.out (by rw [HU.out]; simp; omega))
              clear HC
              go_wp2_with (go_at_call 85; refine (l00In_any _ _ _ _).mono ?_; rintro e w1 ⟨rfl, rfl⟩)
              go_quiet (fail)
              go_wp2
              go_ret
              exact ⟨by rw [HQ.out]; rfl, by first | exact ⟨_, rfl⟩ | exact ⟨_, World.drewN_drewN _ _ _⟩⟩
            · have hr2 : r.radius < s.radius := by omega
              have hr3 : decide (s.radius ≤ r.radius) = false := by simpa using hr2
              by_cases hl : r.load < s.load
              · have HQ := Lib.hid (HC.out (by rw [HU.out]; simp; omega))
                clear HC
                go_wp2_with (go_at_call 85; refine (l00In_any _ _ _ _).mono ?_; rintro e w1 ⟨rfl, rfl⟩)
                go_quiet (fail)
                go_wp2
                go_ret
                exact ⟨by rw [HQ.out]; rfl, by first | exact ⟨_, rfl⟩ | exact ⟨_, World.drewN_drewN _ _ _⟩⟩
              · have hl2 : s.load ≤ r.load := by omega
                have hl3 : decide (r.load < s.load) = false := by simpa using hl2
                have HQ : Hid (upB xs (j + 1) s = true) := by show _ = _; rw [HU.out]; simp; omega
                clear HC hl hr
                go_wp2_with (go_at_call 85; refine (l00In_any _ _ _ _).mono ?_; rintro e w1 ⟨rfl, rfl⟩)
                go_quiet (fail)
                clear ew hr3 hl3
                go_wp2
                go_roundw
                case rel => exact ⟨j + 1 + 1, by omega, by go_num, allTo_step HA.out (by rw [HB.out, HQ.out]), by first | exact ⟨_, rfl⟩ | exact ⟨_, World.drewN_drewN _ _ _⟩⟩
                case measure => simp [intOf]; omega
    · obtain rfl : k = n := by omega
      have HE : Hid (chartOk xs = inB (k : Int) 1 20) := chartOk_end HL.out HA.out
      go_wp2_with (go_at_call 85; refine (l00In_any _ _ _ _).mono ?_; rintro e w1 ⟨rfl, rfl⟩)
      go_ret
      exact ⟨by rw [HE.out]; rfl, _, rfl⟩
end Go.Proofs.YtencnldflnbdiaaDoor
