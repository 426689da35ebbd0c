/- Made by merge.py of XChartLaw, XCharts, XCharts2, XCharts3, XCranes. -/
import Derived.Test.YtkegncanmfmmmaaDoorRChartStep
import Derived.Test.YtkegncanmfmmmaaDoorLow
import Derived.Test.YtkegncanmfmmmaaDoorFind
import Derived.Test.YtkegncanmfmmmaaDoorQuiet
import Derived.Lib.QuietBelow
import Derived.Deep.RegionHeld3
import Derived.Test.YtkegncanmfmmmaaDoorNest2
import Derived.RegionTactic
import Derived.Test.YtkegncanmfmmmaaDoorRoots
import Derived.Test.YtkegncanmfmmmaaDoorRCrane
import Derived.Test.YtkegncanmfmmmaaDoorLiftLaw
import Derived.Test.YtkegncanmfmmmaaDoorLifts3
import Derived.BigQuiet
/- XChartLaw: What is asked of charts: chartOk; the load at a radius: ldI. Over values; no program in sight. -/
namespace Go.Proofs.YtkegncanmfmmmaaDoor
open Go.RowKit
set_option linter.unusedVariables false

def upB (xs : List ChartStep) (i : Nat) (s : ChartStep) : Bool := match i with
  | 0 => true
  | j + 1 => match xs[j]? with | some r => decide (r.radius < s.radius) && decide (s.load ≤ r.load) | none => true
def stepAt (xs : List ChartStep) (i : Nat) : Bool := match xs[i]? with
  | some s => inB s.radius 1 1000 && (inB s.load 0 50000 && upB xs i s)
  | none => true
def chartOk (xs : List ChartStep) : Bool := allTo (stepAt xs) xs.length && inB (xs.length : Int) 1 20
theorem stepAt_of {xs : List ChartStep} {i : Nat} {s : ChartStep} (h : xs[i]? = some s) : stepAt xs i = (inB s.radius 1 1000 && (inB s.load 0 50000 && upB xs i s)) := by simp only [stepAt, h]
theorem upB_zero {xs : List ChartStep} {s : ChartStep} : upB xs 0 s = true := rfl
theorem upB_succ {xs : List ChartStep} {j : Nat} {r s : ChartStep} (h : xs[j]? = some r) : upB xs (j + 1) s = (decide (r.radius < s.radius) && decide (s.load ≤ r.load)) := by simp only [upB, h]
theorem chartOk_bad {xs : List ChartStep} {i : Nat} {s : ChartStep} (h : xs[i]? = some s) (hb : (inB s.radius 1 1000 && (inB s.load 0 50000 && upB xs i s)) = false) : chartOk xs = false := by
  unfold chartOk; rw [allTo_bad (List.getElem?_eq_some_iff.1 h).1 (by rw [stepAt_of h]; exact hb)]; rfl
theorem chartOk_end {xs : List ChartStep} {n : Nat} (hl : xs.length = n) (h : allTo (stepAt xs) n = true) : chartOk xs = inB (n : Int) 1 20 := by
  unfold chartOk; rw [hl, h]; rfl
theorem chartOk_len {xs : List ChartStep} (h : chartOk xs = true) : 1 ≤ xs.length ∧ xs.length ≤ 20 := by
  unfold chartOk at h; rw [Bool.and_eq_true] at h
  have := inB_true.1 h.2; omega
theorem chartOk_at {xs : List ChartStep} (h : chartOk xs = true) {i : Nat} {s : ChartStep} (hs : xs[i]? = some s) : (1 ≤ s.radius ∧ s.radius ≤ 1000) ∧ (0 ≤ s.load ∧ s.load ≤ 50000) := by
  unfold chartOk at h; rw [Bool.and_eq_true] at h
  have := allTo_iff.1 h.1 i (List.getElem?_eq_some_iff.1 hs).1
  rw [stepAt_of hs, Bool.and_eq_true, Bool.and_eq_true] at this
  exact ⟨inB_true.1 this.1, inB_true.1 this.2.1⟩
theorem chartOk_up {xs : List ChartStep} (h : chartOk xs = true) {i : Nat} {r s : ChartStep} (hr : xs[i]? = some r) (hs : xs[i + 1]? = some s) : r.radius < s.radius ∧ s.load ≤ r.load := by
  unfold chartOk at h; rw [Bool.and_eq_true] at h
  have := allTo_iff.1 h.1 (i + 1) (List.getElem?_eq_some_iff.1 hs).1
  rw [stepAt_of hs, Bool.and_eq_true, Bool.and_eq_true, upB_succ hr, Bool.and_eq_true] at this
  exact ⟨of_decide_eq_true this.2.2.1, of_decide_eq_true this.2.2.2⟩

def cdiv (n d : Int) : Int := (n + d - 1) / d
theorem cdiv_low {n d : Int} (hn : 0 ≤ n) (hd : 1 ≤ d) : 0 ≤ cdiv n d := Int.ediv_nonneg (by omega) (by omega)
theorem cdiv_high {n d m : Int} (hd : 1 ≤ d) (h : n ≤ m * d) : cdiv n d ≤ m := by
  unfold cdiv
  have h2 : n + d - 1 < (m + 1) * d := by rw [Int.add_mul]; omega
  have := Int.ediv_lt_of_lt_mul (by omega : 0 < d) h2
  omega
def ldBtw (a b : ChartStep) (r : Int) : Int := a.load - cdiv ((a.load - b.load) * (r - a.radius)) (b.radius - a.radius)
/-- what a load between two steps asks for -/
structure Btw (a b : ChartStep) (r : Int) : Prop where
  ra : 1 ≤ a.radius ∧ a.radius < r
  rb : r ≤ b.radius ∧ b.radius ≤ 1000
  la : b.load ≤ a.load ∧ a.load ≤ 50000
  lb : 0 ≤ b.load
theorem Btw.prod {a b : ChartStep} {r : Int} (h : Btw a b r) : 0 ≤ (a.load - b.load) * (r - a.radius) ∧ (a.load - b.load) * (r - a.radius) ≤ (a.load - b.load) * (b.radius - a.radius) ∧ (a.load - b.load) * (r - a.radius) ≤ 50000000 := by
  obtain ⟨h1, h2⟩ := h.ra; obtain ⟨h3, h4⟩ := h.rb; obtain ⟨h5, h6⟩ := h.la; have h7 := h.lb
  refine ⟨Int.mul_nonneg (by omega) (by omega), Int.mul_le_mul_of_nonneg_left (by omega) (by omega), ?_⟩
  calc (a.load - b.load) * (r - a.radius) ≤ 50000 * (r - a.radius) := Int.mul_le_mul_of_nonneg_right (by omega) (by omega)
    _ ≤ 50000 * 1000 := Int.mul_le_mul_of_nonneg_left (by omega) (by omega)
    _ = 50000000 := by decide
theorem Btw.cdiv {a b : ChartStep} {r : Int} (h : Btw a b r) : 0 ≤ cdiv ((a.load - b.load) * (r - a.radius)) (b.radius - a.radius) ∧ Go.Proofs.YtkegncanmfmmmaaDoor.cdiv ((a.load - b.load) * (r - a.radius)) (b.radius - a.radius) ≤ a.load - b.load := by
  have h0 := h.prod
  obtain ⟨h1, h2⟩ := h.ra; obtain ⟨h3, h4⟩ := h.rb
  exact ⟨cdiv_low h0.1 (by omega), cdiv_high (by omega) h0.2.1⟩
theorem Btw.low {a b : ChartStep} {r : Int} (h : Btw a b r) : 0 ≤ ldBtw a b r ∧ ldBtw a b r ≤ 50000 := by
  have h0 := h.cdiv; have h1 := h.la; have h2 := h.lb
  unfold ldBtw; omega
def reachB (r : Int) (s : ChartStep) : Bool := decide (r ≤ s.radius)
def ldI (xs : List ChartStep) (r : Int) : Int := match xs.findIdx? (reachB r) with
  | none => -1
  | some 0 => match xs[0]? with | some s => s.load | none => -1
  | some (j + 1) => match xs[j]?, xs[j + 1]? with | some a, some b => ldBtw a b r | _, _ => -1
theorem ldI_cases {xs : List ChartStep} (h : chartOk xs = true) (r : Int) :
    (fIdx (reachB r) xs = -1 ∧ ldI xs r = -1) ∨
    (∃ s, xs[0]? = some s ∧ fIdx (reachB r) xs = 0 ∧ ldI xs r = s.load ∧ 0 ≤ s.load ∧ s.load ≤ 50000) ∨
    (∃ (j : Nat) (a b : ChartStep), xs[j]? = some a ∧ xs[j + 1]? = some b ∧ fIdx (reachB r) xs = ((j + 1 : Nat) : Int) ∧ Btw a b r ∧ ldI xs r = ldBtw a b r) := by
  rcases fIdx_cases (reachB r) xs with ⟨h1, h2, h3⟩ | ⟨k, x, h1, hk, hx, hq, hn, h3⟩
  · left; exact ⟨h1, by unfold ldI; rw [h3]⟩
  · right
    cases k with
    | zero =>
      left
      have hb := chartOk_at h hx
      exact ⟨x, hx, h1, by unfold ldI; rw [h3]; simp only [hx], hb.2⟩
    | succ j =>
      right
      have ha : xs[j]? = some (xs[j]'(by omega)) := List.getElem?_eq_getElem _
      have hba := chartOk_at h ha
      have hbb := chartOk_at h hx
      have hup := chartOk_up h ha hx
      have hno := noTo_iff.1 hn j (by omega) _ ha
      have hq' := of_decide_eq_true hq
      have hno' : (xs[j]'(by omega)).radius < r := by
        have := of_decide_eq_false hno; omega
      refine ⟨j, _, x, ha, hx, h1, ⟨by omega, by omega, by omega, by omega⟩, ?_⟩
      unfold ldI; rw [h3]; simp only [ha, hx]
theorem ldI_range {xs : List ChartStep} (h : chartOk xs = true) (r : Int) : -1 ≤ ldI xs r ∧ ldI xs r ≤ 50000 := by
  rcases ldI_cases h r with ⟨_, h2⟩ | ⟨s, _, _, h2, h3, h4⟩ | ⟨j, a, b, _, _, _, hb, h2⟩
  · omega
  · omega
  · have := hb.low; omega
/-- behind the last step there is no load -/
theorem ldI_far {xs : List ChartStep} (h : chartOk xs = true) {r : Int} (hr : 1000 < r) : ldI xs r = -1 := by
  rcases ldI_cases h r with ⟨_, h2⟩ | ⟨s, h1, h2, _⟩ | ⟨j, a, b, _, _, _, hb, _⟩
  · exact h2
  · rcases fIdx_cases (reachB r) xs with ⟨g1, _⟩ | ⟨k, x, g1, hk, hx, hq, _⟩
    · omega
    · have := chartOk_at h hx
      have := of_decide_eq_true hq
      omega
  · have := hb.rb; omega
def lastR (xs : List ChartStep) : Int := match xs[xs.length - 1]? with | some s => s.radius | none => 0
end Go.Proofs.YtkegncanmfmmmaaDoor
/- XCharts: Charts: ValidChart, stepFor, loadAt, ceil of the program; l03Ok, l03Find, l03Load, l03Up, l03Last of the reference. -/
namespace Go.Proofs.YtkegncanmfmmmaaDoor
open Go.RowKit
set_option linter.unusedVariables false

set_option maxRecDepth 100000 in
set_option maxHeartbeats 1600000 in
theorem validChart_any (A : Option Addr) (n c : Nat) (xs : List ChartStep) (w : World) (lo : Nat) (h : Arr ChartStep.cs 2 w lo w.heap.size A n xs) (hn : n ≤ 9223372036854775807) :
    Calls Tryd.prog 122 #[.slice A n c] w fun e w' => e = .returned (.bool (chartOk xs)) ∧ Below w.heap.size w w' := by
  have HL := Lib.hid h.1
  go_enter Tryd.func122, Tryd.ntmps122
  go_wp2
  go_loopw [7] (fun i wr => ∃ k : Nat, k ≤ n ∧ i = .int .i64 k ∧ allTo (stepAt xs) k = true ∧ Below w.heap.size w wr) (fun i _ => n - (intOf i).toNat)
  case atStart => exact ⟨0, Nat.zero_le _, rfl, rfl, Below.refl _ _⟩
  case round =>
    obtain ⟨k, hk, rfl, hall, hb⟩ := hrel
    have HA := Lib.hid hall
    clear hall
    by_cases hlt : k < n
    · obtain ⟨b, off, s, rfl, hx, _, hbl, c0, c1⟩ := ChartStep.at (h.below hb) hlt
      have HX := Lib.hid hx
      have hsz := hb.size
      have hk0 : (0 : Int) ≤ (k : Int) := by omega
      have hk1 : (k : Int) < (n : Int) := by omega
      clear hx
      obtain ⟨W, hW⟩ : ∃ W : World, W = wr.alloc (.cells #[.int .i64 s.radius, .int .i64 s.load] 162) := ⟨_, rfl⟩
      have hbW : Below wr.heap.size wr W := by rw [hW]; exact (Below.refl _ _).alloc (Nat.le_refl _) _
      have hbB : Below w.heap.size w W := hb.trans (hbW.mono hsz)
      have t0 : W.cell? ⟨wr.heap.size, 0, none⟩ = some (.int .i64 s.radius) := by rw [hW]; simp
      have t1 : W.cell? ⟨wr.heap.size, 1, none⟩ = some (.int .i64 s.load) := by rw [hW]; simp
      cases h1 : inB s.radius 1 1000
      · have HB : Hid (chartOk xs = false) := chartOk_bad HX.out (by rw [h1]; rfl)
        go_wp2_with fail
        rw [← hW]
        clear hW c0 c1
        go_wp2_with (go_at_call 77; refine (within_any _ _ _ _).mono ?_; rintro e w1 ⟨rfl, rfl⟩)
        go_ret
        exact ⟨by rw [HB.out]; rfl, hbB⟩
      · cases h2 : inB s.load 0 50000
        · have HB : Hid (chartOk xs = false) := chartOk_bad HX.out (by rw [h1, h2]; rfl)
          go_wp2_with fail
          rw [← hW]
          clear hW c0 c1
          go_wp2_with (go_at_call 77; refine (within_any _ _ _ _).mono ?_; rintro e w1 ⟨rfl, rfl⟩)
          go_ret
          exact ⟨by rw [HB.out]; rfl, hbB⟩
        · have HB : Hid (stepAt xs k = upB xs k s) := by show _ = _; rw [stepAt_of HX.out, h1, h2]; rfl
          have HC : Hid (upB xs k s = false → chartOk xs = false) := fun hq => chartOk_bad HX.out (by rw [h1, h2, hq]; rfl)
          rcases Nat.eq_zero_or_pos k with rfl | hkp
          · simp only [Nat.zero_mul, Nat.add_zero] at c0 c1
            go_wp2_with fail
            rw [← hW]
            clear hW c0 c1
            go_wp2_with (go_at_call 77; refine (within_any _ _ _ _).mono ?_; rintro e w1 ⟨rfl, rfl⟩)
            go_quiet (fail)
            go_wp2
            go_roundw
            case rel => exact ⟨1, by omega, by go_num, allTo_step HA.out HB.out, bel_drewN hbB _⟩
            case measure => simp [intOf]; omega
          · obtain ⟨j, rfl⟩ : ∃ j, k = j + 1 := ⟨k - 1, by omega⟩
            obtain ⟨b4, off4, r, e4, hx4, _, _, d0, d1⟩ := ChartStep.at (h.below hbB) (show j < n by omega)
            cases e4
            have HU : Hid (upB xs (j + 1) s = (decide (r.radius < s.radius) && decide (s.load ≤ r.load))) := upB_succ hx4
            have hm0 : (0 : Int) ≤ (j : Int) := by omega
            have hm1 : (j : Int) < (n : Int) := by omega
            have ew : IntKind.i64.wrap (j : Int) = (j : Int) := IntWalk.i64_in _ ⟨by omega, by omega⟩
            clear hx4
            by_cases hr : s.radius ≤ r.radius
            · have HQ := Lib.hid (HC.out (by rw [HU.out]; simp; omega))
              clear HC
              go_wp2_with fail
              rw [← hW]
              clear hW c0 c1
              go_wp2_with (go_at_call 77; refine (within_any _ _ _ _).mono ?_; rintro e w1 ⟨rfl, rfl⟩)
              go_quiet (fail)
              go_wp2
              go_ret
              exact ⟨by rw [HQ.out]; rfl, bel_drewN hbB _⟩
            · have hr2 : r.radius < s.radius := by omega
              have hr3 : decide (s.radius ≤ r.radius) = false := by simpa using hr2
              by_cases hl : r.load < s.load
              · have HQ := Lib.hid (HC.out (by rw [HU.out]; simp; omega))
                clear HC
                go_wp2_with fail
                rw [← hW]
                clear hW c0 c1
                go_wp2_with (go_at_call 77; refine (within_any _ _ _ _).mono ?_; rintro e w1 ⟨rfl, rfl⟩)
                go_quiet (fail)
                go_wp2
                go_ret
                exact ⟨by rw [HQ.out]; rfl, bel_drewN hbB _⟩
              · have hl2 : s.load ≤ r.load := by omega
                have hl3 : decide (r.load < s.load) = false := by simpa using hl2
                have HQ : Hid (upB xs (j + 1) s = true) := by show _ = _; rw [HU.out]; simp; omega
                clear HC hl hr
                go_wp2_with fail
                rw [← hW]
                clear hW c0 c1
                go_wp2_with (go_at_call 77; refine (within_any _ _ _ _).mono ?_; rintro e w1 ⟨rfl, rfl⟩)
                go_quiet (fail)
                clear ew hr3 hl3
                go_wp2
                go_roundw
                case rel => exact ⟨j + 1 + 1, by omega, by go_num, allTo_step HA.out (by rw [HB.out, HQ.out]), bel_drewN hbB _⟩
                case measure => simp [intOf]; omega
    · obtain rfl : k = n := by omega
      have HE : Hid (chartOk xs = inB (k : Int) 1 20) := chartOk_end HL.out HA.out
      by_cases h1 : 1 ≤ (k : Int)
      · have HE2 : Hid (chartOk xs = decide ((k : Int) ≤ 20)) := by show _ = _; rw [HE.out]; unfold inB; simp only [h1, decide_true, Bool.true_and]
        go_wp2
        go_ret
        exact ⟨by rw [HE2.out]; rfl, hb⟩
      · have HE2 : Hid (chartOk xs = false) := by show _ = _; rw [HE.out]; unfold inB; simp only [h1, decide_false, Bool.false_and]
        go_wp2
        go_ret
        exact ⟨by rw [HE2.out]; rfl, hb⟩

set_option maxRecDepth 100000 in
set_option maxHeartbeats 1600000 in
theorem l03Ok_any (A : Option Addr) (n c : Nat) (xs : List ChartStep) (w : World) (lo : Nat) (h : Arr ChartStep.cs 2 w lo w.heap.size A n xs) (hn : n ≤ 9223372036854775807) :
    Calls Tryd.prog 83 #[.slice A n c] w (Quiet (.bool (chartOk xs)) w) := by
  have HL := Lib.hid h.1
  go_enter Tryd.func83, Tryd.ntmps83
  go_wp2
  go_loopw [3] (fun i wr => ∃ k : Nat, k ≤ n ∧ i = .int .i64 k ∧ allTo (stepAt xs) k = true ∧ ∃ q, wr = w.drewN q) (fun i _ => n - (intOf i).toNat)
  case atStart => exact ⟨0, Nat.zero_le _, rfl, rfl, 0, rfl⟩
  case round =>
    obtain ⟨k, hk, rfl, hall, N, rfl⟩ := hrel
    have HA := Lib.hid hall
    clear hall
    by_cases hlt : k < n
    · obtain ⟨b, off, s, rfl, hx, _, hbl, c0, c1⟩ := ChartStep.at h hlt
      have HX := Lib.hid hx
      have hk0 : (0 : Int) ≤ (k : Int) := by omega
      have hk1 : (k : Int) < (n : Int) := by omega
      clear hx
      cases h1 : inB s.radius 1 1000
      · have HB : Hid (chartOk xs = false) := chartOk_bad HX.out (by rw [h1]; rfl)
        go_wp2_with (go_at_call 82; refine (l00In_any _ _ _ _).mono ?_; rintro e w1 ⟨rfl, rfl⟩)
        go_ret
        exact ⟨by rw [HB.out]; rfl, _, rfl⟩
      · cases h2 : inB s.load 0 50000
        · have HB : Hid (chartOk xs = false) := chartOk_bad HX.out (by rw [h1, h2]; rfl)
          go_wp2_with (go_at_call 82; refine (l00In_any _ _ _ _).mono ?_; rintro e w1 ⟨rfl, rfl⟩)
          go_ret
          exact ⟨by rw [HB.out]; rfl, _, rfl⟩
        · have HB : Hid (stepAt xs k = upB xs k s) := by show _ = _; rw [stepAt_of HX.out, h1, h2]; rfl
          have HC : Hid (upB xs k s = false → chartOk xs = false) := fun hq => chartOk_bad HX.out (by rw [h1, h2, hq]; rfl)
          rcases Nat.eq_zero_or_pos k with rfl | hkp
          · simp only [Nat.zero_mul, Nat.add_zero] at c0 c1
            go_wp2_with (go_at_call 82; refine (l00In_any _ _ _ _).mono ?_; rintro e w1 ⟨rfl, rfl⟩)
            go_quiet (fail)
            go_wp2
            go_roundw
            case rel => exact ⟨1, by omega, by go_num, allTo_step HA.out HB.out, by first | exact ⟨_, rfl⟩ | exact ⟨_, World.drewN_drewN _ _ _⟩⟩
            case measure => simp [intOf]; omega
          · obtain ⟨j, rfl⟩ : ∃ j, k = j + 1 := ⟨k - 1, by omega⟩
            obtain ⟨b4, off4, r, e4, hx4, _, _, d0, d1⟩ := ChartStep.at h (show j < n by omega)
            cases e4
            have HU : Hid (upB xs (j + 1) s = (decide (r.radius < s.radius) && decide (s.load ≤ r.load))) := upB_succ hx4
            have hm0 : (0 : Int) ≤ (j : Int) := by omega
            have hm1 : (j : Int) < (n : Int) := by omega
            have ew : IntKind.i64.wrap (j : Int) = (j : Int) := IntWalk.i64_in _ ⟨by omega, by omega⟩
            clear hx4
            by_cases hr : s.radius ≤ r.radius
            · have HQ := Lib.hid (HC.out (by rw [HU.out]; simp; omega))
              clear HC
              go_wp2_with (go_at_call 82; refine (l00In_any _ _ _ _).mono ?_; rintro e w1 ⟨rfl, rfl⟩)
              go_quiet (fail)
              go_wp2
              go_ret
              exact ⟨by rw [HQ.out]; rfl, by first | exact ⟨_, rfl⟩ | exact ⟨_, World.drewN_drewN _ _ _⟩⟩
            · have hr2 : r.radius < s.radius := by omega
              have hr3 : decide (s.radius ≤ r.radius) = false := by simpa using hr2
              by_cases hl : r.load < s.load
              · have HQ := Lib.hid (HC.out (by rw [HU.out]; simp; omega))
                clear HC
                go_wp2_with (go_at_call 82; refine (l00In_any _ _ _ _).mono ?_; rintro e w1 ⟨rfl, rfl⟩)
                go_quiet (fail)
                go_wp2
                go_ret
                exact ⟨by rw [HQ.out]; rfl, by first | exact ⟨_, rfl⟩ | exact ⟨_, World.drewN_drewN _ _ _⟩⟩
              · have hl2 : s.load ≤ r.load := by omega
                have hl3 : decide (r.load < s.load) = false := by simpa using hl2
                have HQ : Hid (upB xs (j + 1) s = true) := by show _ = _; rw [HU.out]; simp; omega
                clear HC hl hr
                go_wp2_with (go_at_call 82; refine (l00In_any _ _ _ _).mono ?_; rintro e w1 ⟨rfl, rfl⟩)
                go_quiet (fail)
                clear ew hr3 hl3
                go_wp2
                go_roundw
                case rel => exact ⟨j + 1 + 1, by omega, by go_num, allTo_step HA.out (by rw [HB.out, HQ.out]), by first | exact ⟨_, rfl⟩ | exact ⟨_, World.drewN_drewN _ _ _⟩⟩
                case measure => simp [intOf]; omega
    · obtain rfl : k = n := by omega
      have HE : Hid (chartOk xs = inB (k : Int) 1 20) := chartOk_end HL.out HA.out
      go_wp2_with (go_at_call 82; refine (l00In_any _ _ _ _).mono ?_; rintro e w1 ⟨rfl, rfl⟩)
      go_ret
      exact ⟨by rw [HE.out]; rfl, _, rfl⟩
end Go.Proofs.YtkegncanmfmmmaaDoor
/- XCharts2: Charts: stepFor, loadAt, ceil of the program; l03Find, l03Load, l03Up, l03Last of the reference. -/
namespace Go.Proofs.YtkegncanmfmmmaaDoor
open Go.RowKit
set_option linter.unusedVariables false

set_option maxHeartbeats 800000 in
theorem indexChartStep_any (A : Option Addr) (n c : Nat) (ps : List ChartStep) (w : World) (lo : Nat) (h : Arr ChartStep.cs 2 w lo w.heap.size A n ps) (hn : n ≤ 9223372036854775807) (q : ChartStep → Bool) (g : Addr)
    (hf : ∀ (p : ChartStep) (W : World), p ∈ ps → Below w.heap.size w W → Calls Tryd.prog 150 #[.agg #[.int .i64 p.radius, .int .i64 p.load], .pointer (some g)] W fun e W' => e = .returned (.bool (q p)) ∧ Below W.heap.size W W') :
    Calls Tryd.prog 149 #[.slice A n c, .func (.func 150) #[] #[.pointer (some g)]] w fun e w' => e = .returned (.int .i64 (fIdx q ps)) ∧ Below w.heap.size w w' := by
  have HF := Lib.hid hf
  clear hf
  go_enter Tryd.func149, Tryd.ntmps149
  go_wp2
  go_loopw [8] (fun i wr => ∃ k : Nat, k ≤ n ∧ i = .int .i64 k ∧ noTo q ps k = true ∧ Below w.heap.size w wr) (fun i _ => n - (intOf i).toNat)
  case atStart => exact ⟨0, Nat.zero_le _, rfl, rfl, Below.refl _ _⟩
  case round =>
    obtain ⟨k, hk, rfl, hno, hb⟩ := hrel
    have HN := Lib.hid hno
    clear hno
    by_cases hlt : k < n
    · obtain ⟨b, off, p, rfl, hx, _, hbl, c0, c1⟩ := ChartStep.at (h.below hb) hlt
      have HX := Lib.hid hx
      clear hx
      cases hq : q p
      · have HQ := Lib.hid hq
        go_wp2_with (go_at_call 150; refine (HF.out p _ (List.mem_of_getElem? HX.out) hb).mono ?_; rintro e w1 ⟨rfl, hb1⟩)
        go_roundw
        case rel => exact ⟨k + 1, by omega, by go_num, noTo_step HN.out HX.out HQ.out, hb.trans (hb1.mono hb.size)⟩
        case measure => simp [intOf]; omega
      · have HQ := Lib.hid hq
        go_wp2_with (go_at_call 150; refine (HF.out p _ (List.mem_of_getElem? HX.out) hb).mono ?_; rintro e w1 ⟨rfl, hb1⟩)
        go_ret
        exact ⟨by rw [fIdx_hit HN.out HX.out HQ.out]; rfl, hb.trans (hb1.mono hb.size)⟩
    · obtain rfl : k = n := by omega
      have HE : Hid (fIdx q ps = -1) := fIdx_none (by rw [h.1]; exact HN.out)
      go_wp2
      go_ret
      exact ⟨by rw [HE.out]; rfl, hb⟩

theorem reach_any (s : ChartStep) (r : Int) (g : Nat) (W : World) (hg : W.cell? ⟨g, 0, none⟩ = some (.int .i64 r)) :
    Calls Tryd.prog 150 #[.agg #[.int .i64 s.radius, .int .i64 s.load], .pointer (some ⟨g, 0, none⟩)] W fun e W' => e = .returned (.bool (reachB r s)) ∧ Below W.heap.size W W' := by
  have hne := World.block_lt_of_cell? W _ hg
  simp only at hne
  have hg2 : ∀ o, (W.alloc o).cell? ⟨g, 0, none⟩ = some (.int .i64 r) := fun o => (World.cell?_alloc_lt W o _ hne).trans hg
  go_enter Tryd.func150, Tryd.ntmps150
  go_wp2
  go_ret
  exact ⟨rfl, (Below.refl _ _).alloc (Nat.le_refl _) _⟩
set_option maxHeartbeats 800000 in
theorem stepFor_any (A : Option Addr) (n c : Nat) (xs : List ChartStep) (r : Int) (w : World) (lo : Nat) (h : Arr ChartStep.cs 2 w lo w.heap.size A n xs) (hn : n ≤ 9223372036854775807) :
    Calls Tryd.prog 123 #[.slice A n c, .int .i64 r] w fun e w' => e = .returned (.int .i64 (fIdx (reachB r) xs)) ∧ Below w.heap.size w w' := by
  have hmf : ∀ (fn : Fn) (first cap : Array Value) (W : World), (Instr.makeFunc fn first cap).run Tryd.prog W = .ok (.func fn first cap) W := fun _ _ _ _ => rfl
  go_enter Tryd.func123, Tryd.ntmps123
  go_wp2_with fail
  obtain ⟨W, hW⟩ : ∃ W : World, W = w.alloc (.cells #[.int .i64 r] 2) := ⟨_, rfl⟩
  have hb : Below w.heap.size w W := by rw [hW]; exact (Below.refl _ _).alloc (Nat.le_refl _) _
  have hlt : w.heap.size < W.heap.size := by rw [hW]; simp
  have t0 : W.cell? ⟨w.heap.size, 0, none⟩ = some (.int .i64 r) := by rw [hW]; simp
  rw [← hW]
  clear hW
  refine (indexChartStep_any A n c xs W lo ((h.below hb).more hb.size) hn (reachB r) ⟨w.heap.size, 0, none⟩ (fun p V hp hV => reach_any p r w.heap.size V ((hV.cell (p := ⟨w.heap.size, 0, none⟩) hlt).trans t0))).mono ?_
  rintro e w1 ⟨rfl, hb1⟩
  clear t0
  go_wp2
  go_ret
  exact ⟨rfl, hb.trans (hb1.mono hb.size)⟩

set_option maxHeartbeats 800000 in
theorem l03Find_any (A : Option Addr) (n c : Nat) (xs : List ChartStep) (r : Int) (w : World) (lo hi : Nat) (h : Arr ChartStep.cs 2 w lo hi A n xs) (hn : n ≤ 9223372036854775807) :
    Calls Tryd.prog 126 #[.slice A n c, .int .i64 r] w fun e w' => e = .returned (.int .i64 (fIdx (reachB r) xs)) ∧ w = w' := by
  have HL := Lib.hid h.1
  go_enter Tryd.func126, Tryd.ntmps126
  go_wp2
  go_loop [5] (fun i => ∃ k : Nat, k ≤ n ∧ i = .int .i64 k ∧ noTo (reachB r) xs k = true) (fun i => n - (intOf i).toNat)
  case atStart => exact ⟨0, Nat.zero_le _, rfl, rfl⟩
  case round =>
    obtain ⟨k, hk, rfl, hno⟩ := hrel
    have HN := Lib.hid hno
    clear hno
    by_cases hlt : k < n
    · obtain ⟨b, off, s, rfl, hx, _, hbl, c0, c1⟩ := ChartStep.at h hlt
      have HX := Lib.hid hx
      have hk0 : (0 : Int) ≤ (k : Int) := by omega
      have hk1 : (k : Int) < (n : Int) := by omega
      clear hx
      by_cases hq : r ≤ s.radius
      · have HE : Hid (fIdx (reachB r) xs = (k : Int)) := fIdx_hit HN.out HX.out (decide_eq_true hq)
        go_wp2
        go_ret
        exact ⟨by rw [HE.out]; rfl, rfl⟩
      · have HQ : Hid (reachB r s = false) := decide_eq_false hq
        go_wp2
        go_round
        case rel => exact ⟨k + 1, by omega, by go_num, noTo_step HN.out HX.out HQ.out⟩
        case measure => simp [intOf]; omega
    · obtain rfl : k = n := by omega
      have HE : Hid (fIdx (reachB r) xs = -1) := fIdx_none (by rw [HL.out]; exact HN.out)
      go_wp2
      go_ret
      exact ⟨by rw [HE.out]; rfl, rfl⟩

theorem ceil_any (a d : Int) (ha : 0 ≤ a) (ha2 : a ≤ 1000000000000) (hd : 1 ≤ d) (hd2 : d ≤ 1000000000000) (w : World) :
    Calls Tryd.prog 124 #[.int .i64 a, .int .i64 d] w fun e w' => e = .returned (.int .i64 (cdiv a d)) ∧ w = w' := by
  go_enter Tryd.func124, Tryd.ntmps124
  go_wp2
  go_ret
  exact ⟨rfl, rfl⟩
theorem l03Up_any (a d : Int) (ha : 0 ≤ a) (ha2 : a ≤ 1000000000000) (hd : 1 ≤ d) (hd2 : d ≤ 1000000000000) (w : World) :
    Calls Tryd.prog 127 #[.int .i64 a, .int .i64 d] w fun e w' => e = .returned (.int .i64 (cdiv a d)) ∧ w = w' := by
  go_enter Tryd.func127, Tryd.ntmps127
  go_wp2
  go_ret
  exact ⟨rfl, rfl⟩
theorem l03Last_any (A : Option Addr) (n c : Nat) (xs : List ChartStep) (w : World) (lo hi : Nat) (h : Arr ChartStep.cs 2 w lo hi A n xs) (hn0 : 0 < n) (hn : n ≤ 9223372036854775807) :
    Calls Tryd.prog 84 #[.slice A n c] w fun e w' => e = .returned (.int .i64 (lastR xs)) ∧ w = w' := by
  obtain ⟨m, rfl⟩ : ∃ m, n = m + 1 := ⟨n - 1, by omega⟩
  obtain ⟨b, off, s, rfl, hx, _, hbl, c0, c1⟩ := ChartStep.at h (show m < m + 1 by omega)
  have H : Hid (lastR xs = s.radius) := by show _ = _; unfold lastR; rw [h.1, Nat.add_sub_cancel, hx]
  have hm0 : (0 : Int) ≤ (m : Int) := by omega
  have hm1 : (m : Int) < ((m + 1 : Nat) : Int) := by omega
  clear hx h
  go_enter Tryd.func84, Tryd.ntmps84
  go_wp2
  go_ret
  exact ⟨by rw [H.out]; rfl, rfl⟩
end Go.Proofs.YtkegncanmfmmmaaDoor
/- XCharts3: Charts: loadAt of the program, l03Load of the reference: both tell ldI. -/
namespace Go.Proofs.YtkegncanmfmmmaaDoor
open Go.RowKit
set_option linter.unusedVariables false

set_option maxRecDepth 100000 in
set_option maxHeartbeats 1600000 in
theorem l03Load_any (A : Option Addr) (n c : Nat) (xs : List ChartStep) (r : Int) (w : World) (lo hi : Nat) (h : Arr ChartStep.cs 2 w lo hi A n xs) (hn : n ≤ 9223372036854775807) (hok : chartOk xs = true) (hr0 : -1000000 ≤ r) (hr : r ≤ 1000000) :
    Calls Tryd.prog 85 #[.slice A n c, .int .i64 r] w (Quiet (.int .i64 (ldI xs r)) w) := by
  rcases ldI_cases hok r with ⟨h1, h2⟩ | ⟨s, h0, h1, h2, h3, h4⟩ | ⟨j, a, b, ha, hb, h1, hB, h2⟩
  · have H := Lib.hid h2
    have H1 := Lib.hid h1
    clear h1 h2 hok
    go_enter Tryd.func85, Tryd.ntmps85
    go_wp2_with fail
    refine (l03Find_any A n c xs r _ lo hi h hn).mono ?_
    rintro e w1 ⟨rfl, rfl⟩
    rw [H1.out]
    go_wp2
    go_ret
    exact ⟨by rw [H.out]; rfl, 0, rfl⟩
  · have H := Lib.hid h2
    have H1 := Lib.hid h1
    have hn0 : 0 < n := by rw [← h.1]; exact (List.getElem?_eq_some_iff.1 h0).1
    obtain ⟨b4, off4, x, rfl, hx4, _, _, d0, d1⟩ := ChartStep.at h hn0
    obtain rfl : x = s := by rw [hx4] at h0; exact Option.some.inj h0
    simp only [Nat.zero_mul, Nat.add_zero] at d0 d1
    clear h1 h2 hok h0 hx4
    have hi0 : (0 : Int) < (n : Int) := by omega
    go_enter Tryd.func85, Tryd.ntmps85
    go_wp2_with fail
    refine (l03Find_any (some ⟨b4, off4, none⟩) n c xs r _ lo hi h hn).mono ?_
    rintro e w1 ⟨rfl, rfl⟩
    rw [H1.out]
    go_wp2
    go_ret
    exact ⟨by rw [H.out]; rfl, 0, rfl⟩
  · have H := Lib.hid h2
    have H1 := Lib.hid h1
    have hjn : j + 1 < n := by rw [← h.1]; exact (List.getElem?_eq_some_iff.1 hb).1
    obtain ⟨b4, off4, x, rfl, hx4, _, _, d0, d1⟩ := ChartStep.at h (show j < n by omega)
    obtain rfl : x = a := by rw [hx4] at ha; exact Option.some.inj ha
    obtain ⟨b5, off5, y, e5, hx5, _, _, f0, f1⟩ := ChartStep.at h hjn
    cases e5
    obtain rfl : y = b := by rw [hx5] at hb; exact Option.some.inj hb
    obtain ⟨p1, p2, p3⟩ := hB.prod
    obtain ⟨k1, k2⟩ := hB.cdiv
    obtain ⟨r1, r2⟩ := hB.ra; obtain ⟨r3, r4⟩ := hB.rb; obtain ⟨r5, r6⟩ := hB.la; have r7 := hB.lb
    clear h1 h2 hok ha hb hx4 hx5
    have hi0 : (0 : Int) ≤ (j : Int) := by omega
    have hi1 : (j : Int) < (n : Int) := by omega
    have hi2 : (((j + 1 : Nat)) : Int) < (n : Int) := by omega
    have hi3 : (0 : Int) < (((j + 1 : Nat)) : Int) := by omega
    go_enter Tryd.func85, Tryd.ntmps85
    go_wp2_with fail
    refine (l03Find_any (some ⟨b4, off4, none⟩) n c xs r _ lo hi h hn).mono ?_
    rintro e w1 ⟨rfl, rfl⟩
    rw [H1.out]
    go_wp2
    have e1 : IntKind.i64.wrap (x.load - y.load) = x.load - y.load := IntWalk.i64_in _ ⟨by omega, by omega⟩
    have e2 : IntKind.i64.wrap (r - x.radius) = r - x.radius := IntWalk.i64_in _ ⟨by omega, by omega⟩
    have e3 : IntKind.i64.wrap ((x.load - y.load) * (r - x.radius)) = (x.load - y.load) * (r - x.radius) := IntWalk.i64_in _ ⟨by omega, by omega⟩
    have e4 : IntKind.i64.wrap (y.radius - x.radius) = y.radius - x.radius := IntWalk.i64_in _ ⟨by omega, by omega⟩
    go_quiet ((go_at_call 127; exact quiet_left (l03Up_any _ _ p1 (by omega) (by omega) (by omega) _)))
    go_wp2
    go_ret
    exact ⟨by rw [H.out]; rfl, by first | exact ⟨_, rfl⟩ | exact ⟨_, World.drewN_drewN _ _ _⟩⟩

/-- what loadAt hands back for a load, -1 for none -/
def ldRet (v : Int) : Value := .tuple #[.int .i64 (if v < 0 then 0 else v), .bool (decide (0 ≤ v))]
theorem ldRet_no {v : Int} (h : v < 0) : ldRet v = .tuple #[.int .i64 0, .bool false] := by unfold ldRet; rw [if_pos h, decide_eq_false (by omega)]
theorem ldRet_yes {v : Int} (h : 0 ≤ v) : ldRet v = .tuple #[.int .i64 v, .bool true] := by unfold ldRet; rw [if_neg (by omega), decide_eq_true h]
set_option maxRecDepth 100000 in
set_option maxHeartbeats 1600000 in
theorem loadAt_any (A : Option Addr) (n c : Nat) (xs : List ChartStep) (r : Int) (w : World) (lo : Nat) (h : Arr ChartStep.cs 2 w lo w.heap.size A n xs) (hn : n ≤ 9223372036854775807) (hok : chartOk xs = true) (hr0 : -1000000 ≤ r) (hr : r ≤ 1000000) :
    Calls Tryd.prog 78 #[.slice A n c, .int .i64 r] w fun e w' => e = .returned (ldRet (ldI xs r)) ∧ Below w.heap.size w w' := by
  rcases ldI_cases hok r with ⟨h1, h2⟩ | ⟨s, h0, h1, h2, h3, h4⟩ | ⟨j, a, b, ha, hb, h1, hB, h2⟩
  · have H := Lib.hid h2
    have H1 := Lib.hid h1
    clear h1 h2 hok
    go_enter Tryd.func78, Tryd.ntmps78
    go_wp2_with fail
    refine (stepFor_any A n c xs r _ lo h hn).mono ?_
    rintro e w1 ⟨rfl, hb1⟩
    rw [H1.out]
    go_wp2
    go_ret2
    exact ⟨by rw [H.out, ldRet_no (by omega)]; rfl, hb1⟩
  · have H := Lib.hid h2
    have H1 := Lib.hid h1
    have hn0 : 0 < n := by rw [← h.1]; exact (List.getElem?_eq_some_iff.1 h0).1
    obtain ⟨b4, off4, x, rfl, hx4, _, hbl, d0, d1⟩ := ChartStep.at h hn0
    obtain rfl : x = s := by rw [hx4] at h0; exact Option.some.inj h0
    simp only [Nat.zero_mul, Nat.add_zero] at d0 d1
    clear h1 h2 hok h0 hx4
    have hi0 : (0 : Int) < (n : Int) := by omega
    go_enter Tryd.func78, Tryd.ntmps78
    go_wp2_with fail
    refine (stepFor_any (some ⟨b4, off4, none⟩) n c xs r _ lo h hn).mono ?_
    rintro e w1 ⟨rfl, hb1⟩
    replace d1 := (hb1.cell (p := ⟨b4, off4 + 1, none⟩) hbl).trans d1
    rw [H1.out]
    go_wp2
    go_ret2
    exact ⟨by rw [H.out, ldRet_yes h3]; rfl, hb1⟩
  · have H := Lib.hid h2
    have H1 := Lib.hid h1
    have hjn : j + 1 < n := by rw [← h.1]; exact (List.getElem?_eq_some_iff.1 hb).1
    obtain ⟨b4, off4, x, rfl, hx4, _, hbl, d0, d1⟩ := ChartStep.at h (show j < n by omega)
    obtain rfl : x = a := by rw [hx4] at ha; exact Option.some.inj ha
    obtain ⟨b5, off5, y, e5, hx5, _, _, f0, f1⟩ := ChartStep.at h hjn
    cases e5
    obtain rfl : y = b := by rw [hx5] at hb; exact Option.some.inj hb
    obtain ⟨p1, p2, p3⟩ := hB.prod
    obtain ⟨k1, k2⟩ := hB.cdiv
    have hlow := hB.low
    obtain ⟨r1, r2⟩ := hB.ra; obtain ⟨r3, r4⟩ := hB.rb; obtain ⟨r5, r6⟩ := hB.la; have r7 := hB.lb
    clear h1 h2 hok ha hb hx4 hx5
    have hi0 : (0 : Int) ≤ (j : Int) := by omega
    have hi1 : (j : Int) < (n : Int) := by omega
    have hi2 : (((j + 1 : Nat)) : Int) < (n : Int) := by omega
    have hi3 : (0 : Int) < (((j + 1 : Nat)) : Int) := by omega
    go_enter Tryd.func78, Tryd.ntmps78
    go_wp2_with fail
    refine (stepFor_any (some ⟨b4, off4, none⟩) n c xs r _ lo h hn).mono ?_
    rintro e w1 ⟨rfl, hb1⟩
    replace d0 := (hb1.cell (p := ⟨b4, off4 + j * 2, none⟩) hbl).trans d0
    replace d1 := (hb1.cell (p := ⟨b4, off4 + j * 2 + 1, none⟩) hbl).trans d1
    replace f0 := (hb1.cell (p := ⟨b4, off4 + (j + 1) * 2, none⟩) hbl).trans f0
    replace f1 := (hb1.cell (p := ⟨b4, off4 + (j + 1) * 2 + 1, none⟩) hbl).trans f1
    have hsz := hb1.size
    rw [H1.out]
    have q0 : ∀ o, (w1.alloc o).cell? ⟨b4, off4 + j * 2, none⟩ = some (.int .i64 x.radius) := fun o => (World.cell?_alloc_lt _ _ _ (by dsimp only; omega)).trans d0
    have q1 : ∀ o, (w1.alloc o).cell? ⟨b4, off4 + j * 2 + 1, none⟩ = some (.int .i64 x.load) := fun o => (World.cell?_alloc_lt _ _ _ (by dsimp only; omega)).trans d1
    have q2 : ∀ o, (w1.alloc o).cell? ⟨b4, off4 + (j + 1) * 2, none⟩ = some (.int .i64 y.radius) := fun o => (World.cell?_alloc_lt _ _ _ (by dsimp only; omega)).trans f0
    have q3 : ∀ o, (w1.alloc o).cell? ⟨b4, off4 + (j + 1) * 2 + 1, none⟩ = some (.int .i64 y.load) := fun o => (World.cell?_alloc_lt _ _ _ (by dsimp only; omega)).trans f1
    have q4 : ∀ o o', ((w1.alloc o).alloc o').cell? ⟨b4, off4 + j * 2, none⟩ = some (.int .i64 x.radius) := fun o o' => (World.cell?_alloc_lt _ _ _ (by simp; omega)).trans (q0 o)
    have q5 : ∀ o o', ((w1.alloc o).alloc o').cell? ⟨b4, off4 + j * 2 + 1, none⟩ = some (.int .i64 x.load) := fun o o' => (World.cell?_alloc_lt _ _ _ (by simp; omega)).trans (q1 o)
    have q6 : ∀ o o', ((w1.alloc o).alloc o').cell? ⟨b4, off4 + (j + 1) * 2, none⟩ = some (.int .i64 y.radius) := fun o o' => (World.cell?_alloc_lt _ _ _ (by simp; omega)).trans (q2 o)
    have q7 : ∀ o o', ((w1.alloc o).alloc o').cell? ⟨b4, off4 + (j + 1) * 2 + 1, none⟩ = some (.int .i64 y.load) := fun o o' => (World.cell?_alloc_lt _ _ _ (by simp; omega)).trans (q3 o)
    have ej : IntKind.i64.wrap (j : Int) = (j : Int) := IntWalk.i64_in _ ⟨by omega, by omega⟩
    go_wp2
    go_region
    all_goals clear q0 q1 q2 q3 q4 q5 q6 q7 d0 d1 f0 f1 ej
    · obtain ⟨W2, hW2⟩ : ∃ W2 : World, W2 = ((w1.alloc (.cells #[.int .i64 x.radius, .int .i64 x.load] 162)).alloc (.cells #[.int .i64 y.radius, .int .i64 y.load] 162)).drew := ⟨_, rfl⟩
      rw [← hW2]
      have hb2 : Below w.heap.size w W2 := by rw [hW2]; exact ((hb1.alloc hsz _).alloc (by simp; omega) _).drew
      have m0 : W2.cell? ⟨w1.heap.size, 0, none⟩ = some (.int .i64 x.radius) := by rw [hW2]; show World.cell? ((w1.alloc _).alloc _) _ = _; rw [World.cell?_alloc_lt _ _ _ (by simp)]; simp
      have n0 : W2.cell? ⟨w1.heap.size + 1, 0, none⟩ = some (.int .i64 y.radius) := by rw [hW2]; show World.cell? ((w1.alloc _).alloc _) _ = _; exact (Blk.new_at (cs := #[.int .i64 y.radius, .int .i64 y.load]) (t := 162) rfl (by simp)).cell 0
      have m1 : W2.cell? ⟨w1.heap.size, 1, none⟩ = some (.int .i64 x.load) := by rw [hW2]; show World.cell? ((w1.alloc _).alloc _) _ = _; rw [World.cell?_alloc_lt _ _ _ (by simp)]; simp
      have n1 : W2.cell? ⟨w1.heap.size + 1, 1, none⟩ = some (.int .i64 y.load) := by rw [hW2]; show World.cell? ((w1.alloc _).alloc _) _ = _; exact (Blk.new_at (cs := #[.int .i64 y.radius, .int .i64 y.load]) (t := 162) rfl (by simp)).cell 1
      clear hW2
      have e1 : IntKind.i64.wrap (x.load - y.load) = x.load - y.load := IntWalk.i64_in _ ⟨by omega, by omega⟩
      have e2 : IntKind.i64.wrap (r - x.radius) = r - x.radius := IntWalk.i64_in _ ⟨by omega, by omega⟩
      have e3 : IntKind.i64.wrap ((x.load - y.load) * (r - x.radius)) = (x.load - y.load) * (r - x.radius) := IntWalk.i64_in _ ⟨by omega, by omega⟩
      have e4 : IntKind.i64.wrap (y.radius - x.radius) = y.radius - x.radius := IntWalk.i64_in _ ⟨by omega, by omega⟩
      go_wp2
      go_quiet ((go_at_call 124; exact quiet_left (ceil_any _ _ p1 (by omega) (by omega) (by omega) _)))
      go_wp2
      go_ret2
      exact ⟨by rw [H.out, ldRet_yes hlow.1]; rfl, bel_drewN hb2 _⟩
    · obtain ⟨W2, hW2⟩ : ∃ W2 : World, W2 = ((w1.alloc (.cells #[.int .i64 y.radius, .int .i64 y.load] 162)).alloc (.cells #[.int .i64 x.radius, .int .i64 x.load] 162)).drew := ⟨_, rfl⟩
      rw [← hW2]
      have hb2 : Below w.heap.size w W2 := by rw [hW2]; exact ((hb1.alloc hsz _).alloc (by simp; omega) _).drew
      have m0 : W2.cell? ⟨w1.heap.size, 0, none⟩ = some (.int .i64 y.radius) := by rw [hW2]; show World.cell? ((w1.alloc _).alloc _) _ = _; rw [World.cell?_alloc_lt _ _ _ (by simp)]; simp
      have n0 : W2.cell? ⟨w1.heap.size + 1, 0, none⟩ = some (.int .i64 x.radius) := by rw [hW2]; show World.cell? ((w1.alloc _).alloc _) _ = _; exact (Blk.new_at (cs := #[.int .i64 x.radius, .int .i64 x.load]) (t := 162) rfl (by simp)).cell 0
      have m1 : W2.cell? ⟨w1.heap.size, 1, none⟩ = some (.int .i64 y.load) := by rw [hW2]; show World.cell? ((w1.alloc _).alloc _) _ = _; rw [World.cell?_alloc_lt _ _ _ (by simp)]; simp
      have n1 : W2.cell? ⟨w1.heap.size + 1, 1, none⟩ = some (.int .i64 x.load) := by rw [hW2]; show World.cell? ((w1.alloc _).alloc _) _ = _; exact (Blk.new_at (cs := #[.int .i64 x.radius, .int .i64 x.load]) (t := 162) rfl (by simp)).cell 1
      clear hW2
      have e1 : IntKind.i64.wrap (x.load - y.load) = x.load - y.load := IntWalk.i64_in _ ⟨by omega, by omega⟩
      have e2 : IntKind.i64.wrap (r - x.radius) = r - x.radius := IntWalk.i64_in _ ⟨by omega, by omega⟩
      have e3 : IntKind.i64.wrap ((x.load - y.load) * (r - x.radius)) = (x.load - y.load) * (r - x.radius) := IntWalk.i64_in _ ⟨by omega, by omega⟩
      have e4 : IntKind.i64.wrap (y.radius - x.radius) = y.radius - x.radius := IntWalk.i64_in _ ⟨by omega, by omega⟩
      go_wp2
      go_quiet ((go_at_call 124; exact quiet_left (ceil_any _ _ p1 (by omega) (by omega) (by omega) _)))
      go_wp2
      go_ret2
      exact ⟨by rw [H.out, ldRet_yes hlow.1]; rfl, bel_drewN hb2 _⟩
end Go.Proofs.YtkegncanmfmmmaaDoor
/- XCranes: ValidCrane of the program, l04Ok of the reference: both say craneOk. -/
namespace Go.Proofs.YtkegncanmfmmmaaDoor
open Go.RowKit Go.Sort
set_option linter.unusedVariables false

abbrev CV := CraneV × List ChartStep
def craneHd (v : CraneV) : Bool := nmOk v.name && (plcB v.ax v.ay && (inB v.height 1 2000 && (inB v.jib 1 1000 && inB v.back 0 v.jib)))
def craneOk (c : CV) : Bool := craneHd c.1 && (chartOk c.2 && decide (lastR c.2 ≤ c.1.jib))
theorem craneOk_cases (c : CV) : (nmOk c.1.name = false ∧ craneOk c = false) ∨ (nmOk c.1.name = true ∧ plcB c.1.ax c.1.ay = false ∧ craneOk c = false) ∨ (nmOk c.1.name = true ∧ plcB c.1.ax c.1.ay = true ∧ inB c.1.height 1 2000 = false ∧ craneOk c = false) ∨
    (nmOk c.1.name = true ∧ plcB c.1.ax c.1.ay = true ∧ inB c.1.height 1 2000 = true ∧ inB c.1.jib 1 1000 = false ∧ craneOk c = false) ∨
    (nmOk c.1.name = true ∧ plcB c.1.ax c.1.ay = true ∧ inB c.1.height 1 2000 = true ∧ inB c.1.jib 1 1000 = true ∧ inB c.1.back 0 c.1.jib = false ∧ craneOk c = false) ∨
    (nmOk c.1.name = true ∧ plcB c.1.ax c.1.ay = true ∧ inB c.1.height 1 2000 = true ∧ inB c.1.jib 1 1000 = true ∧ inB c.1.back 0 c.1.jib = true ∧ chartOk c.2 = false ∧ craneOk c = false) ∨
    (nmOk c.1.name = true ∧ plcB c.1.ax c.1.ay = true ∧ inB c.1.height 1 2000 = true ∧ inB c.1.jib 1 1000 = true ∧ inB c.1.back 0 c.1.jib = true ∧ chartOk c.2 = true ∧ craneOk c = decide (lastR c.2 ≤ c.1.jib)) := by
  unfold craneOk craneHd
  cases nmOk c.1.name <;> cases plcB c.1.ax c.1.ay <;> cases inB c.1.height 1 2000 <;> cases inB c.1.jib 1 1000 <;> cases inB c.1.back 0 c.1.jib <;> cases chartOk c.2 <;> simp
structure CraneP (c : CV) : Prop where
  name : nmOk c.1.name = true
  at_ : Plc c.1.ax c.1.ay
  height : 1 ≤ c.1.height ∧ c.1.height ≤ 2000
  jib : 1 ≤ c.1.jib ∧ c.1.jib ≤ 1000
  back : 0 ≤ c.1.back ∧ c.1.back ≤ c.1.jib
  chart : chartOk c.2 = true
theorem craneOk_parts {c : CV} (h : craneOk c = true) : CraneP c := by
  unfold craneOk craneHd at h
  simp only [Bool.and_eq_true] at h
  obtain ⟨⟨h1, h2, h3, h4, h5⟩, h6, h7⟩ := h
  exact ⟨h1, plcB_iff h2, inB_true.1 h3, inB_true.1 h4, inB_true.1 h5, h6⟩
theorem lastR_at {xs : List ChartStep} {m : Nat} {s : ChartStep} (hl : xs.length = m + 1) (h : xs[m]? = some s) : lastR xs = s.radius := by unfold lastR; rw [hl, Nat.add_sub_cancel, h]


set_option maxRecDepth 100000 in
set_option maxHeartbeats 3200000 in
theorem validCrane_any (p : Crane) (w : World) (lo : Nat) (hp : p.v.name.size ≤ 9223372036854775807) (hr : Arr ChartStep.cs 2 w lo w.heap.size p.r.a p.r.n p.r.xs) (hn : p.r.n ≤ 9223372036854775807) :
    Calls Tryd.prog 75 #[.agg #[.string p.v.name, .int .i64 p.v.ax, .int .i64 p.v.ay, .int .i64 p.v.height, .int .i64 p.v.jib, .int .i64 p.v.back, .slice p.r.a p.r.n p.r.cap]] w fun e w' => e = .returned (.bool (craneOk p.val)) ∧ Below w.heap.size w w' := by
  obtain ⟨W, hW⟩ : ∃ W : World, W = w.alloc (.cells #[.string p.v.name, .int .i64 p.v.ax, .int .i64 p.v.ay, .int .i64 p.v.height, .int .i64 p.v.jib, .int .i64 p.v.back, .slice p.r.a p.r.n p.r.cap] 38) := ⟨_, rfl⟩
  have B0 : Below w.heap.size w W := by rw [hW]; exact (Below.refl _ _).alloc (Nat.le_refl _) _
  have P0 : Blk W w.heap.size 38 #[.string p.v.name, .int .i64 p.v.ax, .int .i64 p.v.ay, .int .i64 p.v.height, .int .i64 p.v.jib, .int .i64 p.v.back, .slice p.r.a p.r.n p.r.cap] := by rw [hW]; exact Blk.new _ _ _
  have s0 := P0.lt
  rcases craneOk_cases p.val with ⟨a1, ao⟩ | ⟨a1, a2, ao⟩ | ⟨a1, a2, a3, ao⟩ | ⟨a1, a2, a3, a4, ao⟩ | ⟨a1, a2, a3, a4, a5, ao⟩ | ⟨a1, a2, a3, a4, a5, a6, ao⟩ | ⟨a1, a2, a3, a4, a5, a6, ao⟩
  · have HO := Lib.hid ao
    clear ao
    simp only [Crane.val] at a1
    go_enter Tryd.func75, Tryd.ntmps75
    go_wp2_with fail
    rw [← hW]
    clear hW
    obtain ⟨d0, d1, d2, d3, d4, d5, d6⟩ := Crane.blk P0
    go_wp2_with fail
    refine (isName_any _ _ hp).mono ?_; rintro _ _ ⟨rfl, rfl⟩
    go_wp2
    go_ret
    exact ⟨by rw [HO.out]; rfl, B0⟩
  · have HO := Lib.hid ao
    clear ao
    simp only [Crane.val] at a1 a2
    go_enter Tryd.func75, Tryd.ntmps75
    go_wp2_with fail
    rw [← hW]
    clear hW
    obtain ⟨d0, d1, d2, d3, d4, d5, d6⟩ := Crane.blk P0
    go_wp2_with fail
    refine (isName_any _ _ hp).mono ?_; rintro _ _ ⟨rfl, rfl⟩
    go_wp2_with fail
    refine (validPlace_any _ _ _).mono ?_; rintro _ x1 ⟨rfl, h1⟩
    have B1 := B0.trans (h1.mono (by omega))
    have P1 := P0.bel h1
    have s1 := P1.lt
    clear d0 d1 d2 d3 d4 d5 d6 h1
    obtain ⟨d0, d1, d2, d3, d4, d5, d6⟩ := Crane.blk P1
    go_wp2
    go_ret
    exact ⟨by rw [HO.out]; rfl, B1⟩
  · have HO := Lib.hid ao
    clear ao
    simp only [Crane.val] at a1 a2 a3
    go_enter Tryd.func75, Tryd.ntmps75
    go_wp2_with fail
    rw [← hW]
    clear hW
    obtain ⟨d0, d1, d2, d3, d4, d5, d6⟩ := Crane.blk P0
    go_wp2_with fail
    refine (isName_any _ _ hp).mono ?_; rintro _ _ ⟨rfl, rfl⟩
    go_wp2_with fail
    refine (validPlace_any _ _ _).mono ?_; rintro _ x1 ⟨rfl, h1⟩
    have B1 := B0.trans (h1.mono (by omega))
    have P1 := P0.bel h1
    have s1 := P1.lt
    clear d0 d1 d2 d3 d4 d5 d6 h1
    obtain ⟨d0, d1, d2, d3, d4, d5, d6⟩ := Crane.blk P1
    go_wp2_with fail
    refine (within_any _ _ _ _).mono ?_; rintro _ _ ⟨rfl, rfl⟩
    go_wp2
    go_ret
    exact ⟨by rw [HO.out]; rfl, B1⟩
  · have HO := Lib.hid ao
    clear ao
    simp only [Crane.val] at a1 a2 a3 a4
    go_enter Tryd.func75, Tryd.ntmps75
    go_wp2_with fail
    rw [← hW]
    clear hW
    obtain ⟨d0, d1, d2, d3, d4, d5, d6⟩ := Crane.blk P0
    go_wp2_with fail
    refine (isName_any _ _ hp).mono ?_; rintro _ _ ⟨rfl, rfl⟩
    go_wp2_with fail
    refine (validPlace_any _ _ _).mono ?_; rintro _ x1 ⟨rfl, h1⟩
    have B1 := B0.trans (h1.mono (by omega))
    have P1 := P0.bel h1
    have s1 := P1.lt
    clear d0 d1 d2 d3 d4 d5 d6 h1
    obtain ⟨d0, d1, d2, d3, d4, d5, d6⟩ := Crane.blk P1
    go_wp2_with fail
    refine (within_any _ _ _ _).mono ?_; rintro _ _ ⟨rfl, rfl⟩
    go_wp2_with fail
    refine (within_any _ _ _ _).mono ?_; rintro _ _ ⟨rfl, rfl⟩
    go_wp2
    go_ret
    exact ⟨by rw [HO.out]; rfl, B1⟩
  · have HO := Lib.hid ao
    clear ao
    simp only [Crane.val] at a1 a2 a3 a4 a5
    go_enter Tryd.func75, Tryd.ntmps75
    go_wp2_with fail
    rw [← hW]
    clear hW
    obtain ⟨d0, d1, d2, d3, d4, d5, d6⟩ := Crane.blk P0
    go_wp2_with fail
    refine (isName_any _ _ hp).mono ?_; rintro _ _ ⟨rfl, rfl⟩
    go_wp2_with fail
    refine (validPlace_any _ _ _).mono ?_; rintro _ x1 ⟨rfl, h1⟩
    have B1 := B0.trans (h1.mono (by omega))
    have P1 := P0.bel h1
    have s1 := P1.lt
    clear d0 d1 d2 d3 d4 d5 d6 h1
    obtain ⟨d0, d1, d2, d3, d4, d5, d6⟩ := Crane.blk P1
    go_wp2_with fail
    refine (within_any _ _ _ _).mono ?_; rintro _ _ ⟨rfl, rfl⟩
    go_wp2_with fail
    refine (within_any _ _ _ _).mono ?_; rintro _ _ ⟨rfl, rfl⟩
    go_wp2_with fail
    refine (within_any _ _ _ _).mono ?_; rintro _ _ ⟨rfl, rfl⟩
    go_wp2
    go_ret
    exact ⟨by rw [HO.out]; rfl, B1⟩
  · have HO := Lib.hid ao
    clear ao
    simp only [Crane.val] at a1 a2 a3 a4 a5 a6
    have H6 := Lib.hid a6
    clear a6
    go_enter Tryd.func75, Tryd.ntmps75
    go_wp2_with fail
    rw [← hW]
    clear hW
    obtain ⟨d0, d1, d2, d3, d4, d5, d6⟩ := Crane.blk P0
    go_wp2_with fail
    refine (isName_any _ _ hp).mono ?_; rintro _ _ ⟨rfl, rfl⟩
    go_wp2_with fail
    refine (validPlace_any _ _ _).mono ?_; rintro _ x1 ⟨rfl, h1⟩
    have B1 := B0.trans (h1.mono (by omega))
    have P1 := P0.bel h1
    have s1 := P1.lt
    clear d0 d1 d2 d3 d4 d5 d6 h1
    obtain ⟨d0, d1, d2, d3, d4, d5, d6⟩ := Crane.blk P1
    go_wp2_with fail
    refine (within_any _ _ _ _).mono ?_; rintro _ _ ⟨rfl, rfl⟩
    go_wp2_with fail
    refine (within_any _ _ _ _).mono ?_; rintro _ _ ⟨rfl, rfl⟩
    go_wp2_with fail
    refine (within_any _ _ _ _).mono ?_; rintro _ _ ⟨rfl, rfl⟩
    have HC : Hid (∀ d os, Calls Tryd.prog 122 #[.slice p.r.a p.r.n p.r.cap] (grow (redrawn x1 d) os) fun e w' => e = .returned (.bool false) ∧ Below (grow (redrawn x1 d) os).heap.size (grow (redrawn x1 d) os) w') := by
      intro d os
      have hb9 := B1.trans ((below_regrown x1 d os).mono B1.size)
      have := validChart_any p.r.a p.r.n p.r.cap p.r.xs (grow (redrawn x1 d) os) lo ((hr.below hb9).more hb9.size) hn
      rwa [H6.out] at this
    have t3 := cell_regrown d3
    have t4 := cell_regrown d4
    have t6 := cell_regrown d6
    clear d0 d1 d2 d3 d4 d5 d6
    go_wp2
    refine wp_region_quiet_below (by kernel_rfl) (by kernel_rfl) ?_
    repeat (go_big_quiet_step (first | (go_at_call 122; exact Calls.regrown_of (HC.out _ _))))
    refine wpQuiet_nil ?_
    intro _ hw9
    obtain ⟨⟨dq, osq⟩, hw9⟩ := hw9
    subst hw9
    have hb1 := below_regrown x1 dq osq
    dsimp only at hb1 ⊢
    clear t3 t4 t6 HC
    generalize grow (redrawn x1 dq) osq = W2 at hb1 ⊢
    go_wp2
    go_ret
    exact ⟨by rw [HO.out]; rfl, B1.trans (hb1.mono B1.size)⟩
  · have HO := Lib.hid ao
    clear ao
    simp only [Crane.val] at a1 a2 a3 a4 a5 a6
    have H6 := Lib.hid a6
    clear a6
    go_enter Tryd.func75, Tryd.ntmps75
    go_wp2_with fail
    rw [← hW]
    clear hW
    obtain ⟨d0, d1, d2, d3, d4, d5, d6⟩ := Crane.blk P0
    go_wp2_with fail
    refine (isName_any _ _ hp).mono ?_; rintro _ _ ⟨rfl, rfl⟩
    go_wp2_with fail
    refine (validPlace_any _ _ _).mono ?_; rintro _ x1 ⟨rfl, h1⟩
    have B1 := B0.trans (h1.mono (by omega))
    have P1 := P0.bel h1
    have s1 := P1.lt
    clear d0 d1 d2 d3 d4 d5 d6 h1
    obtain ⟨d0, d1, d2, d3, d4, d5, d6⟩ := Crane.blk P1
    go_wp2_with fail
    refine (within_any _ _ _ _).mono ?_; rintro _ _ ⟨rfl, rfl⟩
    go_wp2_with fail
    refine (within_any _ _ _ _).mono ?_; rintro _ _ ⟨rfl, rfl⟩
    go_wp2_with fail
    refine (within_any _ _ _ _).mono ?_; rintro _ _ ⟨rfl, rfl⟩
    have HC : Hid (∀ d os, Calls Tryd.prog 122 #[.slice p.r.a p.r.n p.r.cap] (grow (redrawn x1 d) os) fun e w' => e = .returned (.bool true) ∧ Below (grow (redrawn x1 d) os).heap.size (grow (redrawn x1 d) os) w') := by
      intro d os
      have hb9 := B1.trans ((below_regrown x1 d os).mono B1.size)
      have := validChart_any p.r.a p.r.n p.r.cap p.r.xs (grow (redrawn x1 d) os) lo ((hr.below hb9).more hb9.size) hn
      rwa [H6.out] at this
    obtain ⟨m, hm⟩ : ∃ m, p.r.n = m + 1 := ⟨p.r.n - 1, by have := (chartOk_len H6.out).1; rw [hr.1] at this; omega⟩
    obtain ⟨b4, off4, s, ea, hx, _, hbl, g0, g1⟩ := ChartStep.at hr (show m < p.r.n by omega)
    have HLR : Hid (lastR p.r.xs = s.radius) := lastR_at (by rw [hr.1, hm]) hx
    have hbx : b4 < x1.heap.size := by have := B1.size; omega
    have G0 := cell_regrown ((B1.cell (p := ⟨b4, off4 + m * 2, none⟩) hbl).trans g0)
    have hm0 : (0 : Int) ≤ (m : Int) := by omega
    have hm1 : (m : Int) < ((m : Int) + 1) := by omega
    have hm2 : (m : Int) ≤ 9223372036854775807 := by omega
    have em : IntKind.i64.wrap (m : Int) = (m : Int) := IntWalk.i64_in _ ⟨by omega, by omega⟩
    rw [ea, hm] at d6 HC
    have hml : (m : Int) < (((m + 1 : Nat)) : Int) := by omega
    clear g0 g1 hx hm ea
    have t3 := cell_regrown d3
    have t4 := cell_regrown d4
    have t6 := cell_regrown d6
    clear d0 d1 d2 d3 d4 d5 d6
    have HD : Hid (decide (lastR p.val.2 ≤ p.val.1.jib) = decide (s.radius ≤ p.v.jib)) := by show _ = _; simp only [Crane.val, HLR.out]
    go_wp2
    refine wp_region_quiet_below (by kernel_rfl) (by kernel_rfl) ?_
    repeat (go_big_quiet_step (first | (go_at_call 122; exact Calls.regrown_of (HC.out _ _))))
    refine wpQuiet_nil ?_
    intro _ hw9
    obtain ⟨⟨dq, osq⟩, hw9⟩ := hw9
    subst hw9
    have hb1 := below_regrown x1 dq osq
    dsimp only at hb1 ⊢
    clear t3 t4 t6 HC G0
    generalize grow (redrawn x1 dq) osq = W2 at hb1 ⊢
    go_wp2
    go_ret
    exact ⟨by rw [HO.out, HD.out]; rfl, B1.trans (hb1.mono B1.size)⟩

set_option maxRecDepth 100000 in
set_option maxHeartbeats 3200000 in
theorem l04Ok_any (b off : Nat) (p : Crane) (w : World) (lo : Nat) (hp : p.v.name.size ≤ 9223372036854775807) (hr : Arr ChartStep.cs 2 w lo w.heap.size p.r.a p.r.n p.r.xs) (hn : p.r.n ≤ 9223372036854775807) (hbl : b < w.heap.size)
    (c0 : w.cell? ⟨b, off, none⟩ = some (.string p.v.name)) (c1 : w.cell? ⟨b, off + 1, none⟩ = some (.int .i64 p.v.ax)) (c2 : w.cell? ⟨b, off + 2, none⟩ = some (.int .i64 p.v.ay)) (c3 : w.cell? ⟨b, off + 3, none⟩ = some (.int .i64 p.v.height)) (c4 : w.cell? ⟨b, off + 4, none⟩ = some (.int .i64 p.v.jib)) (c5 : w.cell? ⟨b, off + 5, none⟩ = some (.int .i64 p.v.back)) (c6 : w.cell? ⟨b, off + 6, none⟩ = some (.slice p.r.a p.r.n p.r.cap)) :
    Calls Tryd.prog 36 #[.pointer (some ⟨b, off, none⟩)] w fun e w' => e = .returned (.bool (craneOk p.val)) ∧ Below w.heap.size w w' := by
  have B0 : Below w.heap.size w w := Below.refl _ _
  rcases craneOk_cases p.val with ⟨a1, ao⟩ | ⟨a1, a2, ao⟩ | ⟨a1, a2, a3, ao⟩ | ⟨a1, a2, a3, a4, ao⟩ | ⟨a1, a2, a3, a4, a5, ao⟩ | ⟨a1, a2, a3, a4, a5, a6, ao⟩ | ⟨a1, a2, a3, a4, a5, a6, ao⟩
  · have HO := Lib.hid ao
    clear ao
    simp only [Crane.val] at a1
    go_enter Tryd.func36, Tryd.ntmps36
    go_wp2_with fail
    refine (specName_any _ _ hp).mono ?_; rintro _ _ ⟨rfl, rfl⟩
    go_wp2
    go_ret
    exact ⟨by rw [HO.out]; rfl, B0⟩
  · have HO := Lib.hid ao
    clear ao
    simp only [Crane.val] at a1 a2
    go_enter Tryd.func36, Tryd.ntmps36
    go_wp2_with fail
    refine (specName_any _ _ hp).mono ?_; rintro _ _ ⟨rfl, rfl⟩
    go_wp2_with fail
    refine (l02Ok_any _ _ _).mono ?_; rintro _ x1 ⟨rfl, h1⟩
    have B1 := B0.trans (h1.mono (by have := B0.size; omega))
    replace c0 := (h1.cell (p := ⟨b, off, none⟩) (by have := B0.size; dsimp only; omega)).trans c0
    replace c1 := (h1.cell (p := ⟨b, off + 1, none⟩) (by have := B0.size; dsimp only; omega)).trans c1
    replace c2 := (h1.cell (p := ⟨b, off + 2, none⟩) (by have := B0.size; dsimp only; omega)).trans c2
    replace c3 := (h1.cell (p := ⟨b, off + 3, none⟩) (by have := B0.size; dsimp only; omega)).trans c3
    replace c4 := (h1.cell (p := ⟨b, off + 4, none⟩) (by have := B0.size; dsimp only; omega)).trans c4
    replace c5 := (h1.cell (p := ⟨b, off + 5, none⟩) (by have := B0.size; dsimp only; omega)).trans c5
    replace c6 := (h1.cell (p := ⟨b, off + 6, none⟩) (by have := B0.size; dsimp only; omega)).trans c6
    clear h1
    go_wp2
    go_ret
    exact ⟨by rw [HO.out]; rfl, B1⟩
  · have HO := Lib.hid ao
    clear ao
    simp only [Crane.val] at a1 a2 a3
    go_enter Tryd.func36, Tryd.ntmps36
    go_wp2_with fail
    refine (specName_any _ _ hp).mono ?_; rintro _ _ ⟨rfl, rfl⟩
    go_wp2_with fail
    refine (l02Ok_any _ _ _).mono ?_; rintro _ x1 ⟨rfl, h1⟩
    have B1 := B0.trans (h1.mono (by have := B0.size; omega))
    replace c0 := (h1.cell (p := ⟨b, off, none⟩) (by have := B0.size; dsimp only; omega)).trans c0
    replace c1 := (h1.cell (p := ⟨b, off + 1, none⟩) (by have := B0.size; dsimp only; omega)).trans c1
    replace c2 := (h1.cell (p := ⟨b, off + 2, none⟩) (by have := B0.size; dsimp only; omega)).trans c2
    replace c3 := (h1.cell (p := ⟨b, off + 3, none⟩) (by have := B0.size; dsimp only; omega)).trans c3
    replace c4 := (h1.cell (p := ⟨b, off + 4, none⟩) (by have := B0.size; dsimp only; omega)).trans c4
    replace c5 := (h1.cell (p := ⟨b, off + 5, none⟩) (by have := B0.size; dsimp only; omega)).trans c5
    replace c6 := (h1.cell (p := ⟨b, off + 6, none⟩) (by have := B0.size; dsimp only; omega)).trans c6
    clear h1
    go_wp2_with fail
    refine (l00In_any _ _ _ _).mono ?_; rintro _ _ ⟨rfl, rfl⟩
    go_wp2
    go_ret
    exact ⟨by rw [HO.out]; rfl, B1⟩
  · have HO := Lib.hid ao
    clear ao
    simp only [Crane.val] at a1 a2 a3 a4
    go_enter Tryd.func36, Tryd.ntmps36
    go_wp2_with fail
    refine (specName_any _ _ hp).mono ?_; rintro _ _ ⟨rfl, rfl⟩
    go_wp2_with fail
    refine (l02Ok_any _ _ _).mono ?_; rintro _ x1 ⟨rfl, h1⟩
    have B1 := B0.trans (h1.mono (by have := B0.size; omega))
    replace c0 := (h1.cell (p := ⟨b, off, none⟩) (by have := B0.size; dsimp only; omega)).trans c0
    replace c1 := (h1.cell (p := ⟨b, off + 1, none⟩) (by have := B0.size; dsimp only; omega)).trans c1
    replace c2 := (h1.cell (p := ⟨b, off + 2, none⟩) (by have := B0.size; dsimp only; omega)).trans c2
    replace c3 := (h1.cell (p := ⟨b, off + 3, none⟩) (by have := B0.size; dsimp only; omega)).trans c3
    replace c4 := (h1.cell (p := ⟨b, off + 4, none⟩) (by have := B0.size; dsimp only; omega)).trans c4
    replace c5 := (h1.cell (p := ⟨b, off + 5, none⟩) (by have := B0.size; dsimp only; omega)).trans c5
    replace c6 := (h1.cell (p := ⟨b, off + 6, none⟩) (by have := B0.size; dsimp only; omega)).trans c6
    clear h1
    go_wp2_with fail
    refine (l00In_any _ _ _ _).mono ?_; rintro _ _ ⟨rfl, rfl⟩
    go_wp2_with fail
    refine (l00In_any _ _ _ _).mono ?_; rintro _ _ ⟨rfl, rfl⟩
    go_wp2
    go_ret
    exact ⟨by rw [HO.out]; rfl, B1⟩
  · have HO := Lib.hid ao
    clear ao
    simp only [Crane.val] at a1 a2 a3 a4 a5
    go_enter Tryd.func36, Tryd.ntmps36
    go_wp2_with fail
    refine (specName_any _ _ hp).mono ?_; rintro _ _ ⟨rfl, rfl⟩
    go_wp2_with fail
    refine (l02Ok_any _ _ _).mono ?_; rintro _ x1 ⟨rfl, h1⟩
    have B1 := B0.trans (h1.mono (by have := B0.size; omega))
    replace c0 := (h1.cell (p := ⟨b, off, none⟩) (by have := B0.size; dsimp only; omega)).trans c0
    replace c1 := (h1.cell (p := ⟨b, off + 1, none⟩) (by have := B0.size; dsimp only; omega)).trans c1
    replace c2 := (h1.cell (p := ⟨b, off + 2, none⟩) (by have := B0.size; dsimp only; omega)).trans c2
    replace c3 := (h1.cell (p := ⟨b, off + 3, none⟩) (by have := B0.size; dsimp only; omega)).trans c3
    replace c4 := (h1.cell (p := ⟨b, off + 4, none⟩) (by have := B0.size; dsimp only; omega)).trans c4
    replace c5 := (h1.cell (p := ⟨b, off + 5, none⟩) (by have := B0.size; dsimp only; omega)).trans c5
    replace c6 := (h1.cell (p := ⟨b, off + 6, none⟩) (by have := B0.size; dsimp only; omega)).trans c6
    clear h1
    go_wp2_with fail
    refine (l00In_any _ _ _ _).mono ?_; rintro _ _ ⟨rfl, rfl⟩
    go_wp2_with fail
    refine (l00In_any _ _ _ _).mono ?_; rintro _ _ ⟨rfl, rfl⟩
    go_wp2_with fail
    go_wp2
    go_quiet ((first | (go_at_call 82; exact quiet_left (in_eq _ _ _ _ a5))))
    go_wp2
    go_ret
    exact ⟨by rw [HO.out]; rfl, bel_drewN B1 _⟩
  · have HO := Lib.hid ao
    clear ao
    simp only [Crane.val] at a1 a2 a3 a4 a5 a6
    have H6 := Lib.hid a6
    clear a6
    go_enter Tryd.func36, Tryd.ntmps36
    go_wp2_with fail
    refine (specName_any _ _ hp).mono ?_; rintro _ _ ⟨rfl, rfl⟩
    go_wp2_with fail
    refine (l02Ok_any _ _ _).mono ?_; rintro _ x1 ⟨rfl, h1⟩
    have B1 := B0.trans (h1.mono (by have := B0.size; omega))
    replace c0 := (h1.cell (p := ⟨b, off, none⟩) (by have := B0.size; dsimp only; omega)).trans c0
    replace c1 := (h1.cell (p := ⟨b, off + 1, none⟩) (by have := B0.size; dsimp only; omega)).trans c1
    replace c2 := (h1.cell (p := ⟨b, off + 2, none⟩) (by have := B0.size; dsimp only; omega)).trans c2
    replace c3 := (h1.cell (p := ⟨b, off + 3, none⟩) (by have := B0.size; dsimp only; omega)).trans c3
    replace c4 := (h1.cell (p := ⟨b, off + 4, none⟩) (by have := B0.size; dsimp only; omega)).trans c4
    replace c5 := (h1.cell (p := ⟨b, off + 5, none⟩) (by have := B0.size; dsimp only; omega)).trans c5
    replace c6 := (h1.cell (p := ⟨b, off + 6, none⟩) (by have := B0.size; dsimp only; omega)).trans c6
    clear h1
    go_wp2_with fail
    refine (l00In_any _ _ _ _).mono ?_; rintro _ _ ⟨rfl, rfl⟩
    go_wp2_with fail
    refine (l00In_any _ _ _ _).mono ?_; rintro _ _ ⟨rfl, rfl⟩
    go_wp2_with fail
    have HC : Hid (∀ N, Calls Tryd.prog 83 #[.slice p.r.a p.r.n p.r.cap] (x1.drewN N) (Quiet (.bool false) (x1.drewN N))) := by
      intro N
      have hb9 := bel_drewN B1 N
      have := l03Ok_any p.r.a p.r.n p.r.cap p.r.xs (x1.drewN N) lo ((hr.below hb9).more hb9.size) hn
      rwa [H6.out] at this
    go_wp2
    go_quiet ((first | (go_at_call 82; exact quiet_left (in_eq _ _ _ _ a5)) | (go_at_call 83; exact quiet_of (HC.out _))))
    go_wp2
    go_ret
    exact ⟨by rw [HO.out]; rfl, bel_drewN B1 _⟩
  · have HO := Lib.hid ao
    clear ao
    simp only [Crane.val] at a1 a2 a3 a4 a5 a6
    have H6 := Lib.hid a6
    clear a6
    go_enter Tryd.func36, Tryd.ntmps36
    go_wp2_with fail
    refine (specName_any _ _ hp).mono ?_; rintro _ _ ⟨rfl, rfl⟩
    go_wp2_with fail
    refine (l02Ok_any _ _ _).mono ?_; rintro _ x1 ⟨rfl, h1⟩
    have B1 := B0.trans (h1.mono (by have := B0.size; omega))
    replace c0 := (h1.cell (p := ⟨b, off, none⟩) (by have := B0.size; dsimp only; omega)).trans c0
    replace c1 := (h1.cell (p := ⟨b, off + 1, none⟩) (by have := B0.size; dsimp only; omega)).trans c1
    replace c2 := (h1.cell (p := ⟨b, off + 2, none⟩) (by have := B0.size; dsimp only; omega)).trans c2
    replace c3 := (h1.cell (p := ⟨b, off + 3, none⟩) (by have := B0.size; dsimp only; omega)).trans c3
    replace c4 := (h1.cell (p := ⟨b, off + 4, none⟩) (by have := B0.size; dsimp only; omega)).trans c4
    replace c5 := (h1.cell (p := ⟨b, off + 5, none⟩) (by have := B0.size; dsimp only; omega)).trans c5
    replace c6 := (h1.cell (p := ⟨b, off + 6, none⟩) (by have := B0.size; dsimp only; omega)).trans c6
    clear h1
    go_wp2_with fail
    refine (l00In_any _ _ _ _).mono ?_; rintro _ _ ⟨rfl, rfl⟩
    go_wp2_with fail
    refine (l00In_any _ _ _ _).mono ?_; rintro _ _ ⟨rfl, rfl⟩
    go_wp2_with fail
    have HC : Hid (∀ N, Calls Tryd.prog 83 #[.slice p.r.a p.r.n p.r.cap] (x1.drewN N) (Quiet (.bool true) (x1.drewN N))) := by
      intro N
      have hb9 := bel_drewN B1 N
      have := l03Ok_any p.r.a p.r.n p.r.cap p.r.xs (x1.drewN N) lo ((hr.below hb9).more hb9.size) hn
      rwa [H6.out] at this
    have HT : Hid (∀ N, Calls Tryd.prog 84 #[.slice p.r.a p.r.n p.r.cap] (x1.drewN N) fun e w' => e = .returned (.int .i64 (lastR p.r.xs)) ∧ x1.drewN N = w') := by
      intro N
      have hb9 := bel_drewN B1 N
      exact l03Last_any p.r.a p.r.n p.r.cap p.r.xs (x1.drewN N) lo _ ((hr.below hb9).more hb9.size) (by have := (chartOk_len H6.out).1; rw [hr.1] at this; omega) hn
    go_wp2
    go_quiet ((first | (go_at_call 82; exact quiet_left (in_eq _ _ _ _ a5)) | (go_at_call 83; exact quiet_of (HC.out _)) | (go_at_call 84; exact quiet_left (HT.out _))))
    go_wp2
    go_ret
    exact ⟨by rw [HO.out]; rfl, bel_drewN B1 _⟩
end Go.Proofs.YtkegncanmfmmmaaDoor
