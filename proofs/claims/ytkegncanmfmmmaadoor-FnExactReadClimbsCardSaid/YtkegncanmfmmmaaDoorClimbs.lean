/- climbsOk of the program, l23Ok of the reference: both say climbsOk. -/
import Derived.Test.YtkegncanmfmmmaaDoorClimbLaw
import Derived.Test.YtkegncanmfmmmaaDoorQuiet
import Derived.Deep.RegionHeld3
namespace Go.Proofs.YtkegncanmfmmmaaDoor
open Go.RowKit
set_option linter.unusedVariables false

theorem climbValid_any (c : Climb) (w : World) : Calls Tryd.prog 98 #[.agg #[.int .i64 c.crane, .int .i64 c.sections]] w fun e w' => e = .returned (.bool (cOk c)) ∧ Below w.heap.size w w' := by
  rcases cOk_cases c with ⟨a1, ao⟩ | ⟨a1, a2, ao⟩ | ⟨a1, a2, a3, ao⟩ | ⟨a1, a2, a3, ao⟩
  all_goals
    have HO := Lib.hid ao
    clear ao
    go_enter Tryd.func98, Tryd.ntmps98
    go_wp2_with (go_at_call 77; refine (within_any _ _ _ _).mono ?_; rintro e w1 ⟨rfl, rfl⟩)
    go_ret
    exact ⟨by rw [HO.out]; rfl, (Below.refl _ _).alloc (Nat.le_refl _) _⟩
theorem climbBad_any (c : Climb) (w : World) : Calls Tryd.prog 97 #[.agg #[.int .i64 c.crane, .int .i64 c.sections]] w fun e w' => e = .returned (.bool (cBad c)) ∧ Below w.heap.size w w' := by
  have HC : Hid (cBad c = !cOk c) := rfl
  go_enter Tryd.func97, Tryd.ntmps97
  go_wp2_with (go_at_call 98; refine (climbValid_any c _).mono ?_; rintro e w1 ⟨rfl, hb⟩)
  go_ret
  exact ⟨by rw [HC.out]; rfl, ((Below.refl _ _).alloc (Nat.le_refl _) _).trans (hb.mono (by simp))⟩

set_option maxHeartbeats 800000 in
theorem indexClimb_any (A : Option Addr) (n c : Nat) (ps : List Climb) (w : World) (lo : Nat) (h : Arr Climb.cs 2 w lo w.heap.size A n ps) (hn : n ≤ 9223372036854775807) (q : Climb → Bool)
    (hf : ∀ (p : Climb) (W : World), p ∈ ps → Below w.heap.size w W → Calls Tryd.prog 97 #[.agg #[.int .i64 p.crane, .int .i64 p.sections]] W fun e W' => e = .returned (.bool (q p)) ∧ Below W.heap.size W W') :
    Calls Tryd.prog 134 #[.slice A n c, .func (.func 97) #[] #[]] w fun e w' => e = .returned (.int .i64 (fIdx q ps)) ∧ Below w.heap.size w w' := by
  have HF := Lib.hid hf
  clear hf
  go_enter Tryd.func134, Tryd.ntmps134
  go_wp2
  go_loopw [8] (fun i wr => ∃ k : Nat, k ≤ n ∧ i = .int .i64 k ∧ noTo q ps k = true ∧ Below w.heap.size w wr) (fun i _ => n - (intOf i).toNat)
  case atStart => exact ⟨0, Nat.zero_le _, rfl, rfl, Below.refl _ _⟩
  case round =>
    obtain ⟨k, hk, rfl, hno, hb⟩ := hrel
    have HN := Lib.hid hno
    clear hno
    by_cases hlt : k < n
    · obtain ⟨b, off, p, rfl, hx, _, hbl, c0, c1⟩ := Climb.at (h.below hb) hlt
      have HX := Lib.hid hx
      clear hx
      cases hq : q p
      · have HQ := Lib.hid hq
        go_wp2_with (go_at_call 97; refine (HF.out p _ (List.mem_of_getElem? HX.out) hb).mono ?_; rintro e w1 ⟨rfl, hb1⟩)
        go_roundw
        case rel => exact ⟨k + 1, by omega, by go_num, noTo_step HN.out HX.out HQ.out, hb.trans (hb1.mono hb.size)⟩
        case measure => simp [intOf]; omega
      · have HQ := Lib.hid hq
        go_wp2_with (go_at_call 97; refine (HF.out p _ (List.mem_of_getElem? HX.out) hb).mono ?_; rintro e w1 ⟨rfl, hb1⟩)
        go_ret
        exact ⟨by rw [fIdx_hit HN.out HX.out HQ.out]; rfl, hb.trans (hb1.mono hb.size)⟩
    · obtain rfl : k = n := by omega
      have HE : Hid (fIdx q ps = -1) := fIdx_none (by rw [h.1]; exact HN.out)
      go_wp2
      go_ret
      exact ⟨by rw [HE.out]; rfl, hb⟩

theorem containsClimb_any (A : Option Addr) (n c : Nat) (ps : List Climb) (w : World) (lo : Nat) (h : Arr Climb.cs 2 w lo w.heap.size A n ps) (hn : n ≤ 9223372036854775807) (q : Climb → Bool)
    (hf : ∀ (p : Climb) (W : World), p ∈ ps → Below w.heap.size w W → Calls Tryd.prog 97 #[.agg #[.int .i64 p.crane, .int .i64 p.sections]] W fun e W' => e = .returned (.bool (q p)) ∧ Below W.heap.size W W') :
    Calls Tryd.prog 96 #[.slice A n c, .func (.func 97) #[] #[]] w fun e w' => e = .returned (.bool (ps.any q)) ∧ Below w.heap.size w w' := by
  have HF := Lib.hid hf
  clear hf
  have HA : Hid (ps.any q = decide (0 ≤ fIdx q ps)) := any_fIdx q ps
  go_enter Tryd.func96, Tryd.ntmps96
  go_wp2_with fail
  refine (indexClimb_any A n c ps _ lo h hn q HF.out).mono ?_
  rintro e w1 ⟨rfl, hb⟩
  go_wp2
  go_ret
  exact ⟨by rw [HA.out]; rfl, hb⟩

theorem climbsOk_any (A : Option Addr) (n c : Nat) (ps : List Climb) (w : World) (lo : Nat) (h : Arr Climb.cs 2 w lo w.heap.size A n ps) (hn : n ≤ 9223372036854775807) :
    Calls Tryd.prog 51 #[.slice A n c] w fun e w' => e = .returned (.bool (climbsOk ps)) ∧ Below w.heap.size w w' := by
  have hl := h.1
  by_cases h60 : n ≤ 60
  · have H : Hid (climbsOk ps = !(ps.any cBad)) := by show _ = _; unfold climbsOk; rw [hl, decide_eq_true h60]; simp
    go_enter Tryd.func51, Tryd.ntmps51
    go_wp2_with (go_at_call 96; refine (containsClimb_any A n c ps _ lo h hn cBad (fun p W _ _ => climbBad_any p W)).mono ?_; rintro e w1 ⟨rfl, hb⟩)
    go_ret
    exact ⟨by rw [H.out]; rfl, hb⟩
  · have H : Hid (climbsOk ps = false) := by show _ = _; unfold climbsOk; rw [hl, decide_eq_false h60]; rfl
    go_enter Tryd.func51, Tryd.ntmps51
    go_wp2
    go_ret
    exact ⟨by rw [H.out]; rfl, Below.refl _ _⟩

theorem specOne_any (b off : Nat) (c : Climb) (w : World) (c0 : w.cell? ⟨b, off, none⟩ = some (.int .i64 c.crane)) (c1 : w.cell? ⟨b, off + 1, none⟩ = some (.int .i64 c.sections)) :
    Calls Tryd.prog 88 #[.pointer (some ⟨b, off, none⟩)] w fun e w' => e = .returned (.bool (cOk c)) ∧ w = w' := by
  rcases cOk_cases c with ⟨a1, ao⟩ | ⟨a1, a2, ao⟩ | ⟨a1, a2, a3, ao⟩ | ⟨a1, a2, a3, ao⟩
  · have HO := Lib.hid ao
    clear ao
    go_enter Tryd.func88, Tryd.ntmps88
    go_wp2_with (go_at_call 82; refine (l00In_any _ _ _ _).mono ?_; rintro e w1 ⟨rfl, rfl⟩)
    go_ret
    exact ⟨by rw [HO.out]; rfl, rfl⟩
  · have HO := Lib.hid ao
    clear ao
    cases a3 : c.sections != 0
    all_goals
      go_enter Tryd.func88, Tryd.ntmps88
      go_wp2_with (go_at_call 82; refine (l00In_any _ _ _ _).mono ?_; rintro e w1 ⟨rfl, rfl⟩)
      go_ret
      exact ⟨by rw [HO.out]; rfl, rfl⟩
  · have HO := Lib.hid ao
    clear ao
    go_enter Tryd.func88, Tryd.ntmps88
    go_wp2_with (go_at_call 82; refine (l00In_any _ _ _ _).mono ?_; rintro e w1 ⟨rfl, rfl⟩)
    go_ret
    exact ⟨by rw [HO.out]; rfl, rfl⟩
  · have HO := Lib.hid ao
    clear ao
    go_enter Tryd.func88, Tryd.ntmps88
    go_wp2_with (go_at_call 82; refine (l00In_any _ _ _ _).mono ?_; rintro e w1 ⟨rfl, rfl⟩)
    go_ret
    exact ⟨by rw [HO.out]; rfl, rfl⟩

theorem l23Ok_any (A : Option Addr) (n c : Nat) (ps : List Climb) (w : World) (lo : Nat) (h : Arr Climb.cs 2 w lo w.heap.size A n ps) (hn : n ≤ 9223372036854775807) :
    Calls Tryd.prog 46 #[.slice A n c] w fun e w' => e = .returned (.bool (climbsOk ps)) ∧ w = w' := by
  go_enter Tryd.func46, Tryd.ntmps46
  go_wp2
  go_loop [3] (fun i => ∃ k : Nat, k ≤ n ∧ i = .int .i64 k ∧ noTo cBad ps k = true) (fun i => n - (intOf i).toNat)
  case atStart => exact ⟨0, Nat.zero_le _, rfl, rfl⟩
  case round =>
    obtain ⟨k, hk, rfl, hno⟩ := hrel
    have HN := Lib.hid hno
    clear hno
    by_cases hlt : k < n
    · obtain ⟨b, off, p, rfl, hx, _, hbl, c0, c1⟩ := Climb.at h hlt
      have HX := Lib.hid hx
      clear hx
      cases hq : cOk p
      · have HQ := Lib.hid hq
        go_wp2_with (go_at_call 88; refine (specOne_any b _ p _ c0 c1).mono ?_; rintro e w1 ⟨rfl, rfl⟩)
        go_ret
        exact ⟨by rw [climbsOk_bad HX.out HQ.out]; rfl, rfl⟩
      · have HQ := Lib.hid hq
        go_wp2_with (go_at_call 88; refine (specOne_any b _ p _ c0 c1).mono ?_; rintro e w1 ⟨rfl, rfl⟩)
        go_round
        case rel => exact ⟨k + 1, by omega, by go_num, noTo_step HN.out HX.out (by unfold cBad; rw [HQ.out]; rfl)⟩
        case measure => simp [intOf]; omega
    · obtain rfl : k = n := by omega
      have HL : Hid (climbsOk ps = decide ((k : Int) ≤ 60)) := by
        show _ = _
        rw [climbsOk_noTo (by rw [h.1]; exact HN.out), h.1]
        exact decide_eq_decide.2 (by omega)
      go_wp2
      go_ret
      exact ⟨by rw [HL.out]; rfl, rfl⟩
end Go.Proofs.YtkegncanmfmmmaaDoor
