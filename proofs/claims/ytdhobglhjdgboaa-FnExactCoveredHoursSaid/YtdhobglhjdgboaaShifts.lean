/- shiftsCode and l24Shifts: the code for a list of shifts. -/
import Derived.Test.YtdhobglhjdgboaaShiftForm
namespace Go.Proofs.Ytdhobglhjdgboaa
open Go.RowKit
set_option linter.unusedVariables false

set_option maxHeartbeats 800000 in
theorem indexBadShift_any (A : Option Addr) (n c : Nat) (ps : List Shift) (w : World) (lo : Nat) (h : Arr Shift.cs 5 w lo w.heap.size A n ps) (hn : n ≤ 9223372036854775807) (q : Shift → Bool)
    (hf : ∀ (p : Shift) (W : World), p ∈ ps → Below w.heap.size w W → Calls Try.prog 69 #[.agg #[.int .i64 p.person, .int .i64 p.crane, .int .i64 p.role, .int .i64 p.start, .int .i64 p.stop]] W fun e W' => e = .returned (.bool (q p)) ∧ Below W.heap.size W W') :
    Calls Try.prog 100 #[.slice A n c, .func (.func 69) #[] #[]] w fun e w' => e = .returned (.int .i64 (fIdx q ps)) ∧ Below w.heap.size w w' := by
  have HF := Lib.hid hf
  clear hf
  go_enter Try.func100, Try.ntmps100
  go_wp2
  go_loopw [8] (fun i wr => ∃ k : Nat, k ≤ n ∧ i = .int .i64 k ∧ noTo q ps k = true ∧ Below w.heap.size w wr) (fun i _ => n - (intOf i).toNat)
  case atStart => exact ⟨0, Nat.zero_le _, rfl, rfl, Below.refl _ _⟩
  case round =>
    obtain ⟨k, hk, rfl, hno, hb⟩ := hrel
    have HN := Lib.hid hno
    clear hno
    by_cases hlt : k < n
    · obtain ⟨b, off, p, rfl, hx, _, hbl, c0, c1, c2, c3, c4⟩ := Shift.at (h.below hb) hlt
      have HX := Lib.hid hx
      clear hx
      cases hq : q p
      · have HQ := Lib.hid hq
        go_wp2_with (go_at_call 69; refine (HF.out p _ (List.mem_of_getElem? HX.out) hb).mono ?_; rintro e w1 ⟨rfl, hb1⟩)
        go_roundw
        case rel => exact ⟨k + 1, by omega, by go_num, noTo_step HN.out HX.out HQ.out, hb.trans (hb1.mono hb.size)⟩
        case measure => simp [intOf]; omega
      · have HQ := Lib.hid hq
        go_wp2_with (go_at_call 69; refine (HF.out p _ (List.mem_of_getElem? HX.out) hb).mono ?_; rintro e w1 ⟨rfl, hb1⟩)
        go_ret
        exact ⟨by rw [fIdx_hit HN.out HX.out HQ.out]; rfl, hb.trans (hb1.mono hb.size)⟩
    · obtain rfl : k = n := by omega
      have HE : Hid (fIdx q ps = -1) := fIdx_none (by rw [h.1]; exact HN.out)
      go_wp2
      go_ret
      exact ⟨by rw [HE.out]; rfl, hb⟩

theorem containsBadShift_any (A : Option Addr) (n c : Nat) (ps : List Shift) (w : World) (lo : Nat) (h : Arr Shift.cs 5 w lo w.heap.size A n ps) (hn : n ≤ 9223372036854775807) (q : Shift → Bool)
    (hf : ∀ (p : Shift) (W : World), p ∈ ps → Below w.heap.size w W → Calls Try.prog 69 #[.agg #[.int .i64 p.person, .int .i64 p.crane, .int .i64 p.role, .int .i64 p.start, .int .i64 p.stop]] W fun e W' => e = .returned (.bool (q p)) ∧ Below W.heap.size W W') :
    Calls Try.prog 68 #[.slice A n c, .func (.func 69) #[] #[]] w fun e w' => e = .returned (.bool (ps.any q)) ∧ Below w.heap.size w w' := by
  have HF := Lib.hid hf
  clear hf
  have HA : Hid (ps.any q = decide (0 ≤ fIdx q ps)) := any_fIdx q ps
  go_enter Try.func68, Try.ntmps68
  go_wp2_with fail
  refine (indexBadShift_any A n c ps _ lo h hn q HF.out).mono ?_
  rintro e w1 ⟨rfl, hb⟩
  go_wp2
  go_ret
  exact ⟨by rw [HA.out]; rfl, hb⟩

theorem any_bad (xs : List Shift) : xs.any badShift = !allTo (fun i => match xs[i]? with | some x => fOk x | none => true) xs.length := by
  rw [Bool.eq_iff_iff, Bool.not_eq_true', List.any_eq_true]
  constructor
  · rintro ⟨x, hx, hb⟩
    obtain ⟨j, hj, rfl⟩ := List.getElem_of_mem hx
    refine allTo_bad hj ?_
    rw [List.getElem?_eq_getElem hj]
    simpa [badShift] using hb
  · intro h
    have : ¬ (∀ i, i < xs.length → (match xs[i]? with | some x => fOk x | none => true) = true) := by
      intro h2; rw [allTo_iff.2 h2] at h; cases h
    apply Classical.byContradiction
    intro hno
    apply this
    intro i hi
    rw [List.getElem?_eq_getElem hi]
    cases hq : fOk xs[i] with
    | true => exact hq
    | false => exact absurd ⟨xs[i], List.getElem_mem hi, by simp [badShift, hq]⟩ hno
/-- the code for a list of shifts and a number that is at most a limit -/
def shCode (xs : List Shift) (n most : Int) : Int := if xs.any badShift then 1 else if 60 < (xs.length : Int) then 5 else if inB n 0 most then 0 else 2

set_option maxHeartbeats 800000 in
theorem shiftsCode_any (A : Option Addr) (n c : Nat) (xs : List Shift) (p most : Int) (w : World) (lo : Nat) (h : Arr Shift.cs 5 w lo w.heap.size A n xs) (hn : n ≤ 1048576) :
    Calls Try.prog 38 #[.slice A n c, .int .i64 p, .int .i64 most] w fun e w' => e = .returned (.int .i64 (shCode xs p most)) ∧ Below w.heap.size w w' := by
  have HL := Lib.hid h.1
  cases h1 : xs.any badShift
  · by_cases h2 : (60 : Int) < (n : Int)
    · have H : Hid (shCode xs p most = 5) := by show _ = _; unfold shCode; rw [h1, HL.out, if_pos h2]; rfl
      go_enter Try.func38, Try.ntmps38
      go_wp2_with (go_at_call 68; refine (containsBadShift_any A n c xs _ lo h (by omega) badShift (fun x W _ _ => badShift_any x W)).mono ?_; rintro e w1 ⟨rfl, hb⟩)
      go_ret
      exact ⟨by rw [H.out]; rfl, hb⟩
    · cases h3 : inB p 0 most
      · have H : Hid (shCode xs p most = 2) := by show _ = _; unfold shCode; rw [h1, HL.out, if_neg h2, h3]; rfl
        go_enter Try.func38, Try.ntmps38
        go_wp2_with (first | (go_at_call 68; refine (containsBadShift_any A n c xs _ lo h (by omega) badShift (fun x W _ _ => badShift_any x W)).mono ?_; rintro e w1 ⟨rfl, hb⟩) | (go_at_call 71; refine (within_any _ _ _ _).mono ?_; rintro e w2 ⟨rfl, rfl⟩))
        go_ret
        exact ⟨by rw [H.out]; rfl, hb⟩
      · have H : Hid (shCode xs p most = 0) := by show _ = _; unfold shCode; rw [h1, HL.out, if_neg h2, h3]; rfl
        go_enter Try.func38, Try.ntmps38
        go_wp2_with (first | (go_at_call 68; refine (containsBadShift_any A n c xs _ lo h (by omega) badShift (fun x W _ _ => badShift_any x W)).mono ?_; rintro e w1 ⟨rfl, hb⟩) | (go_at_call 71; refine (within_any _ _ _ _).mono ?_; rintro e w2 ⟨rfl, rfl⟩))
        go_ret
        exact ⟨by rw [H.out]; rfl, hb⟩
  · have H : Hid (shCode xs p most = 1) := by show _ = _; unfold shCode; rw [h1]; rfl
    go_enter Try.func38, Try.ntmps38
    go_wp2_with (go_at_call 68; refine (containsBadShift_any A n c xs _ lo h (by omega) badShift (fun x W _ _ => badShift_any x W)).mono ?_; rintro e w1 ⟨rfl, hb⟩)
    go_ret
    exact ⟨by rw [H.out]; rfl, hb⟩

def shCode1 (xs : List Shift) : Int := if xs.any badShift then 1 else if 60 < (xs.length : Int) then 5 else 0
set_option maxHeartbeats 800000 in
theorem specShifts_any (A : Option Addr) (n c : Nat) (xs : List Shift) (w : World) (lo : Nat) (h : Arr Shift.cs 5 w lo w.heap.size A n xs) (hn : n ≤ 1048576) :
    Calls Try.prog 33 #[.slice A n c] w fun e w' => e = .returned (.int .i64 (shCode1 xs)) ∧ Below w.heap.size w w' := by
  have HL := Lib.hid h.1
  go_enter Try.func33, Try.ntmps33
  go_wp2
  go_loopw [3] (fun i wr => ∃ k : Nat, k ≤ n ∧ i = .int .i64 k ∧ allTo (fun i => match xs[i]? with | some x => fOk x | none => true) k = true ∧ Below w.heap.size w wr) (fun i _ => n - (intOf i).toNat)
  case atStart => exact ⟨0, Nat.zero_le _, rfl, rfl, Below.refl _ _⟩
  case round =>
    obtain ⟨k, hk, rfl, hall, hb⟩ := hrel
    have HA := Lib.hid hall
    clear hall
    by_cases hlt : k < n
    · obtain ⟨b, off, x, rfl, hx, _, hbl, c0, c1, c2, c3, c4⟩ := Shift.at (h.below hb) hlt
      have HX := Lib.hid hx
      clear hx
      cases hq : fOk x
      · have H : Hid (shCode1 xs = 1) := by
          show _ = _
          unfold shCode1
          rw [any_bad, allTo_bad (by rw [HL.out]; exact hlt) (by simp only [HX.out, hq])]; rfl
        go_wp2_with fail
        refine (quiet_bel (specForm_any b _ x _ c0 c1 c2 c3 c4)).mono ?_
        rintro e w1 ⟨rfl, hb1⟩
        go_wp2
        go_ret
        exact ⟨by rw [H.out]; rfl, hb.trans (hb1.mono hb.size)⟩
      · have HQ := Lib.hid hq
        go_wp2_with (go_at_call 67; refine (quiet_bel (specForm_any b _ x _ c0 c1 c2 c3 c4)).mono ?_; rintro e w1 ⟨rfl, hb1⟩)
        go_roundw
        case rel => exact ⟨k + 1, by omega, by go_num, allTo_step HA.out (by simp only [HX.out, HQ.out]), hb.trans (hb1.mono hb.size)⟩
        case measure => simp [intOf]; omega
    · obtain rfl : k = n := by omega
      have h1 : xs.any badShift = false := by rw [any_bad, HL.out, HA.out]; rfl
      by_cases h2 : (60 : Int) < (k : Int)
      · have H : Hid (shCode1 xs = 5) := by show _ = _; unfold shCode1; rw [h1, HL.out, if_pos h2]; rfl
        clear h1
        go_wp2
        go_ret
        exact ⟨by rw [H.out]; rfl, hb⟩
      · have H : Hid (shCode1 xs = 0) := by show _ = _; unfold shCode1; rw [h1, HL.out, if_neg h2]; rfl
        clear h1
        go_wp2
        go_ret
        exact ⟨by rw [H.out]; rfl, hb⟩
end Go.Proofs.Ytdhobglhjdgboaa
