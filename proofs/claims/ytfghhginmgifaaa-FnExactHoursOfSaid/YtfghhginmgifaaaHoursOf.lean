/- HoursOf, of the program and of the reference: both hand back hoursRes. -/
import Derived.Test.YtfghhginmgifaaaShifts
namespace Go.Proofs.Ytfghhginmgifaaa
open Go.RowKit
set_option linter.unusedVariables false

def hoursTo (xs : List Shift) (p : Int) : Nat → Int
  | 0 => 0
  | k + 1 => hoursTo xs p k + (match xs[k]? with | some x => if x.person = p then x.stop - x.start else 0 | none => 0)
theorem hoursTo_yes {xs : List Shift} {p : Int} {k : Nat} {x : Shift} (h : xs[k]? = some x) (hp : x.person = p) : hoursTo xs p (k + 1) = hoursTo xs p k + (x.stop - x.start) := by simp [hoursTo, h, hp]
theorem hoursTo_no {xs : List Shift} {p : Int} {k : Nat} {x : Shift} (h : xs[k]? = some x) (hp : x.person ≠ p) : hoursTo xs p (k + 1) = hoursTo xs p k := by simp [hoursTo, h, hp]
def hoursSum (xs : List Shift) (p : Int) : Int := if shCode xs p 29 = 0 then hoursTo xs p xs.length else 0

theorem shCode_zero {xs : List Shift} {p most : Int} (h : shCode xs p most = 0) : xs.any badShift = false ∧ (xs.length : Int) ≤ 60 ∧ inB p 0 most = true := by
  unfold shCode at h
  split at h
  · omega
  · rename_i h1
    split at h
    · omega
    · rename_i h2
      split at h
      · rename_i h3
        exact ⟨by simpa using h1, by omega, h3⟩
      · omega
theorem shCode_one (xs : List Shift) (p most : Int) : shCode xs p most = if shCode1 xs = 0 then (if inB p 0 most then 0 else 2) else shCode1 xs := by
  unfold shCode shCode1
  by_cases h1 : xs.any badShift = true
  · simp [h1]
  · by_cases h2 : 60 < (xs.length : Int)
    · simp [h1, h2]
    · simp [h1, h2]
theorem fOk_all {xs : List Shift} (h : xs.any badShift = false) {k : Nat} {x : Shift} (hx : xs[k]? = some x) : fOk x = true := by
  rw [List.any_eq_false] at h
  have := h x (List.mem_of_getElem? hx)
  simpa [badShift] using this

set_option maxHeartbeats 1600000 in
theorem hoursOf_any (A : Option Addr) (n c : Nat) (xs : List Shift) (p : Int) (w : World) (lo : Nat) (h : Arr Shift.cs 5 w lo w.heap.size A n xs) (hn : n ≤ 1048576) :
    Calls Try.prog 30 #[.slice A n c, .int .i64 p] w fun e w' => e = .returned (.tuple #[.int .i64 (hoursSum xs p), .int .i64 (shCode xs p 29)]) ∧ Below w.heap.size w w' := by
  by_cases h0 : shCode xs p 29 = 0
  · obtain ⟨h1, h2, h3⟩ := shCode_zero h0
    have HL := Lib.hid h.1
    have HB := Lib.hid h1
    have hn60 : (n : Int) ≤ 60 := by rw [HL.out] at h2; exact h2
    have H : Hid (hoursSum xs p = hoursTo xs p n ∧ shCode xs p 29 = 0) := by show _ ∧ _; unfold hoursSum; rw [if_pos h0, HL.out]; exact ⟨rfl, h0⟩
    have e0 : (shCode xs p 29 != 0) = false := by rw [h0]; rfl
    clear h0 h1 h2 h3
    go_enter Try.func30, Try.ntmps30
    go_wp2_with (go_at_call 68; refine (shiftsCode_any A n c xs p 29 _ lo h hn).mono ?_; rintro e w1 ⟨rfl, hb⟩)
    clear e0
    go_loopw [7, 18] (fun s i wr => ∃ k : Nat, k ≤ n ∧ i = .int .i64 k ∧ s = .int .i64 (hoursTo xs p k) ∧ 0 ≤ hoursTo xs p k ∧ hoursTo xs p k ≤ 12 * (k : Int) ∧ Below w.heap.size w wr) (fun _ i _ => n - (intOf i).toNat)
    case atStart => exact ⟨0, Nat.zero_le _, rfl, rfl, Int.le_refl _, Int.le_refl _, hb⟩
    case round =>
      obtain ⟨k, hk, rfl, rfl, hs0, hs1, hb2⟩ := hrel
      by_cases hlt : k < n
      · obtain ⟨b, off, x, rfl, hx, _, hbl, c0, c1, c2, c3, c4⟩ := Shift.at (h.below hb2) hlt
        obtain ⟨f1, f2, f3, f4, f5⟩ := fOk_iff (fOk_all HB.out hx)
        have HX := Lib.hid hx
        clear hx f3
        by_cases hq : x.person = p
        · have HQ := Lib.hid (hoursTo_yes HX.out hq)
          have eq : (x.person == p) = true := beq_iff_eq.2 hq
          clear hq
          generalize hoursTo xs p k = T at *
          go_wp2
          go_roundw
          case rel => exact ⟨k + 1, by omega, by go_num, by rw [HQ.out], by rw [HQ.out]; omega, by rw [HQ.out]; omega, hb2.alloc hb2.size _⟩
          case measure => simp [intOf]; omega
        · have HQ := Lib.hid (hoursTo_no HX.out hq)
          have eq : (x.person == p) = false := beq_eq_false_iff_ne.2 hq
          clear hq
          go_wp2
          go_roundw
          case rel => exact ⟨k + 1, by omega, by go_num, by rw [HQ.out], by rw [HQ.out]; omega, by rw [HQ.out]; omega, hb2.alloc hb2.size _⟩
          case measure => simp [intOf]; omega
      · obtain rfl : k = n := by omega
        go_wp2
        go_ret2
        exact ⟨by rw [H.out.1, H.out.2]; rfl, hb2⟩
  · have e0 : (shCode xs p 29 != 0) = true := by rw [bne_iff_ne]; exact h0
    have H : Hid (hoursSum xs p = 0) := by show _ = _; unfold hoursSum; rw [if_neg h0]
    clear h0
    go_enter Try.func30, Try.ntmps30
    go_wp2_with (go_at_call 68; refine (shiftsCode_any A n c xs p 29 _ lo h hn).mono ?_; rintro e w1 ⟨rfl, hb⟩)
    go_ret2
    exact ⟨by rw [H.out]; rfl, hb⟩

set_option maxHeartbeats 1600000 in
theorem specHoursOf_any (A : Option Addr) (n c : Nat) (xs : List Shift) (p : Int) (w : World) (lo : Nat) (h : Arr Shift.cs 5 w lo w.heap.size A n xs) (hn : n ≤ 1048576) :
    Calls Try.prog 28 #[.slice A n c, .int .i64 p] w fun e w' => e = .returned (.tuple #[.int .i64 (hoursSum xs p), .int .i64 (shCode xs p 29)]) ∧ Below w.heap.size w w' := by
  have hone := shCode_one xs p 29
  by_cases h1 : shCode1 xs = 0
  · have e1 : (shCode1 xs == 0) = true := beq_iff_eq.2 h1
    have n1 : (shCode1 xs != 0) = false := by rw [h1]; rfl
    cases h2 : inB p 0 29
    · have H : Hid (shCode xs p 29 = 2 ∧ hoursSum xs p = 0) := by
        have : shCode xs p 29 = 2 := by rw [hone, if_pos h1, h2]; rfl
        exact ⟨this, by unfold hoursSum; rw [this]; rfl⟩
      clear hone h1
      go_enter Try.func28, Try.ntmps28
      go_wp2_with (first | (go_at_call 67; refine (specShifts_any A n c xs _ lo h hn).mono ?_; rintro e w1 ⟨rfl, hb⟩) | (go_at_call 55; refine (l00In_any _ _ _ _).mono ?_; rintro e w2 ⟨rfl, rfl⟩))
      go_ret2
      exact ⟨by rw [H.out.1, H.out.2]; rfl, hb⟩
    · have h0 : shCode xs p 29 = 0 := by rw [hone, if_pos h1, h2]; rfl
      obtain ⟨g1, g2, g3⟩ := shCode_zero h0
      have HL := Lib.hid h.1
      have HB := Lib.hid g1
      have hn60 : (n : Int) ≤ 60 := by rw [HL.out] at g2; exact g2
      have H : Hid (hoursSum xs p = hoursTo xs p n ∧ shCode xs p 29 = 0) := by show _ ∧ _; unfold hoursSum; rw [if_pos h0, HL.out]; exact ⟨rfl, h0⟩
      clear hone g1 g2 g3 h0
      have H1 := Lib.hid h1
      clear h1
      go_enter Try.func28, Try.ntmps28
      go_wp2_with (first | (go_at_call 67; refine (specShifts_any A n c xs _ lo h hn).mono ?_; rintro e w1 ⟨rfl, hb⟩) | (go_at_call 55; refine (l00In_any _ _ _ _).mono ?_; rintro e w2 ⟨rfl, rfl⟩))
      clear e1 n1 h2
      go_loopw [7, 8] (fun s i wr => ∃ k : Nat, k ≤ n ∧ i = .int .i64 k ∧ s = .int .i64 (hoursTo xs p k) ∧ 0 ≤ hoursTo xs p k ∧ hoursTo xs p k ≤ 12 * (k : Int) ∧ Below w.heap.size w wr) (fun _ i _ => n - (intOf i).toNat)
      case atStart => exact ⟨0, Nat.zero_le _, rfl, rfl, Int.le_refl _, Int.le_refl _, hb⟩
      case round =>
        obtain ⟨k, hk, rfl, rfl, hs0, hs1, hb2⟩ := hrel
        by_cases hlt : k < n
        · obtain ⟨b, off, x, rfl, hx, _, hbl, c0, c1, c2, c3, c4⟩ := Shift.at (h.below hb2) hlt
          obtain ⟨f1, f2, f3, f4, f5⟩ := fOk_iff (fOk_all HB.out hx)
          have HX := Lib.hid hx
          clear hx f3
          have hk0 : (0 : Int) ≤ (k : Int) := by omega
          have hk1 : (k : Int) < (n : Int) := by omega
          by_cases hq : x.person = p
          · have HQ := Lib.hid (hoursTo_yes HX.out hq)
            have eq : (x.person == p) = true := beq_iff_eq.2 hq
            clear hq
            generalize hoursTo xs p k = T at *
            have HS1 : Hid (IntKind.i64.wrap (x.stop - x.start) = x.stop - x.start) := IntWalk.i64_in _ ⟨by omega, by omega⟩
            have HS2 : Hid (IntKind.i64.wrap (T + (x.stop - x.start)) = T + (x.stop - x.start)) := IntWalk.i64_in _ ⟨by omega, by omega⟩
            go_wp2
            go_quiet (fail)
            go_wp2
            go_roundw
            case rel => exact ⟨k + 1, by omega, by go_num, by rw [HQ.out], by rw [HQ.out]; omega, by rw [HQ.out]; omega, bel_drewN hb2 _⟩
            case measure => simp [intOf]; omega
          · have HQ := Lib.hid (hoursTo_no HX.out hq)
            have eq : (x.person == p) = false := beq_eq_false_iff_ne.2 hq
            clear hq
            go_wp2
            go_roundw
            case rel => exact ⟨k + 1, by omega, by go_num, by rw [HQ.out], by rw [HQ.out]; omega, by rw [HQ.out]; omega, hb2⟩
            case measure => simp [intOf]; omega
        · obtain rfl : k = n := by omega
          go_wp2
          go_ret2
          exact ⟨by rw [H.out.1, H.out.2]; rfl, hb2⟩
  · have e1 : (shCode1 xs == 0) = false := beq_eq_false_iff_ne.2 h1
    have n1 : (shCode1 xs != 0) = true := by rw [bne_iff_ne]; exact h1
    have H : Hid (shCode xs p 29 = shCode1 xs ∧ hoursSum xs p = 0) := by
      have : shCode xs p 29 = shCode1 xs := by rw [hone, if_neg h1]
      exact ⟨this, by unfold hoursSum; rw [this, if_neg h1]⟩
    clear hone h1
    go_enter Try.func28, Try.ntmps28
    go_wp2_with (go_at_call 67; refine (specShifts_any A n c xs _ lo h hn).mono ?_; rintro e w1 ⟨rfl, hb⟩)
    go_ret2
    exact ⟨by rw [H.out.1, H.out.2]; rfl, hb⟩
end Go.Proofs.Ytfghhginmgifaaa
