/- Does a lift name a number: the two ways (slices.ContainsFunc at DropLift's closure; l00Has). -/
import Derived.Test.YtbklbhbjlbojdaaDropLaw
namespace Go.Proofs.Ytbklbhbjlbojdaa
open Go.RowKit
set_option linter.unusedVariables false


set_option maxHeartbeats 800000 in
theorem dIndexInt_any (A : Option Addr) (n c : Nat) (xs : List Int) (v : Int) (w : World) (lo hi : Nat) (h : Arr ic 1 w lo hi A n xs) (hn : n ≤ 9223372036854775807) :
    Calls Try.prog 172 #[.slice A n c, .int .i64 v] w fun e w' => e = .returned (.int .i64 (fIdx (fun y => decide (y = v)) xs)) ∧ w = w' := by
  have HL := Lib.hid h.1
  go_enter Try.func172, Try.ntmps172
  go_wp2
  go_loop [8] (fun i => ∃ k : Nat, k ≤ n ∧ i = .int .i64 k ∧ noTo (fun y => decide (y = v)) xs k = true) (fun i => n - (intOf i).toNat)
  case atStart => exact ⟨0, Nat.zero_le _, rfl, rfl⟩
  case round =>
    obtain ⟨k, hk, rfl, hno⟩ := hrel
    have HN := Lib.hid hno
    clear hno
    by_cases hlt : k < n
    · obtain ⟨b, off, x, rfl, hx, _, hbl, c0⟩ := Ints.at h hlt
      have HX := Lib.hid hx
      have hk1 : (k : Int) < (n : Int) := by omega
      clear hx
      by_cases hq : x = v
      · have hqq : (v == x) = true := beq_iff_eq.2 hq.symm
        have HE : Hid (fIdx (fun y => decide (y = v)) xs = k) := fIdx_hit HN.out HX.out (decide_eq_true hq)
        clear hq
        go_wp2
        go_ret
        exact ⟨by rw [HE.out]; rfl, rfl⟩
      · have hqq : (v == x) = false := beq_eq_false_iff_ne.2 (fun h => hq h.symm)
        have HQ := Lib.hid hq
        clear hq
        go_wp2
        go_round
        case rel => exact ⟨k + 1, by omega, by go_num, noTo_step HN.out HX.out (decide_eq_false HQ.out)⟩
        case measure => simp [intOf]; omega
    · obtain rfl : k = n := by omega
      have HE : Hid (fIdx (fun y => decide (y = v)) xs = -1) := fIdx_none (by rw [HL.out]; exact HN.out)
      go_wp2
      go_ret
      exact ⟨by rw [HE.out]; rfl, rfl⟩
theorem dContainsInt_any (A : Option Addr) (n c : Nat) (xs : List Int) (v : Int) (w : World) (lo hi : Nat) (h : Arr ic 1 w lo hi A n xs) (hn : n ≤ 9223372036854775807) :
    Calls Try.prog 95 #[.slice A n c, .int .i64 v] w fun e w' => e = .returned (.bool (xs.any (fun y => decide (y = v)))) ∧ w = w' := by
  have HA : Hid (xs.any (fun y => decide (y = v)) = decide (0 ≤ fIdx (fun y => decide (y = v)) xs)) := any_fIdx _ xs
  go_enter Try.func95, Try.ntmps95
  go_wp2_with fail
  refine (dIndexInt_any A n c xs v _ lo hi h hn).mono ?_
  rintro e w1 ⟨rfl, rfl⟩
  go_wp2
  go_ret
  exact ⟨by rw [HA.out]; rfl, rfl⟩


set_option maxHeartbeats 800000 in
theorem usesK_any (p : Lift) (k : Int) (g : Nat) (w : World) (lo : Nat) (hc : w.cell? ⟨g, 0, none⟩ = some (.int .i64 k)) (hg : g < w.heap.size) (hr : Arr ic 1 w lo w.heap.size p.r.a p.r.n p.r.xs) (hn : p.r.n ≤ 9223372036854775807) :
    Calls Try.prog 94 #[.agg #[.string p.v.name, .int .i64 p.v.weight, .int .i64 p.v.fx, .int .i64 p.v.fy, .int .i64 p.v.tx, .int .i64 p.v.ty, .int .i64 p.v.height, .int .i64 p.v.deadline, .slice p.r.a p.r.n p.r.cap], .pointer (some ⟨g, 0, none⟩)] w fun e w' => e = .returned (.bool (usesB k p.val)) ∧ Below w.heap.size w w' := by
  have HR := Lib.hid hr
  clear hr
  go_enter Try.func94, Try.ntmps94
  go_wp2_with fail
  refine (dContainsInt_any p.r.a p.r.n p.r.cap p.r.xs k _ lo _ (HR.out.below ((Below.refl _ _).alloc (Nat.le_refl _) _)) hn).mono ?_
  rintro e w1 ⟨rfl, rfl⟩
  go_wp2
  go_ret
  exact ⟨rfl, (Below.refl _ _).alloc (Nat.le_refl _) _⟩

def hasTo (xs : List Int) (n : Int) (k : Nat) : Bool := noTo (fun y => decide (y = n)) xs k
set_option maxHeartbeats 800000 in
theorem l00Has_any (A : Option Addr) (n c : Nat) (xs : List Int) (v : Int) (w : World) (lo hi : Nat) (h : Arr ic 1 w lo hi A n xs) (hn : n ≤ 9223372036854775807) :
    Calls Try.prog 92 #[.slice A n c, .int .i64 v] w fun e w' => e = .returned (.bool (xs.any (fun y => decide (y = v)))) ∧ w = w' := by
  have HL := Lib.hid h.1
  have HA : Hid (xs.any (fun y => decide (y = v)) = decide (0 ≤ fIdx (fun y => decide (y = v)) xs)) := any_fIdx _ xs
  go_enter Try.func92, Try.ntmps92
  go_wp2
  go_loopw [5] (fun i wr => ∃ k : Nat, k ≤ n ∧ i = .int .i64 k ∧ noTo (fun y => decide (y = v)) xs k = true ∧ w = wr) (fun i _ => n - (intOf i).toNat)
  case atStart => exact ⟨0, Nat.zero_le _, rfl, rfl, rfl⟩
  case round =>
    obtain ⟨k, hk, rfl, hno, rfl⟩ := hrel
    have HN := Lib.hid hno
    clear hno
    by_cases hlt : k < n
    · obtain ⟨b, off, x, eA, hx, _, hbl, c0⟩ := Ints.at h hlt
      have HX := Lib.hid hx
      have HE := Lib.hid eA
      have hk1 : (k : Int) < (n : Int) := by omega
      have hk0 : (0 : Int) ≤ (k : Int) := by omega
      clear hx h
      rw [eA]
      by_cases hv : x = v
      · have HV := Lib.hid hv
        clear hv
        have hbq : (x == v) = true := by rw [HV.out]; exact beq_self_eq_true v
        go_wp2
        go_ret
        exact ⟨by rw [HA.out, fIdx_hit HN.out HX.out (by rw [HV.out]; exact decide_eq_true rfl), decide_eq_true (by omega)]; rfl, rfl⟩
      · have HV := Lib.hid hv
        clear hv
        have hbq : (x == v) = false := beq_eq_false_iff_ne.2 HV.out
        go_wp2
        try rw [← HE.out]
        go_roundw
        case rel => exact ⟨k + 1, by omega, by go_num, noTo_step HN.out HX.out (decide_eq_false HV.out), by first | rfl | trivial⟩
        case measure => simp [intOf]; omega
    · obtain rfl : k = n := by omega
      have HE : Hid (fIdx (fun y => decide (y = v)) xs = -1) := fIdx_none (by rw [HL.out]; exact HN.out)
      go_wp2
      go_ret
      exact ⟨by rw [HA.out, HE.out]; rfl, rfl⟩

set_option maxHeartbeats 800000 in
theorem indexLiftUse_any (A : Option Addr) (n c : Nat) (ps : List Lift) (w : World) (lo : Nat) (h : Lifts w lo w.heap.size A n ps) (hn : n ≤ 9223372036854775807) (q : Lift → Bool) (g : Addr)
    (hf : ∀ (p : Lift) (W : World), p ∈ ps → Below w.heap.size w W → Calls Try.prog 94 #[.agg #[.string p.v.name, .int .i64 p.v.weight, .int .i64 p.v.fx, .int .i64 p.v.fy, .int .i64 p.v.tx, .int .i64 p.v.ty, .int .i64 p.v.height, .int .i64 p.v.deadline, .slice p.r.a p.r.n p.r.cap], .pointer (some g)] W fun e W' => e = .returned (.bool (q p)) ∧ Below W.heap.size W W') :
    Calls Try.prog 168 #[.slice A n c, .func (.func 94) #[] #[.pointer (some g)]] w fun e w' => e = .returned (.int .i64 (fIdx q ps)) ∧ Below w.heap.size w w' := by
  have HF := Lib.hid hf
  clear hf
  go_enter Try.func168, Try.ntmps168
  go_wp2
  go_loopw [8] (fun i wr => ∃ k : Nat, k ≤ n ∧ i = .int .i64 k ∧ noTo q ps k = true ∧ Below w.heap.size w wr) (fun i _ => n - (intOf i).toNat)
  case atStart => exact ⟨0, Nat.zero_le _, rfl, rfl, Below.refl _ _⟩
  case round =>
    obtain ⟨k, hk, rfl, hno, hb⟩ := hrel
    have HN := Lib.hid hno
    clear hno
    by_cases hlt : k < n
    · obtain ⟨b, off, p, rfl, hx, _, hbl, _, c0, c1, c2, c3, c4, c5, c6, c7, c8⟩ := Lift.at (h.below hb) hlt
      have HX := Lib.hid hx
      clear hx
      cases hq : q p
      · have HQ := Lib.hid hq
        go_wp2_with (go_at_call 94; refine (HF.out p _ (List.mem_of_getElem? HX.out) hb).mono ?_; rintro e w1 ⟨rfl, hb1⟩)
        go_roundw
        case rel => exact ⟨k + 1, by omega, by go_num, noTo_step HN.out HX.out HQ.out, hb.trans (hb1.mono hb.size)⟩
        case measure => simp [intOf]; omega
      · have HQ := Lib.hid hq
        go_wp2_with (go_at_call 94; refine (HF.out p _ (List.mem_of_getElem? HX.out) hb).mono ?_; rintro e w1 ⟨rfl, hb1⟩)
        go_ret
        exact ⟨by rw [fIdx_hit HN.out HX.out HQ.out]; rfl, hb.trans (hb1.mono hb.size)⟩
    · obtain rfl : k = n := by omega
      have HE : Hid (fIdx q ps = -1) := fIdx_none (by rw [h.len]; exact HN.out)
      go_wp2
      go_ret
      exact ⟨by rw [HE.out]; rfl, hb⟩

theorem containsLiftUse_any (A : Option Addr) (n c : Nat) (ps : List Lift) (w : World) (lo : Nat) (h : Lifts w lo w.heap.size A n ps) (hn : n ≤ 9223372036854775807) (q : Lift → Bool) (g : Addr)
    (hf : ∀ (p : Lift) (W : World), p ∈ ps → Below w.heap.size w W → Calls Try.prog 94 #[.agg #[.string p.v.name, .int .i64 p.v.weight, .int .i64 p.v.fx, .int .i64 p.v.fy, .int .i64 p.v.tx, .int .i64 p.v.ty, .int .i64 p.v.height, .int .i64 p.v.deadline, .slice p.r.a p.r.n p.r.cap], .pointer (some g)] W fun e W' => e = .returned (.bool (q p)) ∧ Below W.heap.size W W') :
    Calls Try.prog 86 #[.slice A n c, .func (.func 94) #[] #[.pointer (some g)]] w fun e w' => e = .returned (.bool (ps.any q)) ∧ Below w.heap.size w w' := by
  have HF := Lib.hid hf
  clear hf
  have HA : Hid (ps.any q = decide (0 ≤ fIdx q ps)) := any_fIdx q ps
  go_enter Try.func86, Try.ntmps86
  go_wp2_with fail
  refine (indexLiftUse_any A n c ps _ lo h hn q g HF.out).mono ?_
  rintro e w1 ⟨rfl, hb⟩
  go_wp2
  go_ret
  exact ⟨by rw [HA.out]; rfl, hb⟩
end Go.Proofs.Ytbklbhbjlbojdaa
