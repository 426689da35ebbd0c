/- NeededLifts of the reference: ndI. -/
import Derived.Test.YtbklbhbjlbojdaaNeedLaw
import Derived.Test.YtbklbhbjlbojdaaLiftCode
namespace Go.Proofs.Ytbklbhbjlbojdaa
open Go.RowKit Go.Sort
set_option linter.unusedVariables false

/-- what NeededLifts hands back -/
def neN (vs : List LV) (k : Int) : Int := if lfCode vs k = 0 then ndI vs k.toNat else 0
theorem neN_bad {vs : List LV} {k : Int} (h : lfCode vs k ≠ 0) : neN vs k = 0 := by unfold neN; rw [if_neg h]
theorem neN_ok {vs : List LV} {k : Nat} (h : lfCode vs (k : Int) = 0) : neN vs (k : Int) = ndI vs k := by unfold neN; rw [if_pos h, Int.toNat_natCast]

set_option maxRecDepth 100000 in
set_option maxHeartbeats 1600000 in
theorem l08Needed_any (A : Option Addr) (n c : Nat) (ps : List Lift) (vs : List LV) (hv : ps.map Lift.val = vs) (hok : liftsOk vs = true) (w : World) (lo hi : Nat) (h : Lifts w lo hi A n ps) (hp : ∀ p ∈ ps, p.r.n ≤ 9223372036854775807) :
    ∀ k : Nat, k < n → Calls Try.prog 97 #[.slice A n c, .int .i64 (k : Int)] w fun e w' => e = .returned (.int .i64 (ndI vs k)) ∧ w = w' := by
  have HV := Lib.hid hv
  have HP := Lib.hid hp
  have HD := Lib.hid (down_of hok)
  have hn10 : n ≤ 10 := by have := liftsOk_len hok; rw [lv_len hv, h.len] at this; exact this
  clear hv hp hok
  intro k
  induction k using Nat.strongRecOn with
  | ind k ih =>
    intro hk
    obtain ⟨b, off, p, eA, hx, _, hbl, hrow, c0, c1, c2, c3, c4, c5, c6, c7, c8⟩ := Lift.at h hk
    have hpr := HP.out p (List.mem_of_getElem? hx)
    have HAF : Hid (aft vs k = p.r.xs) := aft_of (lv_at HV.out hx)
    have HLN : Hid (p.r.xs.length = p.r.n) := hrow.1
    have hk0 : (0 : Int) ≤ (k : Int) := by omega
    have hk1 : (k : Int) < (n : Int) := by omega
    subst eA
    clear hx c0 c1 c2 c3 c4 c5 c6 c7 h
    go_enter Try.func97, Try.ntmps97
    go_wp2
    go_loopw [5, 6] (fun s i wr => ∃ j : Nat, j ≤ p.r.n ∧ i = .int .i64 j ∧ s = .int .i64 (neTo vs k j) ∧ w = wr) (fun _ i _ => p.r.n - (intOf i).toNat)
    case atStart => exact ⟨0, Nat.zero_le _, rfl, rfl, rfl⟩
    case round =>
      obtain ⟨j, hj, rfl, rfl, rfl⟩ := hrel
      by_cases hlt : j < p.r.n
      · obtain ⟨b4, off4, x, e4, hx4, _, _, e0⟩ := Ints.at hrow hlt
        have hxk := HD.out k x (by rw [HAF.out]; exact List.mem_of_getElem? hx4)
        obtain ⟨a, rfl⟩ := Int.eq_ofNat_of_zero_le hxk.1
        have hak : a < k := by omega
        have hpb := pow_b2 (n := a) (by omega)
        have h1 := neTo_small HD.out (k := k) (by omega) j
        have h2 := nd_small HD.out (k := a) (by omega)
        have HST : Hid (neTo vs k (j + 1) = orI (neTo vs k j) (orI (2 ^ a) (ndI vs a))) := by
          show _ = _
          rw [neTo_succ (by rw [HAF.out]; exact hx4), Int.toNat_natCast]
        have hten : (2 : Int) ^ 10 = 1024 := by decide
        have h3 : orI (2 ^ a) (ndI vs a) < 1024 := by
          have h8 := pow_lt (a := a) (n := 10) (by omega)
          have h9 := orI_lt (n := 10) (pow_nn a) h8 h2.1 (by omega)
          omega
        have h4 := orI_nonneg (2 ^ a) (ndI vs a)
        have HO1 : Hid (bits .or .i64 (2 ^ a) (ndI vs a) = orI (2 ^ a) (ndI vs a)) := or_or (pow_nn a) (by omega) h2.1 (by omega)
        have HO2 : Hid (bits .or .i64 (neTo vs k j) (orI (2 ^ a) (ndI vs a)) = orI (neTo vs k j) (orI (2 ^ a) (ndI vs a))) := or_or h1.1 (by omega) h4 (by omega)
        obtain ⟨m, hm⟩ : ∃ m, neTo vs k j = m := ⟨_, rfl⟩
        obtain ⟨u, hu⟩ : ∃ u, ndI vs a = u := ⟨_, rfl⟩
        rw [hm] at h1 HO2 HST ⊢
        rw [hu] at h2 h3 h4 HO1 HO2 HST
        have HM := Lib.hid hm
        have HU := Lib.hid hu
        have hj0 : (0 : Int) ≤ (j : Int) := by omega
        have hj1 : (j : Int) < (p.r.n : Int) := by omega
        clear hx4 hxk hm hu h3 h4 hten
        go_wp2_with (go_at_call 97; refine (ih a hak (by omega)).mono ?_; rintro e w1 ⟨rfl, rfl⟩; rw [HU.out])
        go_roundw
        case rel => exact ⟨j + 1, by omega, by go_num, by rw [HST.out, HO1.out, HO2.out], by first | rfl | trivial⟩
        case measure => simp [intOf]; omega
      · obtain rfl : j = p.r.n := by omega
        have HE : Hid (neTo vs k p.r.n = ndI vs k) := neTo_all HD.out (by rw [HAF.out, HLN.out]; exact Nat.le_refl _)
        rw [HE.out]
        go_wp2
        go_ret
        exact ⟨rfl, by first | rfl | trivial⟩

set_option maxRecDepth 100000 in
set_option maxHeartbeats 1600000 in
theorem specNeededLifts_any (A : Option Addr) (n c : Nat) (ps : List Lift) (vs : List LV) (hv : ps.map Lift.val = vs) (kk : Int) (w : World) (lo : Nat) (h : Lifts w lo w.heap.size A n ps) (hn : n ≤ 1048576) (hc : n ≤ c) (hc2 : c ≤ 1048576) (hp : ∀ p ∈ ps, p.wf) :
    Calls Try.prog 27 #[.slice A n c, .int .i64 kk] w fun e w' => e = .returned (.tuple #[.int .i64 (neN vs kk), .int .i64 (lfCode vs kk)]) ∧ Below w.heap.size w w' := by
  have HV := Lib.hid hv
  have HP := Lib.hid hp
  have HC := Lib.hid h
  have HL : Hid (vs.length = n) := by show _ = _; rw [lv_len hv, h.len]
  clear hv hp h
  by_cases hf : lfCode vs kk = 0
  · have HF := Lib.hid hf
    obtain ⟨hok, hk0, hk1⟩ := lfCode_ok hf
    rw [HL.out] at hk1
    obtain ⟨k, rfl⟩ := Int.eq_ofNat_of_zero_le hk0
    have HOK := Lib.hid hok
    have HN := Lib.hid (neN_ok HF.out)
    clear hf hok
    go_enter Try.func27, Try.ntmps27
    go_wp2_with fail
    refine (l08Code_any A n c ps vs HV.out k w lo HC.out hn hc hc2 HP.out).mono ?_
    rintro e w1 ⟨rfl, hb1⟩
    rw [HF.out]
    have HC1 := Lib.hid (HC.out.next hb1)
    go_wp2_with fail
    refine (l08Needed_any A n c ps vs HV.out HOK.out w1 lo _ HC1.out (fun p hpp => (HP.out p hpp).n) k (by omega)).mono ?_
    rintro e w2 ⟨rfl, rfl⟩
    go_wp2
    go_ret2
    exact ⟨by rw [HN.out, HF.out]; rfl, hb1⟩
  · have HF := Lib.hid (neN_bad hf)
    have HN : Hid ((lfCode vs kk == 0) = false) := beq_eq_false_iff_ne.2 hf
    clear hf
    go_enter Try.func27, Try.ntmps27
    go_wp2_with fail
    refine (l08Code_any A n c ps vs HV.out kk w lo HC.out hn hc hc2 HP.out).mono ?_
    rintro e w1 ⟨rfl, hb1⟩
    have HNN := HN.out
    go_wp2
    go_ret2
    exact ⟨by rw [HF.out]; rfl, hb1⟩
end Go.Proofs.Ytbklbhbjlbojdaa
