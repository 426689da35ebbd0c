/- needed of the program: the set is filled with all that a lift needs. -/
import Derived.Test.YtbklbhbjlbojdaaNeedLaw
import Derived.Test.YtbklbhbjlbojdaaBSet
import Derived.Test.YtbklbhbjlbojdaaNest3
namespace Go.Proofs.Ytbklbhbjlbojdaa
open Go.RowKit Go.Sort
set_option linter.unusedVariables false

theorem wf_sml {i : Int} (h0 : 0 ≤ i) (h1 : i ≤ 1000000) : (Lit.int .i64 i).wf = true := by
  exact WalkArith.wf_i64 (by omega)
theorem zero_bool (w : World) : (zeroValue 4).run Try.prog w = .ok (.bool false) w := by kernel_rfl
theorem within_grown {w w' : World} {b : Nat} (hg : w.grownBy w' (some b)) : Within b (b + 1) w w' :=
  ⟨hg.os, hg.tape, hg.output, hg.size, fun k hk ho => hg.block k hk (fun e => by cases e; omega)⟩
def NeededOut (w : World) (b N T : Nat) (S : Int → Bool) (e : Ending) (w' : World) : Prop :=
  (∃ v, e = .returned v) ∧ BSet Try.prog 2 4 w' b (N + T) S ∧ Within b (b + 1) w w'
set_option maxRecDepth 100000 in
set_option maxHeartbeats 1600000 in
theorem needed_any (A : Option Addr) (n c : Nat) (ps : List Lift) (vs : List LV) (hv : ps.map Lift.val = vs) (hok : liftsOk vs = true) (lo hi b : Nat) (hhi : hi ≤ b) (hl : ps.length = n) (hp : ∀ p ∈ ps, p.r.n ≤ 9223372036854775807) :
    ∀ (k : Nat), k < n → ∀ (w : World) (N : Nat) (S : Int → Bool), Lifts w lo hi A n ps → BSet Try.prog 2 4 w b N S → Cl vs S k → N + tnN k ≤ 40000000000 →
    Calls Try.prog 98 #[.slice A n c, .int .i64 (k : Int), .map (some b)] w (NeededOut w b N (tnN k) (fun r => S r || hasP (ndI vs k) r)) := by
  have HV := Lib.hid hv
  have HP := Lib.hid hp
  have HD := Lib.hid (down_of hok)
  have HAL := Lib.hid (aft_len hok)
  have hn10 : n ≤ 10 := by have := liftsOk_len hok; rw [lv_len hv, hl] at this; exact this
  clear hv hp hok
  intro k
  induction k using Nat.strongRecOn with
  | ind k ih =>
    intro hk w N S h hM hcl hN
    obtain ⟨b0, off, p, eA, hx, _, hbl, hrow, c0, c1, c2, c3, c4, c5, c6, c7, c8⟩ := Lift.at h hk
    have hpr := HP.out p (List.mem_of_getElem? hx)
    have HAF : Hid (aft vs k = p.r.xs) := aft_of (lv_at HV.out hx)
    have hln : p.r.xs.length = p.r.n := hrow.1
    have hpn10 : p.r.n ≤ 10 := by have := HAL.out k; rw [HAF.out, hln] at this; exact this
    have HLN := Lib.hid hln
    have hk0 : (0 : Int) ≤ (k : Int) := by omega
    have hk1 : (k : Int) < (n : Int) := by omega
    have hbw := hM.lt
    have HM := Lib.hid hM
    have HC := Lib.hid hcl
    have HROW := Lib.hid hrow
    subst eA
    have HH := Lib.hid h
    clear hx c0 c1 c2 c3 c4 c5 c6 c7 h hM hcl hrow hln
    obtain ⟨T, hT⟩ : ∃ T, tnN (k - 1) = T := ⟨_, rfl⟩
    have hTT : k ≠ 0 → tnN k = 10 * (1 + T) := fun h => by
      obtain ⟨j, rfl⟩ : ∃ j, k = j + 1 := ⟨k - 1, by omega⟩
      rw [← hT]; rfl
    go_enter Try.func98, Try.ntmps98
    go_wp2
    go_loopw [14] (fun i wr => ∃ j : Nat, j ≤ p.r.n ∧ i = .int .i64 j ∧ BSet Try.prog 2 4 wr b (N + j * (1 + T)) (sTo vs k S j) ∧ Within b (b + 1) w wr) (fun i _ => p.r.n - (intOf i).toNat)
    case atStart => exact ⟨0, Nat.zero_le _, rfl, by rw [Nat.zero_mul]; exact HM.out.to fun r => (sTo_zero vs k S r).symm, Within.refl _ _ _⟩
    case round =>
      obtain ⟨j, hj, rfl, hM2, hwi⟩ := hrel
      have HM2 := Lib.hid hM2
      have HWI := Lib.hid hwi
      have hws := hwi.size
      by_cases hlt : j < p.r.n
      · obtain ⟨b4, off4, x, e4, hx4, _, hb4, e0⟩ := Ints.at (HROW.out.within hwi (by omega) (.inl hhi)) hlt
        have hxa : (aft vs k)[j]? = some x := by rw [HAF.out]; exact hx4
        have hxk := HD.out k x (List.mem_of_getElem? hxa)
        obtain ⟨a, rfl⟩ := Int.eq_ofNat_of_zero_le hxk.1
        have hak : a < k := by omega
        have hk00 : k ≠ 0 := by omega
        have hT2 := hTT hk00
        have hjT : j * (1 + T) + (1 + T) ≤ 10 * (1 + T) := by rw [← Nat.succ_mul]; exact Nat.mul_le_mul_right _ (by omega)
        have hlook := hM2.look (t := 142) Try.underlying142 Try.underlying2 Try.underlying4 (zero_bool wr) (wf_sml (i := (a : Int)) (by omega) (by omega))
        have HXA := Lib.hid hxa
        have hj0 : (0 : Int) ≤ (j : Int) := by omega
        have hj1 : (j : Int) < (p.r.n : Int) := by omega
        cases hs : sTo vs k S j (a : Int)
        · rw [hs] at hlook
          have HS := Lib.hid hs
          clear hM2 hwi hx4 hxa hxk hs
          go_wp2_with (at_mapUpdate; refine wpList_put_bset rfl _ _ _ 142 rfl 2 4 Try.underlying142 Try.underlying2 Try.underlying4 b (N + j * (1 + T)) (sTo vs k S j) rfl HM2.out (by omega) (a : Int) rfl rfl (wf_sml (by omega) (by omega)) ?_; intro w5 hM5 hg5)
          have hTa : tnN a ≤ T := by rw [← hT]; exact tnN_mono (by omega)
          have hcl := cl_in HD.out HC.out HXA.out
          rw [Int.toNat_natCast] at hcl
          have hs5 := hg5.size
          have HW5 := Lib.hid (within_grown hg5)
          refine (ih a hak (by omega) w5 _ _ (HH.out.within (HWI.out.trans HW5.out) (by omega) (.inl hhi)) hM5 hcl (by omega)).mono ?_
          rintro e w6 ⟨⟨v, rfl⟩, hM6, hW6⟩
          have HM6 : Hid (BSet Try.prog 2 4 w6 b (N + (j + 1) * (1 + T)) (sTo vs k S (j + 1))) := (hM6.wide (by rw [Nat.succ_mul]; omega)).to fun r => by
            rw [sTo_succ HD.out HXA.out, Int.toNat_natCast]
          have HW6 := Lib.hid (HWI.out.trans (HW5.out.trans hW6))
          clear hM6 hW6 hg5 hM5 hcl
          go_wp2
          try rw [← e4]
          go_roundw
          case rel => exact ⟨j + 1, by omega, by go_num, HM6.out, HW6.out⟩
          case measure => simp [intOf]; omega
        · rw [hs] at hlook
          have HS := Lib.hid hs
          clear hM2 hwi hx4 hxa hxk hs
          go_wp2
          go_roundw
          case rel => exact ⟨j + 1, by omega, by go_num, (HM2.out.wide (by rw [Nat.succ_mul]; omega)).to fun r => (sTo_old HD.out HC.out HXA.out HS.out r).symm, HWI.out⟩
          case measure => simp [intOf]; omega
      · obtain rfl : j = p.r.n := by omega
        have hle : p.r.n * (1 + T) ≤ tnN k := by
          by_cases h0 : k = 0
          · subst h0
            have : p.r.n = 0 := by
              rcases Nat.eq_zero_or_pos p.r.n with h9 | h9
              · exact h9
              · have hxx : (aft vs 0)[0]? = some (p.r.xs[0]'(by rw [HLN.out]; exact h9)) := by rw [HAF.out]; exact List.getElem?_eq_getElem _
                have := HD.out 0 _ (List.mem_of_getElem? hxx)
                omega
            rw [this]; simp
          · rw [hTT h0]; exact Nat.mul_le_mul_right _ hpn10
        have HMF : Hid (BSet Try.prog 2 4 wr b (N + tnN k) (fun r => S r || hasP (ndI vs k) r)) := (hM2.wide (by omega)).to fun r => sTo_all HD.out (by rw [HAF.out, HLN.out]; exact Nat.le_refl _) S r
        clear hM2 hwi hle
        go_wp2
        go_end0
        exact ⟨⟨_, rfl⟩, HMF.out, HWI.out⟩
end Go.Proofs.Ytbklbhbjlbojdaa
