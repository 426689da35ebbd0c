/- CountLiftOrders of the program: ordersFrom with its memo. -/
import Derived.Test.YtbklbhbjlbojdaaCountLaw
import Derived.Test.YtbklbhbjlbojdaaReadyLifts
import Derived.Test.YtbklbhbjlbojdaaNest3
namespace Go.Proofs.Ytbklbhbjlbojdaa
open Go.RowKit Go.WideMaps Go.Maps
set_option linter.unusedVariables false

theorem wf_small {i : Int} (h0 : 0 ≤ i) (h1 : i ≤ 1000000) : (Lit.int .i64 i).wf = true := by
  exact WalkArith.wf_i64 (by omega)
theorem Within.of_grown {w w' : World} {b : Nat} (hg : w.grownBy w' (some b)) : Within b (b + 1) w w' :=
  ⟨hg.os, hg.tape, hg.output, hg.size, fun k hk ho => hg.block k hk (fun e => by cases e; omega)⟩
def CountOut (P : Program) (K : TypeId) (w : World) (b N T : Nat) (F : Int → Int) (v : Int) (e : Ending) (w' : World) : Prop :=
  e = .returned (.int .i64 v) ∧ ∃ N' S', N' ≤ N + T ∧ Memo P K w' b N' S' F ∧ Within b (b + 1) w w'
theorem zero_i64 (w : World) : (zeroValue 2).run Try.prog w = .ok (.int .i64 0) w := by kernel_rfl
theorem miss_pos_ne {n m f : Nat} (h : miss n (m : Int) = f + 1) : ((m : Int) == (2 : Int) ^ n - 1) = false := by
  rw [beq_eq_false_iff_ne]
  intro e
  have h1 : 1 ≤ (2 : Nat) ^ n := Nat.one_le_two_pow
  have e2 : ((2 ^ n : Nat) : Int) = (2 : Int) ^ n := by push_cast; rfl
  have e3 : m = 2 ^ n - 1 := by omega
  rw [e3, miss_full] at h; omega
theorem miss_zero_eq {n m : Nat} (hm : m < 2 ^ n) (h : miss n (m : Int) = 0) : ((m : Int) == (2 : Int) ^ n - 1) = true := by
  rw [beq_iff_eq]
  have h1 : 1 ≤ (2 : Nat) ^ n := Nat.one_le_two_pow
  have e2 : ((2 ^ n : Nat) : Int) = (2 : Int) ^ n := by push_cast; rfl
  have e3 := miss_zero hm h
  omega

set_option maxRecDepth 100000 in
set_option maxHeartbeats 1600000 in
theorem orders_any (A : Option Addr) (n c : Nat) (ps : List Lift) (vs : List LV) (hv : ps.map Lift.val = vs) (hn : n ≤ 10) (hf : Fits vs) (hp : ∀ p ∈ ps, p.r.n ≤ 9223372036854775807) (lo hi b : Nat) (hhi : hi ≤ b) :
    ∀ (f m : Nat) (w : World) (N : Nat) (S : Int → Bool), m < 2 ^ n → miss n (m : Int) = f → Lifts w lo hi A n ps → Memo Try.prog 2 w b N S (gOf vs n) → N + tenN f ≤ 4000000000 →
    Calls Try.prog 165 #[.slice A n c, .int .i64 (m : Int), .map (some b)] w (CountOut Try.prog 2 w b N (tenN f) (gOf vs n) (gOf vs n m)) := by
  have HV := Lib.hid hv
  have HF := Lib.hid hf
  have HP := Lib.hid hp
  clear hv hf hp
  have hpb := pow_bd (n := n) (by omega)
  have hp2 : (2 : Nat) ^ n ≤ 1024 := Nat.pow_le_pow_right (n := 2) (by omega) hn
  intro f
  induction f with
  | zero =>
    intro m w N S hm hf h hM hN
    have HG : Hid (gOf vs n m = 1) := gOf_zero hf
    have hmm : m ≤ 1024 := by omega
    have heq := miss_zero_eq hm hf
    have HM := Lib.hid hM
    clear hM hm hf hp2
    go_enter Try.func165, Try.ntmps165
    go_wp2
    go_ret
    exact ⟨by rw [HG.out]; rfl, N, S, Nat.le_add_right _ _, HM.out, Within.refl _ _ _⟩
  | succ f ih =>
    intro m w N S hm hf h hM hN
    have hmm : m ≤ 1024 := by omega
    have hne := miss_pos_ne hf
    have HB := Lib.hid hM.lt
    have hlook := hM.look (t := 158) Try.underlying158 Try.underlying2 (zero_i64 w) (wf_small (i := (m : Int)) (by omega) (by omega))
    have HM := Lib.hid hM
    cases hs : S (m : Int)
    · rw [hs] at hlook
      have HS := Lib.hid hs
      have HSTEP := Lib.hid (gOf_step (vs := vs) hf)
      have HFF := Lib.hid hf
      have HLT := Lib.hid hm
      have HH := Lib.hid h
      have hrl := rdTo_len vs (m : Int) n
      have hsz := HB.out
      clear hM hs hm hf h
      go_enter Try.func165, Try.ntmps165
      go_wp2_with fail
      refine (ready_any A n c ps vs HV.out (m : Int) _ lo (HH.out.more (by omega)) (by omega) HF.out (by omega) (by omega) HP.out).mono ?_
      rintro _ w2 ⟨A2, cp, rfl, ho, hb2⟩
      clear hlook hne
      have HHO := Lib.hid ho
      have HM2 := Lib.hid (HM.out.bel hb2 HB.out)
      have HW2 := Lib.hid (Within.of_below b (b + 1) hb2)
      have hs2 := hb2.size
      obtain ⟨rs, hrs⟩ : ∃ rs, rdTo vs (m : Int) n = rs := ⟨_, rfl⟩
      rw [hrs] at HHO hrl HSTEP ⊢
      have HRS := Lib.hid hrs
      clear ho hb2 hrs
      obtain ⟨K, hK⟩ : ∃ K, rs.length = K := ⟨_, rfl⟩
      rw [hK] at HHO hrl ⊢
      have HK := Lib.hid hK
      clear hK
      have htn := Nat.mul_le_mul_right (tenN f) (show K ≤ 10 by omega)
      obtain ⟨T, hT⟩ : ∃ T, tenN f = T := ⟨_, rfl⟩
      have hT1 : tenN (f + 1) = 1 + 10 * T := by rw [← hT]; rfl
      rw [hT1] at hN
      rw [hT] at htn ih
      have HT1 := Lib.hid hT1
      clear hT hT1
      go_wp2
      go_loopw [9, 30] (fun s i wr => ∃ (q N' : Nat) (S' : Int → Bool), q ≤ K ∧ i = .int .i64 q ∧ s = .int .i64 (gSum vs n m (rs.take q)) ∧ N' ≤ N + q * T ∧ Memo Try.prog 2 wr b N' S' (gOf vs n) ∧ Within b (b + 1) w2 wr) (fun _ i _ => K - (intOf i).toNat)
      case atStart => exact ⟨0, N, S, Nat.zero_le _, rfl, rfl, by omega, HM2.out, Within.refl _ _ _⟩
      case round =>
        obtain ⟨q, N', S', hq, rfl, rfl, hN', hM', hW'⟩ := hrel
        have HM' := Lib.hid hM'
        have HW' := Lib.hid hW'
        have hs' := hW'.size
        have hqT := Nat.mul_le_mul_right T hq
        clear hM' hW'
        by_cases hlt : q < K
        · have hqT1 : q * T + T ≤ K * T := by rw [← Nat.succ_mul]; exact Nat.mul_le_mul_right T hlt
          obtain ⟨b4, off4, x, ea, hx4, _, _, e0⟩ := Ints.at ((HHO.out.arr ic_len).within HW'.out (Nat.le_refl _) (.inr (by omega))) hlt
          have hxm := rdTo_mem (by rw [HRS.out]; exact List.mem_of_getElem? hx4)
          obtain ⟨j, rfl, hj, hcan⟩ := hxm
          have HX4 := Lib.hid (gSum_take (vs := vs) (n := n) (m := m) hx4)
          have hg1 := gSum_big vs hn (m : Int) (rs.take q) (by rw [List.length_take]; omega)
          have hwl := withI_lt (m := (m : Int)) (k := (j : Int)) (n := n) (by omega) (by have := HLT.out; have e2 : ((2 ^ n : Nat) : Int) = (2 : Int) ^ n := by push_cast; rfl
                                                                                         omega) (by omega) (by omega)
          obtain ⟨u, hu⟩ := Int.eq_ofNat_of_zero_le (withI_nonneg (m : Int) (j : Int))
          have hmu := miss_with hj (canB_not hcan)
          rw [hu] at hwl hmu HX4
          have hul : u < 2 ^ n := by
            have e2 : ((2 ^ n : Nat) : Int) = (2 : Int) ^ n := by push_cast; rfl
            omega
          have hg2 := gOf_big vs hn (u : Int)
          have HUL := Lib.hid hul
          have hpj := pow_bd (n := j) (by omega)
          have HOR : Hid (bits .or .i64 (m : Int) (2 ^ j) = (u : Int)) := by have h9 := or_shl (m : Int) j (by omega) (by omega) (by omega) (by omega); rw [Int.toNat_natCast, hu] at h9; exact h9
          have HMU : Hid (miss n (u : Int) = f) := by show _ = _; have := HFF.out; omega
          obtain ⟨s0, hs0⟩ : ∃ s0, gSum vs n (m : Int) (rs.take q) = s0 := ⟨_, rfl⟩
          obtain ⟨g0, hg0⟩ : ∃ g0, gOf vs n (u : Int) = g0 := ⟨_, rfl⟩
          rw [hs0] at hg1 HX4
          rw [hg0] at hg2 HX4
          rw [hs0]
          have HG0 := Lib.hid hg0
          have hq1 : (q : Int) < (K : Int) := by omega
          clear hx4 hcan hu hwl hmu hul hs0 hg0
          go_wp2_with fail
          rw [HOR.out]
          refine (ih u _ N' S' HUL.out HMU.out (HH.out.within (HW2.out.trans HW'.out) (by omega) (.inl hhi)) HM'.out (by omega)).mono ?_
          rintro _ w4 ⟨rfl, N4, S4, hN4, hM4, hW4⟩
          rw [HG0.out]
          have HM4 := Lib.hid hM4
          have HW4 := Lib.hid hW4
          clear hM4 hW4
          go_wp2
          rw [← ea]
          go_roundw
          case rel => exact ⟨q + 1, N4, S4, by omega, by go_num, by rw [HX4.out], by rw [Nat.succ_mul]; omega, HM4.out, HW'.out.trans HW4.out⟩
          case measure => simp [intOf]; omega
        · obtain rfl : q = K := by omega
          have HE : Hid (gSum vs n (m : Int) (rs.take q) = gOf vs n (m : Int)) := by show _ = _; rw [List.take_of_length_le (by rw [HK.out]; exact Nat.le_refl _)]; exact HSTEP.out.symm
          rw [HE.out]
          go_wp2_with (at_mapUpdate; refine wpList_put_memo rfl _ _ _ 158 rfl 2 2 Try.underlying158 Try.underlying2 b N' S' (gOf vs n) rfl HM'.out (by omega) (m : Int) rfl rfl (wf_small (by omega) (by omega)) ?_; intro w5 hM5 hg5)
          go_ret
          exact ⟨rfl, N' + 1, _, by have := HT1.out; omega, hM5, (HW2.out.trans HW'.out).trans (Within.of_grown hg5)⟩
    · rw [hs] at hlook
      simp only [if_true] at hlook
      have HS := Lib.hid hs
      clear hM hs hp2 ih hm
      go_enter Try.func165, Try.ntmps165
      go_wp2
      go_ret
      exact ⟨rfl, N, S, Nat.le_add_right _ _, HM.out, Within.refl _ _ _⟩

def clCode (vs : List LV) : Int := if liftsOk vs then 0 else 1
def clVal (vs : List LV) : Int := if liftsOk vs then gOf vs vs.length 0 else 0
theorem miss_all (n : Nat) : miss n (0 : Int) = n := by
  unfold miss
  have : hasI 0 = fun _ => false := funext fun j => hasI_zero j
  rw [this, cntTo_none]; rfl
set_option maxHeartbeats 800000 in
theorem countLiftOrders_any (A : Option Addr) (n c : Nat) (ps : List Lift) (vs : List LV) (hv : ps.map Lift.val = vs) (w : World) (lo : Nat) (h : Lifts w lo w.heap.size A n ps) (hn : n ≤ 1048576) (hp : ∀ p ∈ ps, p.wf) :
    Calls Try.prog 78 #[.slice A n c] w fun e w' => e = .returned (.tuple #[.int .i64 (clVal vs), .int .i64 (clCode vs)]) ∧ Below w.heap.size w w' := by
  have HL : Hid (vs.length = n) := by show _ = _; rw [lv_len hv, h.len]
  have hmm := @run_makeMap Try.prog
  cases h1 : liftsOk vs
  · have H : Hid (clVal vs = 0 ∧ clCode vs = 1) := by show _ ∧ _; unfold clVal clCode; rw [h1]; exact ⟨rfl, rfl⟩
    go_enter Try.func78, Try.ntmps78
    go_wp2_with fail
    refine (validLifts_any _ _ _ ps vs hv _ _ h hn hp).mono ?_
    rintro e w1 ⟨rfl, hb⟩
    rw [h1]
    go_wp2
    go_ret2
    exact ⟨by rw [H.out.1, H.out.2]; rfl, hb⟩
  · have H : Hid (clVal vs = gOf vs n 0 ∧ clCode vs = 0) := by show _ ∧ _; unfold clVal clCode; rw [h1, HL.out]; exact ⟨rfl, rfl⟩
    have hn10 : n ≤ 10 := by have := liftsOk_len h1; rw [HL.out] at this; exact this
    have hf := Lib.hid (fits_of h1)
    have H1 := Lib.hid h1
    clear h1
    go_enter Try.func78, Try.ntmps78
    go_wp2_with fail
    refine (validLifts_any _ _ _ ps vs hv _ _ h hn hp).mono ?_
    rintro e w1 ⟨rfl, hb⟩
    rw [H1.out]
    have hs1 := hb.size
    go_wp2_with fail
    have ht := tenN_le (f := n) hn10
    refine (show Calls Try.prog _ #[_, .int .i64 (((0 : Nat)) : Int), _] _ _ from orders_any A n c ps vs hv hn10 hf.out (fun p hpp => (hp p hpp).n) lo w.heap.size w1.heap.size hs1 n 0 _ 0 (fun _ => false) (Nat.two_pow_pos n) (miss_all n) ((h.below hb).below ((Below.refl _ _).alloc hs1 _)) (Memo.made w1 _) (by omega)).mono ?_
    rintro _ w4 ⟨rfl, N4, S4, _, _, hW4⟩
    go_wp2
    go_ret2
    exact ⟨by rw [H.out.1, H.out.2]; rfl, Below.within (hb.alloc hs1 _) hW4 hs1 (by simp; omega)⟩
end Go.Proofs.Ytbklbhbjlbojdaa
