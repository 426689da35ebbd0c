/- FnLiftOrders: the walk: the law returns true for every input. -/
import Derived.Test.YtbklbhbjlbojdaaDrawLifts
import Derived.Test.YtbklbhbjlbojdaaLong
import Derived.Test.YtbklbhbjlbojdaaOrdersLaw
import Derived.Test.YtbklbhbjlbojdaaCount
import Derived.Test.YtbklbhbjlbojdaaLiftRows
namespace Go.Proofs.Ytbklbhbjlbojdaa.lawLiftOrders
open Go.RowKit
set_option linter.unusedVariables false

def freeTo (vs : List LV) (k : Nat) : Bool := (vs.take k).all fun v => decide (v.2.length = 0)
theorem freeTo_all (vs : List LV) : freeTo vs vs.length = freeB vs := by unfold freeTo freeB; rw [List.take_of_length_le (Nat.le_refl _)]
theorem freeTo_succ {vs : List LV} {k : Nat} {v : LV} (h : vs[k]? = some v) : freeTo vs (k + 1) = (freeTo vs k && decide (v.2.length = 0)) := by
  unfold freeTo
  rw [List.take_add_one, h, List.all_append]; simp
theorem facI_le : ∀ k, k ≤ 6 → facI k ≤ 720 := by
  intro k hk
  match k, hk with
  | 0, _ => decide
  | 1, _ => decide
  | 2, _ => decide
  | 3, _ => decide
  | 4, _ => decide
  | 5, _ => decide
  | 6, _ => decide
def newLift : Lift := ⟨⟨newName, 1, 0, 0, 0, 0, 0, 1⟩, ⟨none, 0, 0, []⟩⟩
theorem newLift_wf : newLift.wf := ⟨⟨by decide +kernel, by decide, by decide, by decide, by decide, by decide, by decide, by decide⟩, by decide, trivial⟩
/-- what the last region of the law asks of the two counts -/
structure Facts (vs : List LV) (a : Int) : Prop where
  pos : 1 ≤ a
  le : a ≤ facI vs.length
  free : freeB vs = true → a = facI vs.length
  less : freeB vs = false → a < facI vs.length
theorem facts {vs : List LV} (h : liftsOk vs = true) : Facts vs (gOf vs vs.length 0) :=
  ⟨orders_pos (down_of h) rfl _ _ (miss_start _), (orders_le _ _ (miss_start _)).2, fun hf => (orders_iff (down_of h)).2 hf, fun hf => orders_less (down_of h) hf⟩
set_option maxRecDepth 100000 in
set_option maxHeartbeats 6400000 in
theorem walk (A0 : Option Addr) (n0 c0 : Nat) (xs0 : List Int) (w : World) (hn0 : n0 ≤ 9223372036854775807) (ha0 : Arr bc 1 w 0 w.heap.size A0 n0 xs0 ∧ ∀ p ∈ xs0, 0 ≤ p ∧ p ≤ 255) :
    Calls Try.prog 13 #[.slice A0 n0 c0] w fun e w' => e = .returned (.bool true) ∧ Below w.heap.size w w' := by
  by_cases hl : (decide (3000 < n0) || decide (3000 < 0)) = true
  · have H := Lib.hid hl
    clear hl
    go_enter Try.func13, Try.ntmps13
    go_wp2_with fail
    refine (a2Long_any A0 none n0 c0 0 0 hn0 (by omega) w).mono ?_
    rintro e w1 ⟨rfl, rfl⟩
    rw [H.out]
    go_wp2
    go_ret
    exact ⟨rfl, Below.refl _ _⟩
  · have hle : n0 ≤ 3000 := by
      rw [Bool.or_eq_true, decide_eq_true_eq, decide_eq_true_eq] at hl
      omega
    have H : Hid ((decide (3000 < n0) || decide (3000 < 0)) = false) := by show _ = _; simpa using hl
    obtain ⟨h0, x0⟩ := ha0
    clear hl
    go_enter Try.func13, Try.ntmps13
    go_wp2_with fail
    refine (a2Long_any A0 none n0 c0 0 0 hn0 (by omega) w).mono ?_
    rintro e w1 ⟨rfl, rfl⟩
    rw [H.out]
    go_wp2_with fail
    refine (a2Lifts_any A0 n0 c0 xs0 w h0 x0 (by omega)).mono ?_
    rintro e w1 ⟨A, c, ps, rfl, hgood, hlen, hc1, hc2, hL, hps, hb1⟩
    obtain ⟨n, hn⟩ : ∃ n, ps.length = n := ⟨_, rfl⟩
    rw [hn] at hlen hc1 hL ⊢
    have hvl : (ps.map Lift.val).length = n := by rw [List.length_map]; exact hn
    have hok := good_ok hgood (by omega)
    have hnew := good_new hgood (by omega)
    have HWF : Hid (∀ p ∈ ps, p.wf) := fun p hp => (hps p hp).2.2
    have HRN : Hid (∀ p ∈ ps, p.r.n ≤ 1048576) := fun p hp => Nat.le_trans (hps p hp).2.1 (by omega)
    have HHD : Hid (∀ p ∈ ps, Headed p.r) := fun p hp => (hps p hp).1
    have HOK := Lib.hid hok
    have HNEW := Lib.hid hnew
    have HFA := Lib.hid (facts hok)
    have HB1 := Lib.hid hb1
    have hz1 := hb1.size
    clear hgood hps hok hnew hb1 h0 x0
    go_wp2_with fail
    refine (specAddLiftH_any A n c ps (ps.map Lift.val) rfl newLift w1 w.heap.size w.heap.size hL (by omega) hc1 hc2 HWF.out HRN.out HHD.out newLift_wf (by decide) (.inr ⟨rfl, rfl, rfl⟩) ⟨rfl, fun h => absurd h (by decide)⟩).mono ?_
    rintro e w2 ⟨A2, c2, ps2, rfl, hv2, hL2, hb2⟩
    rw [show newLift.val = newL from rfl, HNEW.out.1] at hv2 hL2 ⊢
    rw [HNEW.out.2.1]
    have HL2 := Lib.hid (hL.below hb2)
    have hn2' : (ps.map Lift.val ++ [newL]).length = n + 1 := by rw [List.length_append, hvl]; rfl
    obtain ⟨n2, hn2⟩ : ∃ n2, (ps.map Lift.val ++ [newL]).length = n2 := ⟨_, rfl⟩
    rw [hn2] at hn2' hL2 ⊢
    have HN2 := Lib.hid hn2'
    have HN3 := Lib.hid hn2
    have hn2b : n2 ≤ 7 := by omega
    clear hn2' hn2
    have HB2 := Lib.hid (HB1.out.trans (hb2.mono hz1))
    have hz2 := hb2.size
    have HWF2 : Hid (∀ p ∈ ps2, p.wf) := by
      refine recs_wf (ps := ps ++ [newLift]) ?_ (rows_len hL2) ?_ ?_
      · rw [hv2, List.map_append]; rfl
      · intro p hp
        rcases List.mem_append.1 hp with hp | hp
        · exact rows_len hL p hp
        · rw [List.mem_singleton] at hp; subst hp; rfl
      · intro p hp
        rcases List.mem_append.1 hp with hp | hp
        · exact HWF.out p hp
        · rw [List.mem_singleton] at hp; subst hp; exact newLift_wf
    have HV2 := Lib.hid hv2
    have HLL2 := Lib.hid hL2
    clear hL hL2 hb2 hv2
    go_wp2_with fail
    refine (countLiftOrders_any A n c ps (ps.map Lift.val) rfl w2 w.heap.size (HL2.out.more hz2) (by omega) HWF.out).mono ?_
    rintro e w3 ⟨rfl, hb3⟩
    have e1 : clVal (ps.map Lift.val) = gOf (ps.map Lift.val) n 0 := by unfold clVal; rw [HOK.out, if_pos rfl, hvl]
    have e2 : clCode (ps.map Lift.val) = 0 := by unfold clCode; rw [HOK.out, if_pos rfl]
    rw [e1, e2]
    have HB3 := Lib.hid (HB2.out.trans (hb3.mono (by omega)))
    have HL3 := Lib.hid ((HL2.out.more hz2).below hb3)
    have HLL3 := Lib.hid (HLL2.out.below hb3)
    have hz3 := hb3.size
    clear hb3
    obtain ⟨a, ha⟩ : ∃ a, gOf (ps.map Lift.val) n 0 = a := ⟨_, rfl⟩
    rw [ha]
    go_wp2_with fail
    refine (countLiftOrders_any A2 n2 c2 ps2 (ps.map Lift.val ++ [newL]) HV2.out w3 w1.heap.size (HLL3.out.more hz3) (by omega) HWF2.out).mono ?_
    rintro e w4 ⟨rfl, hb4⟩
    have e3 : clVal (ps.map Lift.val ++ [newL]) = a * (n2 : Int) := by
      unfold clVal
      rw [HNEW.out.2.2, if_pos rfl, HN3.out, ← ha, HN2.out]
      have := orders_more (vs := ps.map Lift.val) (v := newL) (down_of HOK.out) rfl
      rw [hvl] at this
      rw [this]; push_cast; rfl
    have e4 : clCode (ps.map Lift.val ++ [newL]) = 0 := by unfold clCode; rw [HNEW.out.2.2, if_pos rfl]
    rw [e3, e4]
    have HB4 := Lib.hid (HB3.out.trans (hb4.mono (by omega)))
    have HL4 := Lib.hid ((HL3.out.more hz3).below hb4)
    have hz4 := hb4.size
    have hf := HFA.out
    rw [hvl, ha] at hf
    obtain ⟨f1, f2, f3, f4⟩ := hf
    rw [hvl] at f2 f3 f4
    have f5 := facI_le n hlen
    have hq0 : 0 ≤ a * (n2 : Int) := Int.mul_nonneg (by omega) (by omega)
    have hq1 : a * (n2 : Int) ≤ 720 * (n2 : Int) := Int.mul_le_mul_of_nonneg_right (by omega) (by omega)
    have F3 := Lib.hid f3
    have F4 := Lib.hid f4
    clear f3 f4 hb4 e1 e2 e3 e4 HFA HOK HNEW HWF HRN HHD HV2 HWF2 HLL2 HLL3 HL3 HL2 HB1 HB2 HB3 HN2 HN3
    go_wp2
    go_loopw [10, 11, 12] (fun al fr iv wr => ∃ k : Nat, k ≤ n ∧ al = .int .i64 (facI k) ∧ fr = .bool (freeTo (ps.map Lift.val) k) ∧ iv = .int .i64 k ∧ wr = w4) (fun _ _ iv _ => n - (intOf iv).toNat)
    case atStart => exact ⟨0, Nat.zero_le _, rfl, rfl, rfl, rfl⟩
    case round =>
      obtain ⟨k, hk, rfl, rfl, rfl, rfl⟩ := hrel
      by_cases hlt : k < n
      · obtain ⟨b, off, p, eA, hx, _, hbl, hrow, g0, g1, g2, g3, g4, g5, g6, g7, g8⟩ := Lift.at HL4.out hlt
        have hxl : p.r.xs.length = p.r.n := hrow.1
        have hval : (ps.map Lift.val)[k]? = some p.val := by rw [List.getElem?_map, hx]; rfl
        have hfs := freeTo_succ hval
        have HS := Lib.hid hfs
        have hF := facI_le k (by omega)
        have hF1 := facI_pos k
        have hp0 : 0 ≤ facI k * ((k : Int) + 1) := Int.mul_nonneg (by omega) (by omega)
        have hp1 : facI k * ((k : Int) + 1) ≤ 720 * ((k : Int) + 1) := Int.mul_le_mul_of_nonneg_right (by omega) (by omega)
        have hfk : facI (k + 1) = facI k * ((k : Int) + 1) := rfl
        have hk1 : (k : Int) < (n : Int) := by omega
        have hk0 : (0 : Int) ≤ (k : Int) := by omega
        clear hrow hx hval hfs
        subst eA
        cases hfr : freeTo (ps.map Lift.val) k
        · have hfn : freeTo (ps.map Lift.val) (k + 1) = false := by rw [HS.out, hfr]; rfl
          go_wp2
          go_roundw
          case rel => exact ⟨k + 1, by omega, by rw [hfk], by rw [hfn], by go_num, by trivial⟩
          case measure => simp [intOf]; omega
        · have hfn : freeTo (ps.map Lift.val) (k + 1) = decide (p.r.n = 0) := by rw [HS.out, hfr, ← hxl]; rfl
          by_cases hz : p.r.n = 0
          · have hz2 : (p.r.n : Int) = 0 := by omega
            rw [decide_eq_true hz] at hfn
            go_wp2
            go_roundw
            case rel => exact ⟨k + 1, by omega, by rw [hfk], (by rw [hfn]; first | done | simp [hz]), by go_num, by trivial⟩
            case measure => simp [intOf]; omega
          · have hz2 : ¬ (p.r.n : Int) = 0 := by omega
            rw [decide_eq_false hz] at hfn
            go_wp2
            go_roundw
            case rel => exact ⟨k + 1, by omega, by rw [hfk], (by rw [hfn]; first | done | simp [hz]), by go_num, by trivial⟩
            case measure => simp [intOf]; omega
      · obtain rfl : k = n := by omega
        have hfa : freeTo (ps.map Lift.val) k = freeB (ps.map Lift.val) := by rw [← hvl]; exact freeTo_all _
        rw [hfa]
        cases hfr : freeB (ps.map Lift.val)
        · have h4 := F4.out hfr
          have h5 : ¬ a = facI k := by omega
          have H5 : Hid ((!(a == facI k)) = true) := by show _ = _; rw [beq_eq_false_iff_ne.2 h5]; rfl
          go_wp2
          go_ret
          exact ⟨by first | rfl | (show Ending.returned (.bool (!(a == facI k))) = _; rw [H5.out]), HB4.out⟩
        · have h3 := F3.out hfr
          rw [← h3]
          clear h3 f2 f5 F3 F4
          go_wp2
          go_ret
          exact ⟨rfl, HB4.out⟩
end Go.Proofs.Ytbklbhbjlbojdaa.lawLiftOrders
