/- CoveredHours of the program: chXs and shCode. -/
import Derived.Test.YtdhobglhjdgboaaCovLaw
import Derived.Test.YtdhobglhjdgboaaRawMap
import Derived.Test.YtdhobglhjdgboaaRInt64
import Derived.Test.YtdhobglhjdgboaaShelf
import Derived.Maps.RangeWalk
import Derived.Lib.SlKeysI
import Derived.Sort.OwnSortedInts
namespace Go.Proofs.Ytdhobglhjdgboaa
open Go.RowKit Go.Sort Go.Maps
set_option linter.unusedVariables false

/-- the map's values behind k shifts, and behind t hours of the next -/
def chV (xs : List Shift) (c : Int) (k : Nat) (h : Int) : Value := .int .i64 ((rbTo xs c h k : Nat) : Int)
def chU (xs : List Shift) (c : Int) (k : Nat) (x : Shift) (t : Nat) (h : Int) : Value := .int .i64 (((if x.crane = c ∧ x.start ≤ h ∧ h < x.start + (t : Int) then rbTo xs c h k ||| x.role.toNat else rbTo xs c h k : Nat)) : Int)
theorem chU_zero {xs : List Shift} {c : Int} {k : Nat} {x : Shift} (h : Int) : chU xs c k x 0 h = chV xs c k h := by
  unfold chU chV; rw [if_neg (by omega)]
theorem chU_other {xs : List Shift} {c : Int} {k : Nat} {x : Shift} (hx : x.crane ≠ c) (t : Nat) (h : Int) : chU xs c k x t h = chV xs c k h := by
  unfold chU chV; rw [if_neg (fun h9 => hx h9.1)]
theorem chU_end {xs : List Shift} {c : Int} {k t : Nat} {x : Shift} (hx : xs[k]? = some x) (ht : x.start + (t : Int) = x.stop) (h : Int) : chU xs c k x t h = chV xs c (k + 1) h := by
  unfold chU chV; rw [rbTo_of hx, ht]
theorem chV_end {xs : List Shift} {c : Int} {k : Nat} {x : Shift} (hx : xs[k]? = some x) (hc : x.crane ≠ c) (h : Int) : chV xs c k h = chV xs c (k + 1) h := by
  unfold chV; rw [rbTo_of hx, if_neg (fun h9 => hc h9.1)]
theorem chU_step {xs : List Shift} {c : Int} {k t : Nat} {x : Shift} (hc : x.crane = c) (h : Int) : (if h = x.start + (t : Int) then Value.int .i64 ((rbTo xs c (x.start + (t : Int)) k ||| x.role.toNat : Nat) : Int) else chU xs c k x t h) = chU xs c k x (t + 1) h := by
  unfold chU
  by_cases h1 : h = x.start + (t : Int)
  · rw [if_pos h1, if_pos ⟨hc, by omega, by omega⟩, h1]
  · rw [if_neg h1]
    congr 2
    by_cases h2 : x.start ≤ h ∧ h < x.start + (t : Int)
    · rw [if_pos ⟨hc, h2.1, h2.2⟩, if_pos ⟨hc, h2.1, by omega⟩]
    · rw [if_neg (fun h9 => h2 h9.2), if_neg (fun h9 => h2 ⟨h9.2.1, by have := h9.2.2; omega⟩)]
theorem chU_at {xs : List Shift} {c : Int} {k t : Nat} {x : Shift} : chU xs c k x t (x.start + (t : Int)) = .int .i64 ((rbTo xs c (x.start + (t : Int)) k : Nat) : Int) := by
  unfold chU; rw [if_neg (by omega)]
theorem chV_covB {xs : List Shift} (hok : xs.any badShift = false) (c h : Int) : ((rbTo xs c h xs.length).testBit 0 && (rbTo xs c h xs.length).testBit 1) = covB xs c h := by
  obtain ⟨_, h1, h2⟩ := rb_all hok c h xs.length (Nat.le_refl _)
  rw [h1, h2]; rfl
theorem wf_hour {i : Int} (h0 : 0 ≤ i) (h1 : i ≤ 1000000) : (Lit.int .i64 i).wf = true := by
  exact WalkArith.wf_i64 (by omega)
theorem growLess {α : Type} {c : α → List Value} {k : Nat} {w : World} {lo lo' : Nat} {e : TypeId} {v : Value} {xs : List α} (h : Grow c k w lo e v xs) (hB : lo' ≤ lo) : Grow c k w lo' e v xs := by
  refine ⟨h.1, ?_⟩
  rcases h.2 with h2 | ⟨g, cap, cur, hv, hg, r⟩
  · exact .inl h2
  · exact .inr ⟨g, cap, cur, hv, by omega, r⟩
theorem flat_ic (l : List Int) : l.flatMap ic = l.map (Value.int .i64) := by
  induction l with
  | nil => rfl
  | cons x l ih => rw [List.flatMap_cons, ih]; rfl
theorem sort_pw {ys : List Int} (h : ys.Nodup) : (ys.mergeSort fun x y => decide (x ≤ y)).Pairwise (· < ·) := by
  have tr : ∀ a b c : Int, decide (a ≤ b) = true → decide (b ≤ c) = true → decide (a ≤ c) = true := fun a b c h1 h2 => by simp only [decide_eq_true_eq] at *; exact Int.le_trans h1 h2
  have to : ∀ a b : Int, (decide (a ≤ b) || decide (b ≤ a)) = true := fun a b => by simp only [Bool.or_eq_true, decide_eq_true_eq]; exact Int.le_total a b
  have h1 := List.pairwise_mergeSort tr to ys
  have h2 : (ys.mergeSort fun x y => decide (x ≤ y)).Nodup := (List.mergeSort_perm ys _).nodup_iff.2 h
  refine (h1.and h2).imp fun {a b} hab => ?_
  have := hab.1
  have h3 := hab.2
  simp only [decide_eq_true_eq] at this
  omega
/-- what was collected, sorted, is what is asked -/
theorem sort_chL {xs : List Shift} {c : Int} (hok : xs.any badShift = false) {ss : List Int} (hnd : ss.Nodup) (hm : ∀ h, covB xs c h = true → h ∈ ss) : ((ss.filter fun h => covB xs c h).mergeSort fun x y => decide (x ≤ y)) = chL xs c := by
  refine chL_eq hok (sort_pw (hnd.filter _)) fun h => ?_
  rw [List.mem_mergeSort, List.mem_filter]
  exact ⟨(·.2), fun h1 => ⟨hm h h1, h1⟩⟩
theorem zeroI (w : World) : (zeroValue 2).run Try.prog w = .ok (.int .i64 0) w := by kernel_rfl

set_option maxRecDepth 100000 in
set_option maxHeartbeats 1000000 in
theorem coveredHours_yes (A : Option Addr) (n cc : Nat) (xs : List Shift) (c : Int) (w : World) (lo : Nat) (h : Arr Shift.cs 5 w lo w.heap.size A n xs) (hn : n ≤ 1048576) (h0 : shCode xs c 5 = 0) :
    Calls Try.prog 9 #[.slice A n cc, .int .i64 c] w (RetS ic 1 2 (chXs xs c) (shCode xs c 5) w) := by
  obtain ⟨h1, h2, h3⟩ := shCode_zero h0
  have HL := Lib.hid h.1
  have HBAD := Lib.hid h1
  have HH := Lib.hid h
  have hn60 : (n : Int) ≤ 60 := by rw [HL.out] at h2; exact h2
  have H0 := Lib.hid h0
  have e0 : (shCode xs c 5 != 0) = false := by rw [h0]; rfl
  have hmm := @run_makeMap Try.prog
  have HZ := Lib.hid zeroI
  clear h0 h1 h2 h3 h
  go_enter Try.func9, Try.ntmps9
  go_wp2_with fail
  refine (shiftsCode_any A n cc xs c 5 _ lo HH.out hn).mono ?_
  rintro e w1 ⟨rfl, hb1⟩
  have HB1 := Lib.hid hb1
  clear hb1
  go_wp2
  clear e0 hmm
  go_loopw [23] (fun i wr => ∃ k m : Nat, k ≤ n ∧ i = .int .i64 k ∧ m ≤ 12 * k ∧ RawMap Try.prog 2 wr w1.heap.size m (.int .i64 0) (chV xs c k) ∧ Below w.heap.size w wr) (fun i _ => n - (intOf i).toNat)
  case atStart => exact ⟨0, 0, Nat.zero_le _, rfl, Nat.le_refl _, RawMap.made w1 _, HB1.out.alloc HB1.out.size _⟩
  case round =>
    rename World => wo
    obtain ⟨k, m, hk, rfl, hm, hmap, hb⟩ := hrel
    have HM := Lib.hid hmap
    have HB := Lib.hid hb
    by_cases hlt : k < n
    · obtain ⟨b, off, x, rfl, hx, _, hbl, c0, c1, c2, c3, c4⟩ := Shift.at (HH.out.below hb) hlt
      obtain ⟨f1, f2, f3, f4, f5⟩ := fOk_iff (fOk_all HBAD.out hx)
      have HX := Lib.hid hx
      have HF3 := Lib.hid f3
      have hk1 : (k : Int) < (n : Int) := by omega
      have hsz := hb.size
      have hml := hmap.lt
      obtain ⟨W, hW⟩ : ∃ W : World, W = wo.alloc (.cells #[.int .i64 x.person, .int .i64 x.crane, .int .i64 x.role, .int .i64 x.start, .int .i64 x.stop] 74) := ⟨_, rfl⟩
      have hbW : Below wo.heap.size wo W := by rw [hW]; exact (Below.refl _ _).alloc (Nat.le_refl _) _
      have HBW := Lib.hid hbW
      have PB : Blk W wo.heap.size 74 #[.int .i64 x.person, .int .i64 x.crane, .int .i64 x.role, .int .i64 x.start, .int .i64 x.stop] := by rw [hW]; exact Blk.new _ _ _
      have HPB := Lib.hid PB
      have d3 : W.cell? ⟨wo.heap.size, 3, none⟩ = some (.int .i64 x.start) := PB.cell 3
      have HMW := Lib.hid (hmap.bel hbW hml)
      have HBWW := Lib.hid (hb.trans (hbW.mono hsz))
      clear hx f3 hmap hb hbW PB
      go_wp2
      rw [← hW]
      clear hW c0 c1 c2 c3 c4
      go_wp2
      obtain ⟨cnt, hcnt⟩ : ∃ cnt : Nat, x.start + (cnt : Int) = x.stop := ⟨(x.stop - x.start).toNat, by omega⟩
      have hc12 : cnt ≤ 12 := by omega
      have HCNT := Lib.hid hcnt
      clear hcnt
      by_cases hcr : x.crane = c
      · have HCR := Lib.hid hcr
        have hcb : (x.crane == c) = true := beq_iff_eq.2 hcr
        clear hcr
        go_loopw [10] (fun v wq => ∃ t : Nat, t ≤ cnt ∧ v = .int .i64 (x.start + (t : Int)) ∧ RawMap Try.prog 2 wq w1.heap.size (m + t) (.int .i64 0) (chU xs c k x t) ∧ Below w.heap.size w wq ∧ Blk wq wo.heap.size 74 #[.int .i64 x.person, .int .i64 x.crane, .int .i64 x.role, .int .i64 x.start, .int .i64 x.stop]) (fun v _ => cnt - (intOf v - x.start).toNat)
        case atStart => exact ⟨0, Nat.zero_le _, by simp, by rw [show chU xs c k x 0 = chV xs c k from funext chU_zero]; exact HMW.out, HBWW.out, HPB.out⟩
        case round =>
          obtain ⟨t, ht, rfl, hmt, hbt, hpt⟩ := hrel
          have HMT := Lib.hid hmt
          have HBT := Lib.hid hbt
          have HPT := Lib.hid hpt
          have d1 : wr.cell? ⟨wo.heap.size, 1, none⟩ = some (.int .i64 x.crane) := hpt.cell 1
          have d2 : wr.cell? ⟨wo.heap.size, 2, none⟩ = some (.int .i64 x.role) := hpt.cell 2
          have d4 : wr.cell? ⟨wo.heap.size, 4, none⟩ = some (.int .i64 x.stop) := hpt.cell 4
          have hstop := HCNT.out
          have hhw : (Lit.int .i64 (x.start + (t : Int))).wf = true := wf_hour (by omega) (by omega)
          have HW9 := Lib.hid hhw
          have hlook := hmt.look (t := 80) Try.underlying80 Try.underlying2 (HZ.out _) hhw
          rw [chU_at] at hlook
          obtain ⟨r8, _⟩ := rb_all HBAD.out c (x.start + (t : Int)) k (by rw [HL.out]; omega)
          have HOR := Lib.hid (or_role r8 HF3.out)
          have HSTEP := Lib.hid (funext (chU_step (xs := xs) (k := k) (t := t) HCR.out))
          generalize rbTo xs c (x.start + (t : Int)) k = R at *
          by_cases htl : t < cnt
          · have h4 : x.start + (t : Int) < x.stop := by omega
            clear hmt hbt hpt hstop
            go_wp2_with (at_mapUpdate; refine wpList_put_raw rfl _ _ _ 80 rfl 2 2 Try.underlying80 Try.underlying2 w1.heap.size (m + t) (.int .i64 0) (chU xs c k x t) rfl HMT.out (by omega) (x.start + (t : Int)) (.int .i64 (bits .or .i64 (R : Int) x.role)) rfl rfl HW9.out ?_; intro w5 hm5 hg5)
            go_roundw
            case rel =>
              refine ⟨t + 1, by omega, by show Value.int .i64 _ = Value.int .i64 _; congr 1; omega, ?_, ?_, ?_⟩
              · rw [← HSTEP.out]
                rw [HOR.out] at hm5
                exact hm5
              · exact HBT.out.grown hg5 HBT.out.size (fun g hg => by cases hg; exact HB1.out.size)
              · exact (hg5.block _ HPT.out.lt (by intro h9; have := Option.some.inj h9; omega)).trans HPT.out
            case measure => simp [intOf]; omega
          · have h4 : ¬ x.start + (t : Int) < x.stop := by omega
            have htc : t = cnt := by omega
            subst htc
            clear hmt hbt hpt
            have HST := Lib.hid hstop
            clear hstop
            go_wp2
            go_roundw
            case rel => exact ⟨k + 1, m + t, by omega, by go_num, by omega, by rw [← show chU xs c k x t = chV xs c (k + 1) from funext (chU_end HX.out HST.out)]; exact HMT.out, HBT.out⟩
            case measure => simp [intOf]; omega
      · have HCR := Lib.hid hcr
        have hcb : (x.crane == c) = false := beq_eq_false_iff_ne.2 hcr
        have d1 : W.cell? ⟨wo.heap.size, 1, none⟩ = some (.int .i64 x.crane) := HPB.out.cell 1
        clear hcr
        go_loopw [10] (fun v wq => v = .int .i64 x.start ∧ wq = W) (fun v _ => 0)
        case atStart => exact ⟨rfl, rfl⟩
        case round =>
          obtain ⟨rfl, rfl⟩ := hrel
          go_wp2
          go_roundw
          case rel => exact ⟨k + 1, m, by omega, by go_num, by omega, by rw [← show chV xs c k = chV xs c (k + 1) from funext (chV_end HX.out HCR.out)]; exact HMW.out, HBWW.out⟩
          case measure => simp [intOf]; omega
    · have hkn : k = n := by omega
      subst hkn
      obtain ⟨D, hown, hD, hat⟩ := HM.out
      have HAT := Lib.hid hat
      have HSZ := Lib.hid hown.size_le
      have hmlt : w1.heap.size < wo.heap.size := hown.lt
      have HK := Lib.hid HL.out
      clear hmap hb hat HM hlt hk
      have hsz := HB.out.size
      go_wp2_with (at_range; refine wpList_range_own _ rfl _ 80 rfl 2 2 (int_keyed Try.underlying2) Try.underlying80 _ w1.heap.size m D rfl hown ?_; intro w0 hrg0 hg0 hs0)
      go_frame
      go_loopw [11] (fun v wr => ∃ (left : Lit → Bool) (cnt : Nat) (ss : List Int), wr.ranges Try.prog 2 (fun v => some (.held v, [])) w1.heap.size wo.heap.size m D left cnt ∧ ss.length + cnt ≤ Maps.size D ∧ CollectedI D left ss ∧ Grow ic 1 wr (wo.heap.size + 1) 2 v (ss.filter fun h => covB xs c h) ∧ wo.heap.size + 1 ≤ wr.heap.size ∧ Below w.heap.size w wr) (fun _ wr => wr.rangeLeft w1.heap.size wo.heap.size)
      case atStart => exact ⟨_, _, [], hrg0, by simp, CollectedI.start D, Grow.nil _ _ _, by omega, HB.out.grown hg0 hsz (fun g hg => by cases hg)⟩
      case round =>
        obtain ⟨left, cnt, ss, hrg, hcs, hC, hgr, hgs, hb⟩ := hrel
        have HC := Lib.hid hC
        have HGR := Lib.hid hgr
        have HBR := Lib.hid hb
        have hszr := hb.size
        have HRG := Lib.hid hrg
        have HRGL := Lib.hid hrg
        clear hC hgr hb
        go_wp2_with (at_next; refine wpList_next_ranges _ rfl _ rfl 2 (int_keyed Try.underlying2) (fun v => some (.held v, [])) encZ id (fun key kl hk => by obtain ⟨x, hx, _⟩ := Maps.keyOf_i64 Try.underlying2 hk; exact ⟨x, hx⟩) (fun v _ _ => ⟨v, rfl⟩) w1.heap.size wo.heap.size m _ _ _ rfl hrg ?_ ?_)
        · intro hc0 hl0
          have HSRT : Hid (((ss.filter fun h => covB xs c h).mergeSort fun x y => decide (x ≤ y)) = chL xs c) := by
            refine sort_chL HBAD.out HC.out.1 fun h hh => (HC.out.2 h).2 ⟨?_, hl0 _⟩
            cases hhas : Maps.has D (.int .i64 h)
            · exfalso
              have h7 := HAT.out h
              rw [Maps.atKey_of_not_has hhas] at h7
              have h8 := DataW.held.inj h7
              unfold chV at h8
              have h9 : rbTo xs c h k = 0 := by have := (Value.int.inj h8).2; omega
              rw [← chV_covB HBAD.out c h, HK.out, h9] at hh
              simp at hh
            · rfl
          have HOUT : Hid (chXs xs c = chL xs c) := by show _ = _; unfold chXs; rw [if_pos H0.out]
          have HLY : Hid ((ss.filter fun h => covB xs c h).length ≤ 720) := by
            have := List.length_filter_le (fun h => covB xs c h) ss
            have := HSZ.out
            show _ ≤ _; omega
          have HB9 := HBR.out
          have HGR := Lib.hid (growLess (lo' := w.heap.size) HGR.out (by omega))
          clear hrg HRG HC hcs hown hrg0 hg0 hs0
          obtain ⟨ys, hys⟩ : ∃ ys, (ss.filter fun h => covB xs c h) = ys := ⟨_, rfl⟩
          rw [hys] at HSRT HLY HGR
          have hly := HLY.out
          clear hys
          obtain ⟨A2, cap, rfl, ho⟩ := HGR.out.own ic_len
          by_cases h0 : 0 < ys.length
          · obtain ⟨g, cap', cs, hv, hlo, hgl, hh, hcap, hmax, hcs, htk⟩ := HGR.out.parts h0
            cases hv
            rw [Nat.mul_one, flat_ic] at htk
            rw [Nat.mul_one] at hcs
            have HCALL := Lib.hid (Try.slices_Sort_int g 0 cap ys wr (holds_of_blockI hh htk) hgl (by omega))
            have HH := Lib.hid hh
            have HMX := Lib.hid hmax
            have HCS := Lib.hid hcs
            clear ho htk hh HGR hmax hcs
            go_wp2_with fail
            refine HCALL.out.mono ?_
            rintro e w4 ⟨rfl, nd, os, hw4⟩
            have hl4 : (chL xs c).length = ys.length := by rw [← HSRT.out, List.length_mergeSort]
            have hg4 : Grow ic 1 w4 w.heap.size 2 (.slice (some ⟨g, 0, none⟩) ys.length cap) (chL xs c) := by
              have := ownsRow_sortedI (n := nd) (os := os) (base := w.heap.size) hl4 hlo HH.out hcap HMX.out (by rw [HCS.out, Nat.mul_one])
              rw [hw4, HSRT.out]
              unfold Grow
              rw [flat_ic, hl4]
              exact this
            have hb4 : Below w.heap.size w w4 := by
              rw [hw4]
              exact HB9.grown (grownBy_sortedI _) hszr (fun j hj => by cases hj; exact hlo)
            rw [← hl4] at hg4 ⊢
            clear hw4 hl4
            have HG4 := Lib.hid hg4
            go_wp2
            go_ret2
            rw [HOUT.out, H0.out]
            exact HG4.out.rets ic_len hb4
          · have hnil : ys = [] := List.length_eq_zero_iff.1 (by omega)
            subst hnil
            have HNL : Hid (chL xs c = []) := by show _ = _; rw [← HSRT.out]; exact List.mergeSort_nil
            clear HLY HSRT
            go_wp2_with fail
            refine (Try.slices_Sort_int_none A2 cap _).mono ?_
            rintro e w4 ⟨rfl, rfl⟩
            go_wp2
            go_ret2
            rw [HOUT.out, H0.out, HNL.out]
            exact HGR.out.rets ic_len HB9
        · intro x cv kl yd yp w2 cnt2 hkey hlk hyd hyp hat2 hrg2 hlt2 hg2 hs2 hen
          obtain ⟨x', ex, rfl, hxw⟩ := Maps.keyOf_i64 Try.underlying2 hkey
          obtain rfl : x = x' := encZ_inj ex
          have hcv : cv = chV xs c k x := by
            have h7 := HAT.out x
            rw [hat2, ← hyd] at h7
            exact DataW.held.inj h7
          obtain ⟨r8, _⟩ := rb_all HBAD.out c x k (by rw [HK.out]; exact Nat.le_refl _)
          have HCB : Hid (covB xs c x = ((rbTo xs c x k).testBit 0 && (rbTo xs c x k).testBit 1)) := by show _ = _; rw [← chV_covB HBAD.out c x, HK.out]
          unfold chV at hcv
          have HST := Lib.hid (HC.out.step hlk hat2)
          have a1 := and_one r8
          have a2 := and_two r8
          generalize rbTo xs c x k = R at *
          subst hcv
          subst hyd hyp
          have HRG2 := Lib.hid hrg2
          have HG2 := Lib.hid (HGR.out.kept hg2 (fun g hg e => by have := (HGR.out.lt g hg).1; have := Option.some.inj e; omega))
          have HB2 : Hid (RowKit.Below w.heap.size w w2) := HBR.out.grown hg2 hszr (fun j hj => by cases hj; exact hsz)
          have hen2 : (Instr.entry (.pointer (some ⟨wo.heap.size, 0, none⟩))).run Try.prog w2 = .ok (.tuple #[.int .i64 x, .int .i64 (R : Int)]) w2 := hen
          have HLK : Hid ((ss.filter fun h => covB xs c h).length ≤ 720) := by
            have := List.length_filter_le (fun h => covB xs c h) ss
            have := HSZ.out
            show _ ≤ _; omega
          have hfil : (ss ++ [x]).filter (fun h => covB xs c h) = (ss.filter fun h => covB xs c h) ++ (if covB xs c x then [x] else []) := by
            rw [List.filter_append]; congr 1
            cases hc9 : covB xs c x <;> simp [hc9]
          have HFIL := Lib.hid hfil
          have hle2 : wo.heap.size + 1 ≤ w2.heap.size := by omega
          have hle3 : w.heap.size ≤ w2.heap.size := by omega
          clear hen hkey hlk hat2 hrg HRG hg2 hrg2 ex hrg0 hg0 hs2 hfil
          cases hb0 : R.testBit 0
          · rw [hb0] at a1
            have HN : Hid ((ss ++ [x]).filter (fun h => covB xs c h) = ss.filter fun h => covB xs c h) := by show _ = _; rw [HFIL.out, HCB.out, hb0]; simp
            clear hb0 a2
            go_wp2
            go_roundw
            case rel => exact ⟨_, cnt2, ss ++ [x], HRG2.out, by simp; omega, HST.out, by rw [HN.out]; exact HG2.out, by omega, HB2.out⟩
            case measure => rw [HRG2.out.left_eq, HRGL.out.left_eq]; exact hlt2
          · cases hb1 : R.testBit 1
            · rw [hb0] at a1
              rw [hb1] at a2
              have HN : Hid ((ss ++ [x]).filter (fun h => covB xs c h) = ss.filter fun h => covB xs c h) := by show _ = _; rw [HFIL.out, HCB.out, hb0, hb1]; simp
              clear hb0 hb1
              go_wp2
              go_roundw
              case rel => exact ⟨_, cnt2, ss ++ [x], HRG2.out, by simp; omega, HST.out, by rw [HN.out]; exact HG2.out, by omega, HB2.out⟩
              case measure => rw [HRG2.out.left_eq, HRGL.out.left_eq]; exact hlt2
            · rw [hb0] at a1
              rw [hb1] at a2
              have HN : Hid ((ss ++ [x]).filter (fun h => covB xs c h) = (ss.filter fun h => covB xs c h) ++ [x]) := by show _ = _; rw [HFIL.out, HCB.out, hb0, hb1]; simp
              clear hb0 hb1
              go_wp2_with (at_builtin; refine wpList_snoc _ rfl _ _ 24 rfl (wo.heap.size + 1) 2 (.int .i64 0) 8 Try.underlying24 infoInt rfl (by omega) _ (ss.filter fun h => covB xs c h) x rfl (HG2.out.alloc _) _ _ rfl (heap_alloc_new _ _) rfl rfl (ic_one _) (by have := HLK.out; omega) (by omega) (by simp; omega) ?_; intro v5 w5 hg5 hgr5)
              have HB5 : Hid (RowKit.Below w.heap.size w w5) := (HG2.out.alloc _).below (HB2.out.alloc (by omega) _) hgr5 (by omega) (by simp; omega)
              have hs5 := hgr5.size
              have HRG5 := Lib.hid ((HRG2.out.alloc (.cells #[.int .i64 x] 2)).kept hgr5 (fun e => by have := (HG2.out.lt _ e.symm).1; omega) (fun e => by have := (HG2.out.lt _ e.symm).1; omega))
              rw [← HN.out] at hg5
              have HG5 := Lib.hid hg5
              clear hg5 hgr5
              go_wp2
              go_roundw
              case rel => exact ⟨_, cnt2, ss ++ [x], HRG5.out, by simp; omega, HST.out, HG5.out, by simp at hs5; omega, HB5.out⟩
              case measure => rw [HRG5.out.left_eq, HRGL.out.left_eq]; exact hlt2

set_option maxHeartbeats 1000000 in
theorem coveredHours_any (A : Option Addr) (n cc : Nat) (xs : List Shift) (c : Int) (w : World) (lo : Nat) (h : Arr Shift.cs 5 w lo w.heap.size A n xs) (hn : n ≤ 1048576) :
    Calls Try.prog 9 #[.slice A n cc, .int .i64 c] w (RetS ic 1 2 (chXs xs c) (shCode xs c 5) w) := by
  by_cases h0 : shCode xs c 5 = 0
  · exact coveredHours_yes A n cc xs c w lo h hn h0
  · have e0 : (shCode xs c 5 != 0) = true := by rw [bne_iff_ne]; exact h0
    have H : Hid (chXs xs c = []) := by show _ = _; unfold chXs; rw [if_neg h0]
    clear h0
    go_enter Try.func9, Try.ntmps9
    go_wp2_with fail
    refine (shiftsCode_any A n cc xs c 5 _ lo h hn).mono ?_
    rintro e w1 ⟨rfl, hb1⟩
    go_wp2
    go_ret2
    rw [H.out]
    exact RetS.nil hb1
end Go.Proofs.Ytdhobglhjdgboaa
