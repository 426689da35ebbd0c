/- CoveredHours of the reference: the walk. -/
import Derived.Test.YtdhobglhjdgboaaSpecCov
namespace Go.Proofs.Ytdhobglhjdgboaa
open Go.RowKit Go.Sort
set_option linter.unusedVariables false

/-- the hours that the reference's list holds: of k shifts, and t hours of the next -/
def isL (xs : List Shift) (c : Int) (n k : Nat) (ys : List Int) : Prop := ys.Pairwise (· < ·) ∧ ∀ h, h ∈ ys ↔ (hasR xs c 1 h k && hasR xs c 2 h n) = true
def isM (xs : List Shift) (c : Int) (n k : Nat) (x : Shift) (t : Nat) (ys : List Int) : Prop := ys.Pairwise (· < ·) ∧ ∀ h, h ∈ ys ↔ ((hasR xs c 1 h k || (decide (x.start ≤ h) && decide (h < x.start + (t : Int)))) && hasR xs c 2 h n) = true
section
variable {xs : List Shift} {c : Int} {n k t : Nat} {x : Shift} {ys : List Int}
theorem isL_nil : isL xs c n 0 [] := ⟨List.Pairwise.nil, fun h => by simp [hasR_zero]⟩
theorem isM_start (h : isL xs c n k ys) : isM xs c n k x 0 ys := ⟨h.1, fun g => by
  rw [h.2 g, show (decide (x.start ≤ g) && decide (g < x.start + ((0 : Nat) : Int))) = false by
    rw [Bool.eq_false_iff]; intro h9; simp only [Bool.and_eq_true, decide_eq_true_eq] at h9; omega, Bool.or_false]⟩
theorem isM_put (h : isM xs c n k x t ys) (hm : hasR xs c 2 (x.start + (t : Int)) n = true) : isM xs c n k x (t + 1) (putL ys (x.start + (t : Int))) := ⟨putL_pw h.1, fun g => by
  rw [mem_putL, h.2 g]
  by_cases hg : g = x.start + (t : Int)
  · subst hg
    simp only [hm, true_or, Bool.and_true, true_iff]
    rw [decide_eq_true (show x.start ≤ x.start + (t : Int) by omega), decide_eq_true (show x.start + (t : Int) < x.start + ((t + 1 : Nat) : Int) by omega)]; simp
  · rw [show decide (g < x.start + ((t + 1 : Nat) : Int)) = decide (g < x.start + (t : Int)) by exact decide_eq_decide.2 (by omega)]
    simp [hg]⟩
theorem isM_skip (h : isM xs c n k x t ys) (hm : hasR xs c 2 (x.start + (t : Int)) n = false) : isM xs c n k x (t + 1) ys := ⟨h.1, fun g => by
  rw [h.2 g]
  by_cases hg : g = x.start + (t : Int)
  · subst hg
    rw [hm, Bool.and_false, Bool.and_false]
  · rw [show decide (g < x.start + ((t + 1 : Nat) : Int)) = decide (g < x.start + (t : Int)) by exact decide_eq_decide.2 (by omega)]⟩
theorem isM_end (hx : xs[k]? = some x) (h1 : (x.crane != c) = false) (h2 : (x.role != 1) = false) (ht : x.start + (t : Int) = x.stop) (h : isM xs c n k x t ys) : isL xs c n (k + 1) ys := ⟨h.1, fun g => by
  rw [h.2 g, hasR_succ, covJ_of hx, ht]
  have e1 : x.crane = c := by simpa using h1
  have e2 : x.role = 1 := by simpa using h2
  rw [decide_eq_true e1, decide_eq_true e2, Bool.true_and, Bool.true_and]⟩
theorem isL_skip (hx : xs[k]? = some x) (hb : (x.crane != c) = true ∨ (x.role != 1) = true) (h : isL xs c n k ys) : isL xs c n (k + 1) ys := ⟨h.1, fun g => by
  rw [h.2 g, hasR_succ, covJ_of hx]
  have : (decide (x.crane = c) && (decide (x.role = 1) && (decide (x.start ≤ g) && decide (g < x.stop)))) = false := by
    rw [Bool.eq_false_iff]; intro h9
    simp only [Bool.and_eq_true, decide_eq_true_eq] at h9
    rcases hb with hb | hb
    · rw [bne_iff_ne] at hb; exact hb h9.1
    · rw [bne_iff_ne] at hb; exact hb h9.2.1
  rw [this, Bool.or_false]⟩
end

theorem growLess2 {α : Type} {c : α → List Value} {k : Nat} {w : World} {lo lo' : Nat} {e : TypeId} {v : Value} {xs : List α} (h : Grow c k w lo e v xs) (hB : lo' ≤ lo) : Grow c k w lo' e v xs := by
  refine ⟨h.1, ?_⟩
  rcases h.2 with h2 | ⟨g, cap, cur, hv, hg, r⟩
  · exact .inl h2
  · exact .inr ⟨g, cap, cur, hv, by omega, r⟩
set_option maxRecDepth 100000 in
set_option maxHeartbeats 2000000 in
theorem specCoveredHours_yes (A : Option Addr) (n cc : Nat) (xs : List Shift) (c : Int) (w : World) (lo : Nat) (h : Arr Shift.cs 5 w lo w.heap.size A n xs) (hn : n ≤ 1048576) (h0 : shCode xs c 5 = 0) :
    Calls Try.prog 7 #[.slice A n cc, .int .i64 c] w (RetS ic 1 2 (chXs xs c) (shCode xs c 5) w) := by
  have hone := shCode_one xs c 5
  have h1 : shCode1 xs = 0 := by
    rcases Int.lt_trichotomy (shCode1 xs) 0 with h9 | h9 | h9
    · rw [if_neg (by omega), h0] at hone; omega
    · exact h9
    · rw [if_neg (by omega), h0] at hone; omega
  have e1 : (shCode1 xs == 0) = true := beq_iff_eq.2 h1
  have n1 : (shCode1 xs != 0) = false := by rw [h1]; rfl
  obtain ⟨g1, g2, g3⟩ := shCode_zero h0
  have HL := Lib.hid h.1
  have HOK := Lib.hid g1
  have HH := Lib.hid h
  have H0 := Lib.hid h0
  have hn60 : (n : Int) ≤ 60 := by rw [HL.out] at g2; exact g2
  have H1 := Lib.hid h1
  have HOUT : Hid (chXs xs c = chL xs c) := by show _ = _; unfold chXs; rw [if_pos H0.out]
  clear hone h1 h0 g1 g2 h
  go_enter Try.func7, Try.ntmps7
  go_wp2_with (first | (go_at_call 33; refine (specShifts_any A n cc xs _ lo HH.out hn).mono ?_; rintro e w1 ⟨rfl, hb⟩) | (go_at_call 34; refine (in24_eq _ _ _ _ g3).mono ?_; rintro e w2 ⟨rfl, hb2⟩))
  have HBB := Lib.hid (hb.trans (hb2.mono hb.size))
  clear e1 n1 g3 hb hb2
  go_loopw [7, 8] (fun v i wr => ∃ (k : Nat) (ys : List Int), k ≤ n ∧ i = .int .i64 k ∧ Grow ic 1 wr w.heap.size 2 v ys ∧ isL xs c n k ys ∧ ys.length ≤ 12 * k ∧ Below w.heap.size w wr) (fun _ i _ => n - (intOf i).toNat)
  case atStart => exact ⟨0, [], Nat.zero_le _, rfl, Grow.empty w2 _ _ HBB.out.size, isL_nil, Nat.le_refl _, HBB.out.alloc HBB.out.size _⟩
  case round =>
    obtain ⟨k, ys, hk, rfl, hg, hys, hlen, hb⟩ := hrel
    have HG := Lib.hid hg
    have HB := Lib.hid hb
    have HYS := Lib.hid hys
    have hsz := hb.size
    clear hg hys
    by_cases hlt : k < n
    · obtain ⟨b, off, x, rfl, hx, _, hbl, c0, c1, c2, c3, c4⟩ := Shift.at (HH.out.below hb) hlt
      obtain ⟨f1, f2, f3, f4, f5⟩ := fOk_iff (fOk_all HOK.out hx)
      have HX := Lib.hid hx
      have hk1 : (k : Int) < (n : Int) := by omega
      have HC3 : Hid (w.cell? ⟨b, off + k * 5 + 3, none⟩ = some (.int .i64 x.start)) := by show _ = _; rw [← hb.cell (p := ⟨b, off + k * 5 + 3, none⟩) hbl]; exact c3
      have HC4 : Hid (w.cell? ⟨b, off + k * 5 + 4, none⟩ = some (.int .i64 x.stop)) := by show _ = _; rw [← hb.cell (p := ⟨b, off + k * 5 + 4, none⟩) hbl]; exact c4
      clear hx f3 c0 hb
      cases hb1 : (x.crane != c)
      · cases hb2 : (x.role != 1)
        · have HB1 := Lib.hid hb1
          have HB2 := Lib.hid hb2
          obtain ⟨cnt, hcnt⟩ : ∃ cnt : Nat, x.start + (cnt : Int) = x.stop := ⟨(x.stop - x.start).toNat, by omega⟩
          have hc12 : cnt ≤ 12 := by omega
          have HCNT := Lib.hid hcnt
          clear hcnt
          go_wp2
          clear c1 c2 c3 c4 hb1 hb2
          go_loopw [7, 10] (fun v i wq => ∃ (t : Nat) (zs : List Int), t ≤ cnt ∧ i = .int .i64 (x.start + (t : Int)) ∧ Grow ic 1 wq w.heap.size 2 v zs ∧ isM xs c n k x t zs ∧ zs.length ≤ 12 * k + t ∧ Below w.heap.size w wq) (fun _ i _ => cnt - (intOf i - x.start).toNat)
          case atStart => exact ⟨0, ys, Nat.zero_le _, by simp, HG.out, isM_start HYS.out, by omega, HB.out⟩
          case round =>
            obtain ⟨t, zs, ht, rfl, hgq, hzs, hlq, hbq⟩ := hrel
            have HGQ := Lib.hid hgq
            have HBQ := Lib.hid hbq
            have HZS := Lib.hid hzs
            have hsq := hbq.size
            have c4 := (hbq.cell (p := ⟨b, off + k * 5 + 4, none⟩) hbl).trans HC4.out
            clear hgq hzs hbq
            have hstop := HCNT.out
            by_cases htl : t < cnt
            · have h4 : x.start + (t : Int) < x.stop := by omega
              have HAQ := Lib.hid (((HH.out.below HBQ.out).more hsq))
              clear hstop
              cases hm : hasR xs c 2 (x.start + (t : Int)) n
              · have HM := Lib.hid hm
                clear hm
                go_wp2_with fail
                refine (l24Manned_any _ n cc xs c 2 (x.start + (t : Int)) _ lo HAQ.out hn HOK.out (v := false) (by rw [HL.out]; exact HM.out)).mono ?_
                rintro e w3 ⟨rfl, hb3⟩
                have HB3 := Lib.hid (HBQ.out.trans (hb3.mono hsq))
                have HG3 := Lib.hid (HGQ.out.bel hb3)
                clear hb3 c4
                go_wp2
                go_roundw
                case rel => exact ⟨t + 1, zs, by omega, by show Value.int .i64 _ = Value.int .i64 _; congr 1; omega, HG3.out, isM_skip HZS.out HM.out, by omega, HB3.out⟩
                case measure => simp [intOf]; omega
              · have HM := Lib.hid hm
                clear hm
                obtain ⟨A2, cap2, rfl, ho⟩ := HGQ.out.own ic_len
                have HO := Lib.hid (ho.arr ic_len)
                clear ho
                go_wp2_with fail
                refine (l24Manned_any _ n cc xs c 2 (x.start + (t : Int)) _ lo HAQ.out hn HOK.out (v := true) (by rw [HL.out]; exact HM.out)).mono ?_
                rintro e w3 ⟨rfl, hb3⟩
                have HB3 := Lib.hid (HBQ.out.trans (hb3.mono hsq))
                have HO3 := Lib.hid ((HO.out.below hb3).more hb3.size)
                clear hb3 c4
                go_wp2_with fail
                refine (l00Put_any A2 zs.length cap2 zs (x.start + (t : Int)) w3 _ HO3.out (by omega)).mono ?_
                rintro e w4 ⟨v4, rfl, hg4, hb4⟩
                have HB4 := Lib.hid (HB3.out.trans (hb4.mono HB3.out.size))
                have HG4 : Hid (Grow ic 1 w4 w.heap.size 2 v4 (putL zs (x.start + (t : Int)))) := growLess2 hg4 HB3.out.size
                clear hb4 hg4
                have hpl := putL_len (n := x.start + (t : Int)) (l := zs)
                go_wp2
                go_roundw
                case rel => exact ⟨t + 1, _, by omega, by show Value.int .i64 _ = Value.int .i64 _; congr 1; omega, HG4.out, isM_put HZS.out HM.out, by omega, HB4.out⟩
                case measure => simp [intOf]; omega
            · have h4 : ¬ x.start + (t : Int) < x.stop := by omega
              have htc : t = cnt := by omega
              subst htc
              have HST := Lib.hid hstop
              clear hstop
              go_wp2
              go_roundw
              case rel => exact ⟨k + 1, zs, by omega, by go_num, HGQ.out, isM_end HX.out HB1.out HB2.out HST.out HZS.out, by omega, HBQ.out⟩
              case measure => simp [intOf]; omega
        · have HN := Lib.hid (isL_skip HX.out (.inr hb2) HYS.out)
          clear c3 c4
          go_wp2
          go_roundw
          case rel => exact ⟨k + 1, ys, by omega, by go_num, HG.out, HN.out, by omega, HB.out⟩
          case measure => simp [intOf]; omega
      · have HN := Lib.hid (isL_skip HX.out (.inl hb1) HYS.out)
        clear c2 c3 c4
        go_wp2
        go_roundw
        case rel => exact ⟨k + 1, ys, by omega, by go_num, HG.out, HN.out, by omega, HB.out⟩
        case measure => simp [intOf]; omega
    · have hkn : k = n := by omega
      subst hkn
      have HE : Hid (ys = chL xs c) := chL_eq HOK.out HYS.out.1 (fun h => by rw [HYS.out.2 h]; unfold covB; rw [HL.out])
      go_wp2
      go_ret2
      rw [HOUT.out, ← HE.out, H0.out]
      exact HG.out.rets ic_len HB.out

set_option maxRecDepth 100000 in
set_option maxHeartbeats 2000000 in
theorem specCoveredHours_any (A : Option Addr) (n cc : Nat) (xs : List Shift) (c : Int) (w : World) (lo : Nat) (h : Arr Shift.cs 5 w lo w.heap.size A n xs) (hn : n ≤ 1048576) :
    Calls Try.prog 7 #[.slice A n cc, .int .i64 c] w (RetS ic 1 2 (chXs xs c) (shCode xs c 5) w) := by
  by_cases h0 : shCode xs c 5 = 0
  · exact specCoveredHours_yes A n cc xs c w lo h hn h0
  · have HN : Hid (chXs xs c = []) := by show _ = _; unfold chXs; rw [if_neg h0]
    have hone := shCode_one xs c 5
    by_cases h1 : shCode1 xs = 0
    · have e1 : (shCode1 xs == 0) = true := beq_iff_eq.2 h1
      rw [if_pos h1] at hone
      cases h2 : inB c 0 5
      · have HC : Hid (shCode xs c 5 = 2) := by show _ = _; rw [hone, h2]; rfl
        clear hone h1 h0
        go_enter Try.func7, Try.ntmps7
        go_wp2_with (first | (go_at_call 33; refine (specShifts_any A n cc xs _ lo h hn).mono ?_; rintro e w1 ⟨rfl, hb⟩) | (go_at_call 34; refine (in24_eq _ _ _ _ h2).mono ?_; rintro e w2 ⟨rfl, hb2⟩))
        go_ret2
        rw [HN.out, HC.out]
        exact RetS.nil (hb.trans (hb2.mono hb.size))
      · rw [h2] at hone; exact absurd hone h0
    · have e1 : (shCode1 xs == 0) = false := beq_eq_false_iff_ne.2 h1
      have n1 : (shCode1 xs != 0) = true := bne_iff_ne.2 h1
      rw [if_neg h1] at hone
      have HC := Lib.hid hone
      clear hone h1 h0
      go_enter Try.func7, Try.ntmps7
      go_wp2_with (go_at_call 33; refine (specShifts_any A n cc xs _ lo h hn).mono ?_; rintro e w1 ⟨rfl, hb⟩)
      go_ret2
      rw [HN.out, HC.out]
      exact RetS.nil hb
end Go.Proofs.Ytdhobglhjdgboaa
