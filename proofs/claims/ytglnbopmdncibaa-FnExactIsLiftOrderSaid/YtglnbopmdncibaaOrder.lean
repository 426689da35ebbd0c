/- IsLiftOrder, of the program and of the reference: both say orderOk. -/
import Derived.Test.YtglnbopmdncibaaReady
import Derived.Test.YtglnbopmdncibaaReadyLifts
namespace Go.Proofs.Ytglnbopmdncibaa
open Go.RowKit
set_option linter.unusedVariables false

set_option maxHeartbeats 800000 in
theorem indexInt_any (A : Option Addr) (n c : Nat) (xs : List Int) (v : Int) (w : World) (lo hi : Nat) (h : Arr ic 1 w lo hi A n xs) (hn : n ≤ 9223372036854775807) :
    Calls Try.prog 145 #[.slice A n c, .int .i64 v] w fun e w' => e = .returned (.int .i64 (fIdx (fun y => decide (y = v)) xs)) ∧ w = w' := by
  have HL := Lib.hid h.1
  go_enter Try.func145, Try.ntmps145
  go_wp2
  go_loop [8] (fun i => ∃ k : Nat, k ≤ n ∧ i = .int .i64 k ∧ noTo (fun y => decide (y = v)) xs k = true) (fun i => n - (intOf i).toNat)
  case atStart => exact ⟨0, Nat.zero_le _, rfl, rfl⟩
  case round =>
    obtain ⟨k, hk, rfl, hno⟩ := hrel
    have HN := Lib.hid hno
    clear hno
    by_cases hlt : k < n
    · obtain ⟨b, off, x, rfl, hx, _, hbl, c0⟩ := Ints.at h hlt
      have HX := Lib.hid hx
      have hk1 : (k : Int) < (n : Int) := by omega
      clear hx
      by_cases hq : x = v
      · have hqq : (v == x) = true := beq_iff_eq.2 hq.symm
        have HE : Hid (fIdx (fun y => decide (y = v)) xs = k) := fIdx_hit HN.out HX.out (decide_eq_true hq)
        clear hq
        go_wp2
        go_ret
        exact ⟨by rw [HE.out]; rfl, rfl⟩
      · have hqq : (v == x) = false := beq_eq_false_iff_ne.2 (fun h => hq h.symm)
        have HQ := Lib.hid hq
        clear hq
        go_wp2
        go_round
        case rel => exact ⟨k + 1, by omega, by go_num, noTo_step HN.out HX.out (decide_eq_false HQ.out)⟩
        case measure => simp [intOf]; omega
    · obtain rfl : k = n := by omega
      have HE : Hid (fIdx (fun y => decide (y = v)) xs = -1) := fIdx_none (by rw [HL.out]; exact HN.out)
      go_wp2
      go_ret
      exact ⟨by rw [HE.out]; rfl, rfl⟩
theorem containsInt_any (A : Option Addr) (n c : Nat) (xs : List Int) (v : Int) (w : World) (lo hi : Nat) (h : Arr ic 1 w lo hi A n xs) (hn : n ≤ 9223372036854775807) :
    Calls Try.prog 100 #[.slice A n c, .int .i64 v] w fun e w' => e = .returned (.bool (xs.any (fun y => decide (y = v)))) ∧ w = w' := by
  have HA : Hid (xs.any (fun y => decide (y = v)) = decide (0 ≤ fIdx (fun y => decide (y = v)) xs)) := any_fIdx _ xs
  go_enter Try.func100, Try.ntmps100
  go_wp2_with fail
  refine (indexInt_any A n c xs v _ lo hi h hn).mono ?_
  rintro e w1 ⟨rfl, rfl⟩
  go_wp2
  go_ret
  exact ⟨by rw [HA.out]; rfl, rfl⟩

theorem rdTo_any {vs : List LV} {m x : Int} {n : Nat} (h0 : 0 ≤ x) (h1 : x < n) : (rdTo vs m n).any (fun y => decide (y = x)) = canB vs m x.toNat := by
  rw [Bool.eq_iff_iff, List.any_eq_true]
  constructor
  · rintro ⟨y, hy, he⟩
    obtain ⟨j, rfl, hj, hc⟩ := rdTo_mem hy
    rw [decide_eq_true_eq] at he
    rw [← he, Int.toNat_natCast]; exact hc
  · intro hc
    refine ⟨x, ?_, by simp⟩
    unfold rdTo
    exact List.mem_map.2 ⟨x.toNat, by rw [List.mem_filter, List.mem_range]; exact ⟨by omega, hc⟩, by omega⟩
def doneTo (xs : List Int) (j : Nat) : Int := (xs.take j).foldl withI 0
theorem doneTo_succ {xs : List Int} {j : Nat} {x : Int} (h : xs[j]? = some x) : doneTo xs (j + 1) = withI (doneTo xs j) x := by
  obtain ⟨hj, rfl⟩ := List.getElem?_eq_some_iff.1 h
  unfold doneTo
  rw [List.take_succ_eq_append_getElem hj, List.foldl_append]; rfl
def stepOk (vs : List LV) (xs : List Int) (j : Nat) : Bool := match xs[j]? with | some x => inB x 0 ((vs.length : Int) - 1) && canB vs (doneTo xs j) x.toNat | none => true
theorem stepOk_of {vs : List LV} {xs : List Int} {j : Nat} {x : Int} (h : xs[j]? = some x) : stepOk vs xs j = (inB x 0 ((vs.length : Int) - 1) && canB vs (doneTo xs j) x.toNat) := by simp only [stepOk, h]
def orderOk (vs : List LV) (xs : List Int) : Bool := liftsOk vs && (allTo (stepOk vs xs) xs.length && decide (xs.length = vs.length))
theorem orderOk_bad {vs : List LV} {xs : List Int} {j : Nat} {x : Int} (h : xs[j]? = some x) (hb : (inB x 0 ((vs.length : Int) - 1) && canB vs (doneTo xs j) x.toNat) = false) : orderOk vs xs = false := by
  unfold orderOk; rw [allTo_bad (List.getElem?_eq_some_iff.1 h).1 (by rw [stepOk_of h]; exact hb)]; simp
theorem done_bd {vs : List LV} {xs : List Int} (hn : vs.length ≤ 10) : ∀ j, j ≤ xs.length → allTo (stepOk vs xs) j = true → 0 ≤ doneTo xs j ∧ doneTo xs j < 1024
  | 0, _, _ => by simp [doneTo]
  | j + 1, hj, h => by
    rw [allTo_succ, Bool.and_eq_true] at h
    have hx : xs[j]? = some (xs[j]'(by omega)) := List.getElem?_eq_getElem _
    have ih := done_bd hn j (by omega) h.1
    have h2 := h.2
    rw [stepOk_of hx, Bool.and_eq_true] at h2
    have hb := inB_true.1 h2.1
    rw [doneTo_succ hx]
    have h3 := withI_lt (m := doneTo xs j) (k := xs[j]'(by omega)) (n := 10) ih.1 (by simpa using ih.2) hb.1 (by omega)
    exact ⟨withI_nonneg _ _, by simpa using h3⟩

set_option maxRecDepth 100000 in
set_option maxHeartbeats 1600000 in
theorem isLiftOrder_any (A : Option Addr) (n c : Nat) (ps : List Lift) (vs : List LV) (hv : ps.map Lift.val = vs) (A2 : Option Addr) (n2 c2 : Nat) (xs : List Int) (w : World) (lo lo2 : Nat) (h : Lifts w lo w.heap.size A n ps) (hn : n ≤ 1048576) (hp : ∀ p ∈ ps, p.wf) (h2 : Arr ic 1 w lo2 w.heap.size A2 n2 xs) (hn2 : n2 ≤ 1048576) :
    Calls Try.prog 45 #[.slice A n c, .slice A2 n2 c2] w fun e w' => e = .returned (.bool (orderOk vs xs)) ∧ Below w.heap.size w w' := by
  have HL : Hid (vs.length = n) := by show _ = _; rw [lv_len hv, h.len]
  have HL2 := Lib.hid h2.1
  have HV := Lib.hid hv
  have HP := Lib.hid hp
  cases h1 : liftsOk vs
  · have H : Hid (orderOk vs xs = false) := by show _ = _; unfold orderOk; rw [h1]; rfl
    go_enter Try.func45, Try.ntmps45
    go_wp2_with fail
    refine (validLifts_any _ _ _ ps vs hv _ _ h hn hp).mono ?_
    rintro e w1 ⟨rfl, hb⟩
    go_wp2
    go_ret
    exact ⟨by rw [H.out]; rfl, hb⟩
  · have H1 := Lib.hid h1
    have hn10 : n ≤ 10 := by have := liftsOk_len h1; rw [HL.out] at this; exact this
    by_cases hnn : n2 = n
    · subst hnn
      have hbq : ((n2 : Int) != (n2 : Int)) = false := by simp
      clear hv hp
      go_enter Try.func45, Try.ntmps45
      go_wp2_with fail
      refine (validLifts_any _ _ _ ps vs HV.out _ _ h hn HP.out).mono ?_
      rintro e w1 ⟨rfl, hb⟩
      go_wp2
      clear hbq h1
      go_loopw [5, 20] (fun d i wr => ∃ q : Nat, q ≤ n2 ∧ i = .int .i64 q ∧ d = .int .i64 (doneTo xs q) ∧ allTo (stepOk vs xs) q = true ∧ Below w.heap.size w wr) (fun _ i _ => n2 - (intOf i).toNat)
      case atStart => exact ⟨0, Nat.zero_le _, rfl, rfl, rfl, hb⟩
      case round =>
        obtain ⟨q, hq, rfl, rfl, hall, hb2⟩ := hrel
        have hdb := done_bd (by rw [HL.out]; exact hn10) q (by rw [HL2.out]; exact hq) hall
        have HA := Lib.hid hall
        clear hall
        by_cases hqn : q < n2
        · obtain ⟨b4, off4, x, rfl, hx, _, _, e0⟩ := Ints.at (h2.below hb2) hqn
          have HX := Lib.hid hx
          have HD := Lib.hid (doneTo_succ hx)
          have hq1 : (q : Int) < (n2 : Int) := by omega
          have hs2 := hb2.size
          clear hx
          cases hin : inB x 0 ((n2 : Int) - 1)
          · have H : Hid (orderOk vs xs = false) := orderOk_bad HX.out (by rw [HL.out, hin]; rfl)
            go_wp2_with fail
            refine (index_any _ _ (by omega) (by omega) _).mono ?_
            rintro _ _ ⟨rfl, rfl⟩
            go_wp2
            go_ret
            exact ⟨by rw [H.out]; rfl, hb2⟩
          · have hxb := inB_true.1 hin
            have HIN := Lib.hid hin
            have hpx := pow_bd (n := x.toNat) (by omega)
            obtain ⟨m, hm⟩ : ∃ m, doneTo xs q = m := ⟨_, rfl⟩
            rw [hm] at hdb HD ⊢
            have HM := Lib.hid hm
            clear hm
            have HR := Lib.hid (rdTo_any (vs := vs) (m := m) (n := n2) hxb.1 (by omega))
            have HOR := Lib.hid (or_shl m x (by omega) (by omega) (by omega) (by omega))
            have hrl := rdTo_len vs m n2
            go_wp2_with fail
            refine (index_any _ _ (by omega) (by omega) _).mono ?_
            rintro _ _ ⟨rfl, rfl⟩
            go_wp2_with fail
            refine (ready_any _ _ _ ps vs HV.out m _ lo ((h.below hb2).more hs2) (by omega) (fits_of H1.out) hdb.1 (by omega) (fun p hpp => (HP.out p hpp).n)).mono ?_
            rintro _ w4 ⟨A4, cp, rfl, ho, hb4⟩
            go_wp2_with fail
            refine (containsInt_any _ _ _ _ _ _ _ _ (ho.arr ic_len) (by omega)).mono ?_
            rintro _ _ ⟨rfl, rfl⟩
            have hb5 := hb2.trans (hb4.mono hs2)
            rw [HR.out]
            cases hcan : canB vs m x.toNat
            · have H : Hid (orderOk vs xs = false) := orderOk_bad HX.out (by rw [HM.out, hcan]; simp)
              go_wp2
              go_ret
              exact ⟨by rw [H.out]; rfl, hb5⟩
            · have HC := Lib.hid hcan
              go_wp2
              go_roundw
              case rel => exact ⟨q + 1, by omega, by go_num, by rw [HD.out]; exact congrArg (Value.int .i64) HOR.out, allTo_step HA.out (by rw [stepOk_of HX.out, HL.out, HIN.out, HM.out, HC.out]; rfl), hb5⟩
              case measure => simp [intOf]; omega
        · obtain rfl : q = n2 := by omega
          have H : Hid (orderOk vs xs = true) := by show _ = _; unfold orderOk; rw [H1.out, HL2.out, HL.out, HA.out]; simp
          go_wp2
          go_ret
          exact ⟨by rw [H.out]; rfl, hb2⟩
    · have hbq : ((n2 : Int) != (n : Int)) = true := by rw [bne_iff_ne]; omega
      have H : Hid (orderOk vs xs = false) := by show _ = _; unfold orderOk; rw [HL.out, HL2.out, decide_eq_false hnn]; simp
      go_enter Try.func45, Try.ntmps45
      go_wp2_with fail
      refine (validLifts_any _ _ _ ps vs hv _ _ h hn hp).mono ?_
      rintro e w1 ⟨rfl, hb⟩
      go_wp2
      go_ret
      exact ⟨by rw [H.out]; rfl, hb⟩

set_option maxRecDepth 100000 in
set_option maxHeartbeats 1600000 in
theorem l08Order_any (A : Option Addr) (n c : Nat) (ps : List Lift) (vs : List LV) (hv : ps.map Lift.val = vs) (A2 : Option Addr) (n2 c2 : Nat) (xs : List Int) (w : World) (lo lo2 : Nat) (h : Lifts w lo w.heap.size A n ps) (hok : liftsOk vs = true) (hp : ∀ p ∈ ps, p.wf) (h2 : Arr ic 1 w lo2 w.heap.size A2 n2 xs) (hn2 : n2 ≤ 1048576) :
    Calls Try.prog 98 #[.slice A n c, .slice A2 n2 c2] w fun e w' => e = .returned (.bool (orderOk vs xs)) ∧ Below w.heap.size w w' := by
  have HL : Hid (vs.length = n) := by show _ = _; rw [lv_len hv, h.len]
  have HL2 := Lib.hid h2.1
  have HV := Lib.hid hv
  have HP := Lib.hid hp
  have H1 := Lib.hid hok
  have hn10 : n ≤ 10 := by have := liftsOk_len hok; rw [HL.out] at this; exact this
  clear hv hp hok
  go_enter Try.func98, Try.ntmps98
  go_wp2
  go_loop [5, 6] (fun d i => ∃ q : Nat, q ≤ n2 ∧ i = .int .i64 q ∧ d = .int .i64 (doneTo xs q) ∧ allTo (stepOk vs xs) q = true) (fun _ i => n2 - (intOf i).toNat)
  case atStart => exact ⟨0, Nat.zero_le _, rfl, rfl, rfl⟩
  case round =>
    obtain ⟨q, hq, rfl, rfl, hall⟩ := hrel
    have hdb := done_bd (by rw [HL.out]; exact hn10) q (by rw [HL2.out]; exact hq) hall
    have HA := Lib.hid hall
    clear hall
    by_cases hqn : q < n2
    · obtain ⟨b4, off4, x, rfl, hx, _, _, e0⟩ := Ints.at h2 hqn
      have HX := Lib.hid hx
      have HD := Lib.hid (doneTo_succ hx)
      have hq1 : (q : Int) < (n2 : Int) := by omega
      clear hx
      cases hin : inB x 0 ((n : Int) - 1)
      · have H : Hid (orderOk vs xs = false) := orderOk_bad HX.out (by rw [HL.out, hin]; rfl)
        go_wp2_with fail
        refine (l00In_any _ _ _ _).mono ?_
        rintro _ _ ⟨rfl, rfl⟩
        go_wp2
        go_ret
        exact ⟨by rw [H.out]; rfl, Below.refl _ _⟩
      · have hxb := inB_true.1 hin
        have HIN := Lib.hid hin
        have hpx := pow_bd (n := x.toNat) (by omega)
        obtain ⟨m, hm⟩ : ∃ m, doneTo xs q = m := ⟨_, rfl⟩
        rw [hm] at hdb HD ⊢
        have HM := Lib.hid hm
        clear hm
        obtain ⟨j, rfl⟩ := Int.eq_ofNat_of_zero_le hxb.1
        have hpj := pow_bd (n := j) (by omega)
        have HOR : Hid (bits .or .i64 m (2 ^ j) = withI m j) := by have h9 := or_shl m j (by omega) (by omega) (by omega) (by omega); rwa [Int.toNat_natCast] at h9
        have hjn : j < n := by omega
        have HT : Hid ((j : Int).toNat = j) := Int.toNat_natCast j
        go_wp2_with fail
        refine (l00In_any _ _ _ _).mono ?_
        rintro _ _ ⟨rfl, rfl⟩
        go_wp2_with fail
        refine (l08Can_any _ _ _ ps vs HV.out j m _ lo _ h (by omega) hjn (fits_of H1.out) hdb.1 (by omega) (fun p hpp => (HP.out p hpp).n)).mono ?_
        rintro _ _ ⟨rfl, rfl⟩
        cases hcan : canB vs m j
        · have H : Hid (orderOk vs xs = false) := orderOk_bad HX.out (by rw [HM.out, HT.out, hcan]; simp)
          go_wp2
          go_ret
          exact ⟨by rw [H.out]; rfl, Below.refl _ _⟩
        · have HC := Lib.hid hcan
          go_wp2
          go_round
          case rel => exact ⟨q + 1, by omega, by go_num, by rw [HD.out]; exact congrArg (Value.int .i64) HOR.out, allTo_step HA.out (by rw [stepOk_of HX.out, HL.out, HIN.out, HM.out, HT.out, HC.out]; rfl)⟩
          case measure => simp [intOf]; omega
    · obtain rfl : q = n2 := by omega
      by_cases hnn : q = n
      · subst hnn
        have H : Hid (orderOk vs xs = true) := by show _ = _; unfold orderOk; rw [H1.out, HL2.out, HL.out, HA.out]; simp
        have hbq : ((q : Int) == (q : Int)) = true := by simp
        go_wp2
        go_ret
        exact ⟨by rw [H.out]; rfl, Below.refl _ _⟩
      · have H : Hid (orderOk vs xs = false) := by show _ = _; unfold orderOk; rw [HL2.out, HL.out, decide_eq_false hnn]; simp
        have hbq : ((q : Int) == (n : Int)) = false := by rw [beq_eq_false_iff_ne]; omega
        go_wp2
        go_ret
        exact ⟨by rw [H.out]; first | rfl | (simp; omega), Below.refl _ _⟩

theorem specIsLiftOrder_any (A : Option Addr) (n c : Nat) (ps : List Lift) (vs : List LV) (hv : ps.map Lift.val = vs) (A2 : Option Addr) (n2 c2 : Nat) (xs : List Int) (w : World) (lo lo2 : Nat) (h : Lifts w lo w.heap.size A n ps) (hn : n ≤ 1048576) (hc : n ≤ c) (hc2 : c ≤ 1048576) (hp : ∀ p ∈ ps, p.wf) (h2 : Arr ic 1 w lo2 w.heap.size A2 n2 xs) (hn2 : n2 ≤ 1048576) :
    Calls Try.prog 43 #[.slice A n c, .slice A2 n2 c2] w fun e w' => e = .returned (.bool (orderOk vs xs)) ∧ Below w.heap.size w w' := by
  cases h1 : liftsOk vs
  · have H : Hid (orderOk vs xs = false) := by show _ = _; unfold orderOk; rw [h1]; rfl
    go_enter Try.func43, Try.ntmps43
    go_wp2_with fail
    refine (l08Ok_any _ _ _ ps vs hv _ _ h hn hc hc2 hp).mono ?_
    rintro e w1 ⟨rfl, hb⟩
    go_wp2
    go_ret
    exact ⟨by rw [H.out]; rfl, hb⟩
  · have H1 := Lib.hid h1
    go_enter Try.func43, Try.ntmps43
    go_wp2_with fail
    refine (l08Ok_any _ _ _ ps vs hv _ _ h hn hc hc2 hp).mono ?_
    rintro e w1 ⟨rfl, hb⟩
    have hbs := hb.size
    have h4 := (h.below hb).more hbs
    have h5 := (h2.below hb).more hbs
    go_wp2_with fail
    refine (l08Order_any _ _ _ ps vs hv _ _ _ xs _ lo lo2 h4 H1.out hp h5 hn2).mono ?_
    rintro e w2 ⟨rfl, hb2⟩
    go_wp2
    go_ret
    exact ⟨rfl, bel2 hb hb2⟩
end Go.Proofs.Ytglnbopmdncibaa
