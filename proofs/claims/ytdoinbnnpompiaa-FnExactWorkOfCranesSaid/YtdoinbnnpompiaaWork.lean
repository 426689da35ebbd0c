/- WorkOfCranes, of the program and of the reference: both hand back wkXs and wkCode. -/
import Derived.Test.YtdoinbnnpompiaaSites
import Derived.Test.YtdoinbnnpompiaaValidTasks
import Derived.Test.YtdoinbnnpompiaaOwnAt
import Derived.Deep.RegionHeld3
import Derived.IntWalk
namespace Go.Proofs.Ytdoinbnnpompiaa
open Go.RowKit
set_option linter.unusedVariables false

def wkAt (xs : List Task) (n : Nat) : Nat → List Int
  | 0 => List.replicate n 0
  | k + 1 => match xs[k]? with | some t => (wkAt xs n k).set t.crane.toNat ((wkAt xs n k).getD t.crane.toNat 0 + (t.stop - t.start)) | none => wkAt xs n k
theorem wkAt_len (xs : List Task) (n k : Nat) : (wkAt xs n k).length = n := by
  induction k with
  | zero => simp [wkAt]
  | succ k ih => simp only [wkAt]; split <;> simp [ih]
theorem wkAt_step {xs : List Task} {n k u : Nat} {t : Task} {y : Int} (h : xs[k]? = some t) (hu : t.crane = (u : Int)) (hy : (wkAt xs n k)[u]? = some y) : wkAt xs n (k + 1) = (wkAt xs n k).set u (y + (t.stop - t.start)) := by
  have e : t.crane.toNat = u := by omega
  simp only [wkAt, h, e, List.getD_eq_getElem?_getD, hy, Option.getD_some]
theorem wkAt_bd {xs : List Task} (hok : tasksOk xs = true) {n : Nat} (k : Nat) : ∀ (u : Nat) (y : Int), (wkAt xs n k)[u]? = some y → 0 ≤ y ∧ y ≤ 1000000 * (k : Int) := by
  induction k with
  | zero =>
    intro u y hy
    simp only [wkAt, List.getElem?_replicate] at hy
    split at hy
    · cases hy; omega
    · cases hy
  | succ k ih =>
    intro u y hy
    simp only [wkAt] at hy
    split at hy
    · next t ht =>
      have hb := tOk_bounds (tasksOk_mem hok (List.mem_of_getElem? ht))
      rw [List.getElem?_set] at hy
      split at hy
      · next he =>
        split at hy
        · cases hy
          rw [List.getD_eq_getElem?_getD]
          cases hz : (wkAt xs n k)[t.crane.toNat]? with
          | none => simp only [Option.getD_none]; push_cast; omega
          | some z => have := ih _ _ hz; simp only [Option.getD_some]; push_cast; omega
        · cases hy
      · have := ih _ _ hy; push_cast; omega
    · have := ih _ _ hy; push_cast; omega
def inSite (xs : List Task) (n : Nat) (i : Nat) : Bool := match xs[i]? with | some t => decide (t.crane < (n : Int)) | none => true
theorem inSite_of {xs : List Task} {n i : Nat} {t : Task} (h : xs[i]? = some t) : inSite xs n i = decide (t.crane < (n : Int)) := by simp only [inSite, h]
theorem allStep {f : Nat → Bool} {k : Nat} (h : ∀ j, j < k → f j = true) (hk : f k = true) : ∀ j, j < k + 1 → f j = true := by
  intro j hj
  rcases Nat.lt_or_ge j k with h9 | h9
  · exact h j h9
  · obtain rfl : j = k := by omega
    exact hk
def wkIn (xs : List Task) (n : Nat) : Bool := allTo (inSite xs n) xs.length
def wkXs (cs : List CV) (xs : List Task) : List Int := if siteOk cs && tasksOk xs && wkIn xs cs.length then wkAt xs cs.length xs.length else []
def wkCode (cs : List CV) (xs : List Task) : Int := if siteOk cs && tasksOk xs then (if wkIn xs cs.length then 0 else 2) else 1
theorem wkXs_len (cs : List CV) (xs : List Task) : (wkXs cs xs).length ≤ cs.length := by
  unfold wkXs; split
  · rw [wkAt_len]; omega
  · simp
theorem own_zero (w : World) (M : Nat) : Own ic 1 (w.alloc (.cells (madeCells #[.int .i64 0] M) 2)) w.heap.size (w.heap.size + 1) 2 (some ⟨w.heap.size, 0, none⟩) M (List.replicate M (0 : Int)) := by
  refine ⟨by simp, fun _ => ⟨w.heap.size, _, rfl, Nat.le_refl _, Nat.lt_succ_self _, heap_alloc_new w _, by simp [size_madeCells], fun i x hx j hj => ?_⟩⟩
  obtain rfl : j = 0 := by omega
  rw [Nat.mul_one, Nat.add_zero]
  rw [List.getElem?_replicate] at hx
  split at hx
  · next hi => cases hx; rw [made_at hi]; rfl
  · cases hx
theorem RetS.of {xs : List Int} {code : Int} {w w' : World} {A : Option Addr} {n cap lo hi : Nat} (ho : Own ic 1 w' lo hi 2 A n xs) (h1 : w.heap.size ≤ lo) (h2 : hi ≤ w'.heap.size) (hb : Below w.heap.size w w') : RetS ic 1 2 xs code w (.returned (.tuple #[.slice A n cap, .int .i64 code])) w' := by
  have hl := ho.1
  subst hl
  exact ⟨A, cap, rfl, ho.wide h1 h2, hb⟩

theorem Own.drewn {α : Type} {c : α → List Value} {k : Nat} {w : World} {lo hi n : Nat} {e : TypeId} {A : Option Addr} {xs : List α} (h : Own c k w lo hi e A n xs) : Own c k w.drew lo hi e A n xs := h

set_option maxRecDepth 100000 in
set_option maxHeartbeats 3200000 in
theorem workOfCranes_any (s : Row Crane) (cs : List CV) (hv : s.xs.map Crane.val = cs) (A2 : Option Addr) (m c2 : Nat) (ts : List Task) (w : World) (lo lo2 : Nat) (h : Cranes w lo w.heap.size s.a s.n s.xs) (hc : s.n ≤ s.cap) (hc2 : s.cap ≤ 1048576) (hp : ∀ p ∈ s.xs, p.wf) (ht : Arr Task.cs 4 w lo2 w.heap.size A2 m ts) (hm : m ≤ 1048576) :
    Calls Try.prog 32 #[.agg #[.slice s.a s.n s.cap], .slice A2 m c2] w (RetS ic 1 2 (wkXs cs ts) (wkCode cs ts) w) := by
  have HV := Lib.hid hv
  have HP := Lib.hid hp
  have HL : Hid (cs.length = s.n) := by show _ = _; rw [cv_len hv, h.len]
  obtain ⟨A, n, c, ps⟩ := s
  dsimp only at *
  obtain ⟨W, hW⟩ : ∃ W : World, W = w.alloc (.cells #[.slice A n c] 36) := ⟨_, rfl⟩
  have B0 : Below w.heap.size w W := by rw [hW]; exact (Below.refl _ _).alloc (Nat.le_refl _) _
  have P0 : Blk W w.heap.size 36 #[.slice A n c] := by rw [hW]; exact Blk.new _ _ _
  have HC := Lib.hid (h.next B0)
  have HT := Lib.hid (ht.next B0)
  have HTL := Lib.hid ht.1
  clear h hv hp ht
  cases h1 : siteOk cs
  · have H1 := Lib.hid h1
    have H : Hid (wkXs cs ts = [] ∧ wkCode cs ts = 1) := by show _ ∧ _; unfold wkXs wkCode; rw [h1]; exact ⟨rfl, rfl⟩
    clear h1
    go_enter Try.func32, Try.ntmps32
    go_wp2_with fail
    rw [← hW]
    clear hW
    have c9 : W.cell? ⟨w.heap.size, 0, none⟩ = some (.slice A n c) := P0.cell 0
    go_wp2_with fail
    refine (validSite_any ⟨A, n, c, ps⟩ cs HV.out _ lo HC.out hc hc2 HP.out).mono ?_
    rintro e w1 ⟨rfl, hb1⟩
    rw [H1.out]
    have B1 := B0.trans (hb1.mono B0.size)
    clear c9 P0 hb1
    go_wp2
    go_ret2
    rw [H.out.1, H.out.2]; exact RetS.nil B1
  · have H1 := Lib.hid h1
    cases h2 : tasksOk ts
    · have H2 := Lib.hid h2
      have H : Hid (wkXs cs ts = [] ∧ wkCode cs ts = 1) := by show _ ∧ _; unfold wkXs wkCode; rw [h1, h2]; exact ⟨rfl, rfl⟩
      clear h1 h2
      go_enter Try.func32, Try.ntmps32
      go_wp2_with fail
      rw [← hW]
      clear hW
      have c9 : W.cell? ⟨w.heap.size, 0, none⟩ = some (.slice A n c) := P0.cell 0
      go_wp2_with fail
      refine (validSite_any ⟨A, n, c, ps⟩ cs HV.out _ lo HC.out hc hc2 HP.out).mono ?_
      rintro e w1 ⟨rfl, hb1⟩
      rw [H1.out]
      have B1 := B0.trans (hb1.mono B0.size)
      have HT1 := Lib.hid (HT.out.next hb1)
      clear c9 P0 hb1
      go_wp2_with fail
      refine (validTasks_any _ _ _ ts _ lo2 HT1.out hm).mono ?_
      rintro e w2 ⟨rfl, hb2⟩
      rw [H2.out]
      have B2 := B1.trans (hb2.mono B1.size)
      clear hb2
      go_wp2
      go_ret2
      rw [H.out.1, H.out.2]; exact RetS.nil B2
    · have H2 := Lib.hid h2
      have HX : Hid ((wkIn ts n = true → wkXs cs ts = wkAt ts n m ∧ wkCode cs ts = 0) ∧ (wkIn ts n = false → wkXs cs ts = [] ∧ wkCode cs ts = 2)) := by
        show _ ∧ _
        unfold wkXs wkCode; rw [h1, h2, HL.out, HTL.out]
        exact ⟨fun h => by rw [h]; exact ⟨rfl, rfl⟩, fun h => by rw [h]; exact ⟨rfl, rfl⟩⟩
      have hm40 : m ≤ 40 := by have := tasksOk_len h2; rw [HTL.out] at this; exact this
      clear h1 h2
      obtain ⟨i0, hi, hz0, hz1, hz2⟩ := info_parts infoInt
      have hmk := fun W => run_make_rowN (P := Try.prog) 27 2 i0 _ Try.underlying27 hi hz0 .i64 .i64 n n (Nat.le_refl _) (by rw [hz2]; omega) (by omega) W
      rw [hz1] at hmk
      simp only [Nat.mul_one] at hmk
      clear hi hz0 hz1 hz2
      go_enter Try.func32, Try.ntmps32
      go_wp2_with fail
      rw [← hW]
      clear hW
      have c9 : W.cell? ⟨w.heap.size, 0, none⟩ = some (.slice A n c) := P0.cell 0
      go_wp2_with fail
      refine (validSite_any ⟨A, n, c, ps⟩ cs HV.out _ lo HC.out hc hc2 HP.out).mono ?_
      rintro e w1 ⟨rfl, hb1⟩
      rw [H1.out]
      have B1 := B0.trans (hb1.mono B0.size)
      have HT1 := Lib.hid (HT.out.next hb1)
      have P1 := P0.bel hb1
      clear c9 P0 hb1
      go_wp2_with fail
      refine (validTasks_any _ _ _ ts _ lo2 HT1.out hm).mono ?_
      rintro e w2 ⟨rfl, hb2⟩
      rw [H2.out]
      have B2 := B1.trans (hb2.mono B1.size)
      have HT2 := Lib.hid (HT1.out.next hb2)
      have P2 := P1.bel hb2
      have HO0 := Lib.hid (own_zero w2 n)
      have hs2 := B2.size
      have HB0 := Lib.hid (B2.alloc hs2 (.cells (madeCells #[.int .i64 0] n) 2))
      have c9 : w2.cell? ⟨w.heap.size, 0, none⟩ = some (.slice A n c) := P2.cell 0
      have HT3 := Lib.hid (HT2.out.below ((Below.refl _ _).alloc (Nat.le_refl _) (.cells (madeCells #[.int .i64 0] n) 2)))
      clear P1 P2 hb2
      go_wp2
      clear hmk c9
      obtain ⟨G, hG⟩ : ∃ G, w2.heap.size = G := ⟨_, rfl⟩
      have hGw : w.heap.size ≤ G := by omega
      rw [hG] at HO0 HT3 ⊢
      obtain ⟨w3, hw3⟩ : ∃ w3, w3 = w2.alloc (.cells (madeCells #[.int .i64 0] n) 2) := ⟨_, rfl⟩
      have hG3 : w3.heap.size = G + 1 := by rw [hw3]; simp [hG]
      rw [← hw3] at HO0 HB0 HT3 ⊢
      clear hG hs2 hw3
      go_loopw [23] (fun s wr => ∃ k : Nat, k ≤ m ∧ s = .int .i64 k ∧ Own ic 1 wr G (G + 1) 2 (some ⟨G, 0, none⟩) n (wkAt ts n k) ∧ (∀ j, j < k → inSite ts n j = true) ∧ Below w.heap.size w wr ∧ Within G (G + 1) w3 wr) (fun s _ => m - (intOf s).toNat)
      case atStart => exact ⟨0, Nat.zero_le _, rfl, HO0.out, fun j h => absurd h (by omega), HB0.out, Within.refl _ _ _⟩
      case round =>
        obtain ⟨k, hk, rfl, hown, hin, hbw, hww⟩ := hrel
        have HOW := Lib.hid hown
        have HBW := Lib.hid hbw
        have HWW := Lib.hid hww
        have HIN := Lib.hid hin
        have hsw := hbw.size
        have hsx := hww.size
        clear hown hin hbw hww HO0 HB0
        have hGr : G < wr.heap.size := by omega
        have HTr := Lib.hid (HT3.out.within HWW.out (by omega) (.inl (Nat.le_refl _)))
        by_cases hlt : k < m
        · obtain ⟨b, off, p, rfl, hx, _, hbl, d0, d1, d2, d3⟩ := Task.at HTr.out hlt
          have hpb := tOk_bounds (tasksOk_mem H2.out (List.mem_of_getElem? hx))
          have HX2 := Lib.hid hx
          clear hx
          have hb2 := (Below.refl wr.heap.size wr).alloc (Nat.le_refl _) (.cells #[.int .i64 p.lift, .int .i64 p.crane, .int .i64 p.start, .int .i64 p.stop] 143)
          by_cases hcr : p.crane < (n : Int)
          · have hyes : inB p.crane 0 ((n : Int) - 1) = true := inB_true.2 ⟨by omega, by omega⟩
            obtain ⟨u, hu⟩ : ∃ u : Nat, p.crane = (u : Int) := ⟨p.crane.toNat, by omega⟩
            have hul : u < n := by omega
            obtain ⟨y, hy, cy, fy⟩ := HOW.out.cellAt hul
            have hyb := wkAt_bd H2.out k u y hy
            have hst := wkAt_step HX2.out hu hy
            have HST := Lib.hid hst
            have HY := Lib.hid hyes
            have HU := Lib.hid hu
            have HYY := Lib.hid hy
            clear hst hyes hy hu
            go_wp2_with fail
            refine (index_any _ _ (by omega) (by omega) _).mono ?_
            rintro e w4 ⟨rfl, rfl⟩
            rw [HY.out]
            obtain ⟨W4, hW4⟩ : ∃ W4 : World, W4 = wr.alloc (.cells #[.int .i64 p.lift, .int .i64 p.crane, .int .i64 p.start, .int .i64 p.stop] 143) := ⟨_, rfl⟩
            have Q4 : Blk W4 wr.heap.size 143 #[.int .i64 p.lift, .int .i64 p.crane, .int .i64 p.start, .int .i64 p.stop] := by rw [hW4]; exact Blk.new _ _ _
            rw [← hW4] at hb2 ⊢
            clear hW4
            have HB4 := Lib.hid hb2
            have e1 : W4.cell? ⟨wr.heap.size, 1, none⟩ = some (.int .i64 p.crane) := Q4.cell 1
            have e2 : W4.cell? ⟨wr.heap.size, 2, none⟩ = some (.int .i64 p.start) := Q4.cell 2
            have e3 : W4.cell? ⟨wr.heap.size, 3, none⟩ = some (.int .i64 p.stop) := Q4.cell 3
            have cy4 := (hb2.cell (p := ⟨G, u, none⟩) hGr).trans cy
            have fy4 := (hb2.frozen (p := ⟨G, u, none⟩) hGr).trans fy
            have HOP := Lib.hid ((HOW.out.bel hb2).putAt HYY.out (y + (p.stop - p.start)))
            have hu := HU.out
            have hu0 : (0 : Int) ≤ (u : Int) := by omega
            have hu1 : (u : Int) < (n : Int) := by omega
            have hwr1 : IntKind.i64.wrap (p.stop - p.start) = p.stop - p.start := IntWalk.i64_in _ ⟨by omega, by omega⟩
            have hwr2 : IntKind.i64.wrap (y + (p.stop - p.start)) = y + (p.stop - p.start) := IntWalk.i64_in _ ⟨by omega, by omega⟩
            have hG4 : G < W4.heap.size := Nat.lt_of_lt_of_le hGr hb2.size
            clear d0 d1 d2 d3 cy fy Q4 hb2
            go_wp2_with fail
            go_region
            go_wp2
            go_roundw
            case rel => exact ⟨k + 1, by omega, by go_num, by rw [HST.out]; exact HOP.out.drewn, allStep HIN.out (by rw [inSite_of HX2.out]; exact decide_eq_true hcr), ((HBW.out.trans (HB4.out.mono hsw)).setCell (p := ⟨G, u, none⟩) hGw _).drew, ((HWW.out.trans (.of_below _ _ HB4.out)).setCell (p := ⟨G, u, none⟩) (Nat.le_refl _) (Nat.lt_succ_self _) _).drew⟩
            case measure => simp [intOf]; omega
          · have hno : inB p.crane 0 ((n : Int) - 1) = false := inB_false.2 (.inr (by omega))
            have HY := Lib.hid hno
            have HN : Hid (wkIn ts n = false) := by show _ = _; unfold wkIn; exact allTo_bad (List.getElem?_eq_some_iff.1 HX2.out).1 (by rw [inSite_of HX2.out]; exact decide_eq_false hcr)
            have HB5 := Lib.hid (HBW.out.trans (hb2.mono hsw))
            clear hno hb2
            go_wp2_with fail
            refine (index_any _ _ (by omega) (by omega) _).mono ?_
            rintro e w4 ⟨rfl, rfl⟩
            rw [HY.out]
            go_wp2
            go_ret2
            rw [(HX.out.2 HN.out).1, (HX.out.2 HN.out).2]; exact RetS.nil HB5.out
        · obtain rfl : k = m := by omega
          have HN : Hid (wkIn ts n = true) := by show _ = _; unfold wkIn; rw [HTL.out]; exact allTo_iff.2 HIN.out
          go_wp2
          go_ret2
          rw [(HX.out.1 HN.out).1, (HX.out.1 HN.out).2]; exact RetS.of HOW.out hGw (by omega) HBW.out

set_option maxRecDepth 100000 in
set_option maxHeartbeats 3200000 in
theorem specWorkOfCranes_any (s : Row Crane) (cs : List CV) (hv : s.xs.map Crane.val = cs) (A2 : Option Addr) (m c2 : Nat) (ts : List Task) (w : World) (lo lo2 : Nat) (h : Cranes w lo w.heap.size s.a s.n s.xs) (hc : s.n ≤ s.cap) (hc2 : s.cap ≤ 1048576) (hp : ∀ p ∈ s.xs, p.wf) (ht : Arr Task.cs 4 w lo2 w.heap.size A2 m ts) (hm : m ≤ 1048576) :
    Calls Try.prog 30 #[.agg #[.slice s.a s.n s.cap], .slice A2 m c2] w (RetS ic 1 2 (wkXs cs ts) (wkCode cs ts) w) := by
  have HV := Lib.hid hv
  have HP := Lib.hid hp
  have HL : Hid (cs.length = s.n) := by show _ = _; rw [cv_len hv, h.len]
  obtain ⟨A, n, c, ps⟩ := s
  dsimp only at *
  obtain ⟨W, hW⟩ : ∃ W : World, W = w.alloc (.cells #[.slice A n c] 36) := ⟨_, rfl⟩
  have B0 : Below w.heap.size w W := by rw [hW]; exact (Below.refl _ _).alloc (Nat.le_refl _) _
  have P0 : Blk W w.heap.size 36 #[.slice A n c] := by rw [hW]; exact Blk.new _ _ _
  have HC := Lib.hid (h.next B0)
  have HT := Lib.hid (ht.next B0)
  have HTL := Lib.hid ht.1
  clear h hv hp ht
  cases h1 : siteOk cs
  · have H1 := Lib.hid h1
    have H : Hid (wkXs cs ts = [] ∧ wkCode cs ts = 1) := by show _ ∧ _; unfold wkXs wkCode; rw [h1]; exact ⟨rfl, rfl⟩
    clear h1
    go_enter Try.func30, Try.ntmps30
    go_wp2_with fail
    rw [← hW]
    clear hW
    have c9 := P0.lt
    refine (l04Site_any w.heap.size 0 ⟨A, n, c, ps⟩ cs HV.out _ lo (P0.cell 0) P0.lt HC.out (show n ≤ 1048576 by omega) HP.out).mono ?_
    rintro e w1 ⟨rfl, hb1⟩
    rw [H1.out]
    have B1 := B0.trans (hb1.mono B0.size)
    clear c9 P0 hb1
    go_wp2
    go_ret2
    rw [H.out.1, H.out.2]; exact RetS.nil B1
  · have H1 := Lib.hid h1
    cases h2 : tasksOk ts
    · have H2 := Lib.hid h2
      have H : Hid (wkXs cs ts = [] ∧ wkCode cs ts = 1) := by show _ ∧ _; unfold wkXs wkCode; rw [h1, h2]; exact ⟨rfl, rfl⟩
      clear h1 h2
      go_enter Try.func30, Try.ntmps30
      go_wp2_with fail
      rw [← hW]
      clear hW
      have c9 := P0.lt
      refine (l04Site_any w.heap.size 0 ⟨A, n, c, ps⟩ cs HV.out _ lo (P0.cell 0) P0.lt HC.out (show n ≤ 1048576 by omega) HP.out).mono ?_
      rintro e w1 ⟨rfl, hb1⟩
      rw [H1.out]
      have B1 := B0.trans (hb1.mono B0.size)
      have HT1 := Lib.hid (HT.out.next hb1)
      clear c9 P0 hb1
      go_wp2_with fail
      refine (quiet_bel (l11Ok_any _ _ _ ts _ lo2 HT1.out hm)).mono ?_
      rintro e w2 ⟨rfl, hb2⟩
      rw [H2.out]
      have B2 := B1.trans (hb2.mono B1.size)
      clear hb2
      go_wp2
      go_ret2
      rw [H.out.1, H.out.2]; exact RetS.nil B2
    · have H2 := Lib.hid h2
      have HX : Hid ((wkIn ts n = true → wkXs cs ts = wkAt ts n m ∧ wkCode cs ts = 0) ∧ (wkIn ts n = false → wkXs cs ts = [] ∧ wkCode cs ts = 2)) := by
        show _ ∧ _
        unfold wkXs wkCode; rw [h1, h2, HL.out, HTL.out]
        exact ⟨fun h => by rw [h]; exact ⟨rfl, rfl⟩, fun h => by rw [h]; exact ⟨rfl, rfl⟩⟩
      have hm40 : m ≤ 40 := by have := tasksOk_len h2; rw [HTL.out] at this; exact this
      clear h1 h2
      obtain ⟨i0, hi, hz0, hz1, hz2⟩ := info_parts infoInt
      have hmk := fun W => run_make_rowN (P := Try.prog) 27 2 i0 _ Try.underlying27 hi hz0 .i64 .i64 n n (Nat.le_refl _) (by rw [hz2]; omega) (by omega) W
      rw [hz1] at hmk
      simp only [Nat.mul_one] at hmk
      clear hi hz0 hz1 hz2
      go_enter Try.func30, Try.ntmps30
      go_wp2_with fail
      rw [← hW]
      clear hW
      have c9 := P0.lt
      refine (l04Site_any w.heap.size 0 ⟨A, n, c, ps⟩ cs HV.out _ lo (P0.cell 0) P0.lt HC.out (show n ≤ 1048576 by omega) HP.out).mono ?_
      rintro e w1 ⟨rfl, hb1⟩
      rw [H1.out]
      have B1 := B0.trans (hb1.mono B0.size)
      have HT1 := Lib.hid (HT.out.next hb1)
      have P1 := P0.bel hb1
      clear c9 P0 hb1
      go_wp2_with fail
      refine (quiet_bel (l11Ok_any _ _ _ ts _ lo2 HT1.out hm)).mono ?_
      rintro e w2 ⟨rfl, hb2⟩
      rw [H2.out]
      have B2 := B1.trans (hb2.mono B1.size)
      have HT2 := Lib.hid (HT1.out.next hb2)
      have P2 := P1.bel hb2
      have HO0 := Lib.hid (own_zero w2 n)
      have hs2 := B2.size
      have HB0 := Lib.hid (B2.alloc hs2 (.cells (madeCells #[.int .i64 0] n) 2))
      have c9 : w2.cell? ⟨w.heap.size, 0, none⟩ = some (.slice A n c) := P2.cell 0
      have HT3 := Lib.hid (HT2.out.below ((Below.refl _ _).alloc (Nat.le_refl _) (.cells (madeCells #[.int .i64 0] n) 2)))
      clear P1 P2 hb2
      go_wp2
      clear hmk c9
      obtain ⟨G, hG⟩ : ∃ G, w2.heap.size = G := ⟨_, rfl⟩
      have hGw : w.heap.size ≤ G := by omega
      rw [hG] at HO0 HT3 ⊢
      obtain ⟨w3, hw3⟩ : ∃ w3, w3 = w2.alloc (.cells (madeCells #[.int .i64 0] n) 2) := ⟨_, rfl⟩
      have hG3 : w3.heap.size = G + 1 := by rw [hw3]; simp [hG]
      rw [← hw3] at HO0 HB0 HT3 ⊢
      clear hG hs2 hw3
      go_loopw [7] (fun s wr => ∃ k : Nat, k ≤ m ∧ s = .int .i64 k ∧ Own ic 1 wr G (G + 1) 2 (some ⟨G, 0, none⟩) n (wkAt ts n k) ∧ (∀ j, j < k → inSite ts n j = true) ∧ Below w.heap.size w wr ∧ Within G (G + 1) w3 wr) (fun s _ => m - (intOf s).toNat)
      case atStart => exact ⟨0, Nat.zero_le _, rfl, HO0.out, fun j h => absurd h (by omega), HB0.out, Within.refl _ _ _⟩
      case round =>
        obtain ⟨k, hk, rfl, hown, hin, hbw, hww⟩ := hrel
        have HOW := Lib.hid hown
        have HBW := Lib.hid hbw
        have HWW := Lib.hid hww
        have HIN := Lib.hid hin
        have hsw := hbw.size
        have hsx := hww.size
        clear hown hin hbw hww HO0 HB0
        have hGr : G < wr.heap.size := by omega
        have HTr := Lib.hid (HT3.out.within HWW.out (by omega) (.inl (Nat.le_refl _)))
        by_cases hlt : k < m
        · obtain ⟨b, off, p, rfl, hx, _, hbl, d0, d1, d2, d3⟩ := Task.at HTr.out hlt
          have hpb := tOk_bounds (tasksOk_mem H2.out (List.mem_of_getElem? hx))
          have HX2 := Lib.hid hx
          clear hx
          have hbl2 : b < wr.heap.size := by omega
          by_cases hcr : p.crane < (n : Int)
          · obtain ⟨u, hu⟩ : ∃ u : Nat, p.crane = (u : Int) := ⟨p.crane.toNat, by omega⟩
            have hul : u < n := by omega
            obtain ⟨y, hy, cy, fy⟩ := HOW.out.cellAt hul
            have hyb := wkAt_bd H2.out k u y hy
            have hst := wkAt_step HX2.out hu hy
            have HST := Lib.hid hst
            have HOP := Lib.hid (HOW.out.putAt hy (y + (p.stop - p.start)))
            have hu0 : (0 : Int) ≤ (u : Int) := by omega
            have hu1 : (u : Int) < (n : Int) := by omega
            have hk0 : (0 : Int) ≤ (k : Int) := by omega
            have hk1 : (k : Int) < (m : Int) := by omega
            have hwr1 : IntKind.i64.wrap (p.stop - p.start) = p.stop - p.start := IntWalk.i64_in _ ⟨by omega, by omega⟩
            have hwr2 : IntKind.i64.wrap (y + (p.stop - p.start)) = y + (p.stop - p.start) := IntWalk.i64_in _ ⟨by omega, by omega⟩
            rw [hu] at d1 hcr hpb
            have HU := Lib.hid hu
            clear hst hy hu
            go_wp2
            go_region
            go_wp2
            go_roundw
            case rel => exact ⟨k + 1, by omega, by go_num, by rw [HST.out]; exact HOP.out.drewn, allStep HIN.out (by rw [inSite_of HX2.out, HU.out]; exact decide_eq_true hcr), (HBW.out.setCell (p := ⟨G, u, none⟩) hGw _).drew, (HWW.out.setCell (p := ⟨G, u, none⟩) (Nat.le_refl _) (Nat.lt_succ_self _) _).drew⟩
            case measure => simp [intOf]; omega
          · have hge : (n : Int) ≤ p.crane := by omega
            have HN : Hid (wkIn ts n = false) := by show _ = _; unfold wkIn; exact allTo_bad (List.getElem?_eq_some_iff.1 HX2.out).1 (by rw [inSite_of HX2.out]; exact decide_eq_false hcr)
            go_wp2
            go_ret2
            rw [(HX.out.2 HN.out).1, (HX.out.2 HN.out).2]; exact RetS.nil HBW.out
        · obtain rfl : k = m := by omega
          have HN : Hid (wkIn ts n = true) := by show _ = _; unfold wkIn; rw [HTL.out]; exact allTo_iff.2 HIN.out
          go_wp2
          go_ret2
          rw [(HX.out.1 HN.out).1, (HX.out.1 HN.out).2]; exact RetS.of HOW.out hGw (by omega) HBW.out
end Go.Proofs.Ytdoinbnnpompiaa
