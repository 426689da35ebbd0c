/- DropLift of the reference: it hands back dlXs and dlCode (to be read). -/
import Derived.Test.YtbklbhbjlbojdaaLiftCopyT
import Derived.Test.YtbklbhbjlbojdaaDropFind
namespace Go.Proofs.Ytbklbhbjlbojdaa
open Go.RowKit
set_option linter.unusedVariables false

theorem usesB_of {k : Int} {p : Lift} {b : Bool} (h : usesB k p.val = b) : (p.r.xs.any fun y => decide (y = k)) = b := h
set_option maxRecDepth 100000 in
set_option maxHeartbeats 3200000 in
theorem specDropLift_any (A : Option Addr) (n c : Nat) (ps : List Lift) (vs : List LV) (hv : ps.map Lift.val = vs) (kk : Int) (hkk : -9223372036854775808 ≤ kk ∧ kk ≤ 9223372036854775807) (w : World) (lo : Nat) (h : Lifts w lo w.heap.size A n ps) (hn : n ≤ 1048576) (hc : n ≤ c) (hc2 : c ≤ 1048576) (hp : ∀ p ∈ ps, p.wf) (hpn : ∀ p ∈ ps, p.r.n ≤ 1048576) (ha : ∀ p ∈ ps, ∃ a, p.r.a = some a) :
    Calls Try.prog 25 #[.slice A n c, .int .i64 kk] w (RetLR (dlXs vs kk) (dlCode vs kk) w) := by
  have HV := Lib.hid hv
  have HP := Lib.hid hp
  have HPN := Lib.hid hpn
  have HA := Lib.hid ha
  have HC := Lib.hid h
  have HL : Hid (vs.length = n) := by show _ = _; rw [lv_len hv, h.len]
  clear hv hp hpn ha h
  by_cases hf : lfCode vs kk = 0
  · have HF := Lib.hid hf
    obtain ⟨hok, hk0, hk1⟩ := lfCode_ok hf
    have hlen := liftsOk_len hok
    rw [HL.out] at hlen hk1
    obtain ⟨k, rfl⟩ := Int.eq_ofNat_of_zero_le hk0
    have HOK := Lib.hid hok
    clear hf hok
    go_enter Try.func25, Try.ntmps25
    go_wp2_with fail
    refine (l08Code_any A n c ps vs HV.out k w lo HC.out hn hc hc2 HP.out).mono ?_
    rintro e w1 ⟨rfl, hb1⟩
    rw [HF.out]
    have HC1 := Lib.hid (HC.out.next hb1)
    go_wp2_with fail
    refine (l08CopyT_any A n c ps w1 lo HC1.out hn HPN.out HA.out).mono ?_
    rintro e w2 ⟨v2, rfl, qs, hg2, hv2, ⟨f, ht2⟩, hb2⟩
    have hql : qs.length = n := by have := congrArg List.length hv2; rw [List.length_map, List.length_map] at this; rw [this, ← HL.out, ← HV.out, List.length_map]
    obtain ⟨A2, c2, rfl, ho2⟩ := hg2.own Lift.cs_len
    rw [hql] at ho2 ⊢
    have HQL := Lib.hid hql
    have HV2 : Hid (qs.map Lift.val = vs) := by show _ = _; rw [hv2, HV.out]
    have HB2 := Lib.hid (hb1.trans (hb2.mono hb1.size))
    have hs1 := hb1.size
    have hs2 := hb2.size
    obtain ⟨B, hB⟩ : ∃ B, w2.heap.size = B := ⟨_, rfl⟩
    have hpq : Hid (∀ q ∈ qs, q.r.n ≤ 1048576) := by
      intro q hq
      obtain ⟨p, hp, e⟩ := mem_same hv2 hq
      simp only [Lift.val, Prod.mk.injEq] at e
      obtain ⟨j, hj, hqj⟩ := List.getElem_of_mem hq
      have h1 := (ht2.own j q (by rw [← hqj]; exact List.getElem?_eq_getElem hj)).1
      have h2 := (HC1.out.2 p hp).1
      rw [← h1, ← e.2, h2]; exact HPN.out p hp
    have HO2 := Lib.hid ho2
    have HT2 := Lib.hid ht2
    rw [hB] at HO2 HT2
    clear hg2 hv2 ht2 hb2 ho2 hql hb1
    go_wp2
    go_loopw [8, 9] (fun v i wr => ∃ (j : Nat), j ≤ n ∧ i = .int .i64 j ∧ Grow Lift.cs 9 wr B 36 v (((qs.map (shL k)).take j).eraseIdx k) ∧ allTo (fun i => match qs[i]? with | some q => !usesB k q.val | none => true) j = true ∧
        Own Lift.cs 9 wr w1.heap.size B 36 A2 n (upTo (fun _ => shL k) qs j) ∧ Tiles ic 1 2 Lift.r wr w1.heap.size B (upTo (fun _ => shL k) qs j) f ∧ B ≤ wr.heap.size ∧ Below w.heap.size w wr) (fun _ i _ => n - (intOf i).toNat)
    case atStart =>
      refine ⟨0, Nat.zero_le _, rfl, (by have h9 := Grow.empty (c := Lift.cs) (k := 9) w2 B 36 (by omega); rw [hB] at h9; simpa using h9), rfl, ?_, ?_, by simp; omega, HB2.out.alloc HB2.out.size _⟩
      · rw [upTo_zero]; exact HO2.out.bel ((Below.refl _ _).alloc (Nat.le_refl _) _)
      · rw [upTo_zero]; exact HT2.out.below ((Below.refl _ _).alloc (Nat.le_refl _) _)
    case round =>
      obtain ⟨j, hj, rfl, hgr, hall, hown, htl, hBs, hbw⟩ := hrel
      have HALL := Lib.hid hall
      have HB := Lib.hid hbw
      have hsz := hbw.size
      clear hall hbw HO2 HT2
      by_cases hlt : j < n
      · obtain ⟨q, hq⟩ : ∃ q, qs[j]? = some q := ⟨_, List.getElem?_eq_getElem (by rw [HQL.out]; exact hlt)⟩
        have HQ := Lib.hid hq
        have hup := upTo_at (t := fun _ => shL (k : Int)) hq
        have HUP := Lib.hid hup
        have hqn := hpq.out q (List.mem_of_getElem? hq)
        obtain ⟨b, off, x, eA, hx, hb1, hb2, hcs⟩ := (hown.arr Lift.cs_len).cells hlt
        rw [hup] at hx
        cases hx
        have g8 := hcs 8 _ rfl
        have g0 := hcs 0 _ rfl
        have g1 := hcs 1 _ rfl
        have g2 := hcs 2 _ rfl
        have g3 := hcs 3 _ rfl
        have g4 := hcs 4 _ rfl
        have g5 := hcs 5 _ rfl
        have g6 := hcs 6 _ rfl
        have g7 := hcs 7 _ rfl
        have hrow := htl.own j q hup
        have hfl := htl.upto j (by rw [upTo_len, HQL.out]; omega)
        have hfm := htl.le (a := j + 1) (b := (upTo (fun _ => shL (k : Int)) qs j).length) (by rw [upTo_len, HQL.out]; omega) (Nat.le_refl _)
        have hfh := htl.hi_
        have HR := Lib.hid hrow
        have HT := Lib.hid htl
        have HO := Lib.hid hown
        have HG := Lib.hid hgr
        have hj0 : (0 : Int) ≤ (j : Int) := by omega
        have hj1 : (j : Int) < (n : Int) := by omega
        obtain ⟨g, hgA, hgI, hgb⟩ : ∃ g, (0 < q.r.n → q.r.a = some ⟨g, 0, none⟩) ∧ ((f j ≤ g ∧ g < f (j + 1)) ∨ g = wr.heap.size) ∧ g ≠ b := by
          obtain ⟨b', cs', e1, _, _, h3⟩ := hown.block? (by omega)
          rw [eA] at e1
          cases e1
          exact hrow.blockOr h3 (by decide)
        have hxs : Hid (∀ x ∈ q.r.xs, 0 ≤ x ∧ x ≤ 10) := by
          intro x hx
          have hvj : vs[j]? = some q.val := by rw [← HV2.out]; simp [hq]
          have h1 := risesB_mem (liftsOk_at HOK.out hvj).2 hx
          omega
        have hHA : Hid (A2 = some ⟨b, off, none⟩) := eA
        clear hq hup hcs hrow htl hown hgr
        go_wp2_with fail
        refine (l00Has_any q.r.a q.r.n q.r.cap q.r.xs (k : Int) _ (f j) (f (j + 1)) (HR.out.arr ic_len) (by omega)).mono ?_
        rintro e w3 ⟨rfl, rfl⟩
        cases hu : usesB (k : Int) q.val
        · have hu2 := usesB_of hu
          have HU := Lib.hid hu
          rw [hu2]
          clear hu hu2
          go_wp2
          go_loopw [10] (fun i wy => ∃ t : Nat, t ≤ q.r.n ∧ i = .int .i64 t ∧ Own ic 1 wy (f j) (f (j + 1)) 2 q.r.a q.r.n (upTo (fun _ => shI (k : Int)) q.r.xs t) ∧ Within g (g + 1) wr wy) (fun i _ => q.r.n - (intOf i).toNat)
          case atStart => exact ⟨0, Nat.zero_le _, rfl, by rw [upTo_zero]; exact HR.out, Within.refl _ _ _⟩
          case round =>
            obtain ⟨t, ht, rfl, hro, hwi⟩ := hrel
            have e8 := (hwi.cell (p := ⟨b, off + j * 9 + 8, none⟩) (show b < _ by omega) (show b < _ ∨ _ ≤ b by omega)).trans g8
            have HWI := Lib.hid hwi
            have HRO := Lib.hid hro
            by_cases htn : t < q.r.n
            · have hga := hgA (by omega)
              rw [hga] at e8 hro
              obtain ⟨y, hy, ey, fy⟩ := hro.cellAt htn
              have hy2 : q.r.xs[t]? = some y := by
                have hl : t < q.r.xs.length := by have := HRO.out.1; rw [upTo_len] at this; omega
                have h9 := upTo_at (t := fun _ => shI (k : Int)) (List.getElem?_eq_getElem hl)
                rw [h9] at hy; rw [← hy]; exact List.getElem?_eq_getElem hl
              have HY := Lib.hid hy2
              have hyb := hxs.out y (List.mem_of_getElem? hy2)
              have HGA := Lib.hid hga
              have hswi := hwi.size
              have ht1 : (t : Int) < (q.r.n : Int) := by omega
              have ht0 : (0 : Int) ≤ (t : Int) := by omega
              clear hro hwi hga hy hy2
              by_cases hky : (k : Int) < y
              · have HS : Hid (shI (k : Int) y = y - 1) := by show _ = _; unfold shI; rw [if_pos hky]
                go_wp2
                go_roundw
                case rel =>
                  refine ⟨t + 1, by omega, by go_num, ?_, HWI.out.setCell (p := ⟨g, t, none⟩) (Nat.le_refl _) (Nat.lt_succ_self _) _⟩
                  have h9 := HRO.out
                  rw [HGA.out] at h9
                  have h8 := h9.putAt (upTo_at HY.out) (y - 1)
                  rw [← HS.out, upTo_set (t := fun _ => shI (k : Int)) HY.out, HS.out] at h8
                  rw [HGA.out]; exact h8
                case measure => simp [intOf]; omega
              · have HS : Hid (shI (k : Int) y = y) := by show _ = _; unfold shI; rw [if_neg hky]
                go_wp2
                go_roundw
                case rel => exact ⟨t + 1, by omega, by go_num, by rw [upTo_same HY.out HS.out]; exact HRO.out, HWI.out⟩
                case measure => simp [intOf]; omega
            · obtain rfl : t = q.r.n := by omega
              have hro2 : Own ic 1 wr (f j) (f (j + 1)) 2 q.r.a q.r.n (q.r.xs.map (shI (k : Int))) := by
                rw [upTo_all (by rw [HR.out.1]; exact Nat.le_refl _)] at hro; exact hro
              have HT3 : Hid (Tiles ic 1 2 Lift.r wr w1.heap.size B (upTo (fun _ => shL (k : Int)) qs (j + 1)) f) := by
                show Tiles _ _ _ _ _ _ _ _ _
                rw [← upTo_set (t := fun _ => shL (k : Int)) HQ.out]
                exact HT.out.turn1 (p' := shL (k : Int) q) HUP.out hwi (by omega) hro2
              have HO3 : Hid (Own Lift.cs 9 wr w1.heap.size B 36 A2 n (upTo (fun _ => shL (k : Int)) qs (j + 1))) := by
                show Own _ _ _ _ _ _ _ _ _
                rw [← upTo_set (t := fun _ => shL (k : Int)) HQ.out]
                refine (HO.out.swap (y := shL (k : Int) q) HUP.out rfl).heapEq fun g2 e2 => ?_
                rw [hHA.out] at e2
                cases e2
                exact hwi.block b (by omega) (by omega)
              have HG3 := Lib.hid (HG.out.within hwi (by omega))
              have HB3 := Lib.hid (Below.within HB.out hwi (by omega) hsz)
              have HALL2 : Hid (allTo (fun i => match qs[i]? with | some q => !usesB (k : Int) q.val | none => true) (j + 1) = true) := allTo_step HALL.out (by simp only [HQ.out, HU.out]; rfl)
              have hswi := hwi.size
              have d0 := (hwi.cell (p := ⟨b, off + j * 9 + 0, none⟩) (show b < _ by omega) (show b < _ ∨ _ ≤ b by omega)).trans g0
              have d1 := (hwi.cell (p := ⟨b, off + j * 9 + 1, none⟩) (show b < _ by omega) (show b < _ ∨ _ ≤ b by omega)).trans g1
              have d2 := (hwi.cell (p := ⟨b, off + j * 9 + 2, none⟩) (show b < _ by omega) (show b < _ ∨ _ ≤ b by omega)).trans g2
              have d3 := (hwi.cell (p := ⟨b, off + j * 9 + 3, none⟩) (show b < _ by omega) (show b < _ ∨ _ ≤ b by omega)).trans g3
              have d4 := (hwi.cell (p := ⟨b, off + j * 9 + 4, none⟩) (show b < _ by omega) (show b < _ ∨ _ ≤ b by omega)).trans g4
              have d5 := (hwi.cell (p := ⟨b, off + j * 9 + 5, none⟩) (show b < _ by omega) (show b < _ ∨ _ ≤ b by omega)).trans g5
              have d6 := (hwi.cell (p := ⟨b, off + j * 9 + 6, none⟩) (show b < _ by omega) (show b < _ ∨ _ ≤ b by omega)).trans g6
              have d7 := (hwi.cell (p := ⟨b, off + j * 9 + 7, none⟩) (show b < _ by omega) (show b < _ ∨ _ ≤ b by omega)).trans g7
              have hqm : Hid ((qs.map (shL (k : Int)))[j]? = some (shL (k : Int) q)) := by show _ = _; simp [HQ.out]
              rw [Nat.add_zero] at d0
              clear hro hro2 hwi g0 g1 g2 g3 g4 g5 g6 g7 g8
              by_cases hjk : j = k
              · have HJ := Lib.hid hjk
                have hjb : ((j : Int) == (k : Int)) = true := beq_iff_eq.2 (by omega)
                have HG4 : Hid (Grow Lift.cs 9 wr B 36 u8 (((qs.map (shL (k : Int))).take (j + 1)).eraseIdx k)) := by
                  show Grow _ _ _ _ _ _ _
                  rw [take_erase_eq2 hqm.out HJ.out]; exact HG3.out
                clear hjk d0 d1 d2 d3 d4 d5 d6 d7
                go_wp2
                rw [← hHA.out]
                go_roundw
                case rel => exact ⟨j + 1, by omega, by go_num, HG4.out, HALL2.out, HO3.out, HT3.out, by omega, HB3.out⟩
                case measure => simp [intOf]; omega
              · have hjb : ((j : Int) == (k : Int)) = false := beq_eq_false_iff_ne.2 (by omega)
                have HJ := Lib.hid hjk
                obtain ⟨W4, hW4⟩ : ∃ W4 : World, W4 = wr.alloc (.cells #[.string q.v.name, .int .i64 q.v.weight, .int .i64 q.v.fx, .int .i64 q.v.fy, .int .i64 q.v.tx, .int .i64 q.v.ty, .int .i64 q.v.height, .int .i64 q.v.deadline, .slice q.r.a q.r.n q.r.cap] 36) := ⟨_, rfl⟩
                have hb4 : Below wr.heap.size wr W4 := by rw [hW4]; exact (Below.refl _ _).alloc (Nat.le_refl _) _
                have HB4 := Lib.hid hb4
                have hs4 := hb4.size
                have HG4 : Hid (Grow Lift.cs 9 W4 B 36 u8 (((qs.map (shL (k : Int))).take j).eraseIdx k)) := HG3.out.bel hb4
                have hol : (((qs.map (shL (k : Int))).take j).eraseIdx k).length ≤ 10 := by
                  refine Nat.le_trans (List.length_eraseIdx_le _ _) ?_
                  rw [List.length_take]; omega
                have HW4 := Lib.hid hW4
                clear hjk hW4 hb4
                go_wp2_with (at_builtin; rw [← HW4.out]; refine wpList_snoc _ rfl _ _ 30 rfl B 36 _ _ Try.underlying30 LiftInfo rfl (by omega) _ _ (shL (k : Int) q) rfl HG4.out _ _ rfl (by rw [HW4.out]; exact heap_new_at _ _ (by simp)) rfl rfl (Lift.cs_one _) (by omega) (by omega) (by omega) ?_; intro v' w5 hg5 hgr5)
                have hs5 := hgr5.size
                have HG5 : Hid (Grow Lift.cs 9 w5 B 36 v' (((qs.map (shL (k : Int))).take (j + 1)).eraseIdx k)) := by
                  show Grow _ _ _ _ _ _ _
                  rw [take_erase_ne hqm.out HJ.out]; exact hg5
                have HO5 : Hid (Own Lift.cs 9 w5 w1.heap.size B 36 A2 n (upTo (fun _ => shL (k : Int)) qs (j + 1))) := by
                  refine (HO3.out.bel HB4.out).heapEq fun g2 e2 => ?_
                  rw [hHA.out] at e2
                  cases e2
                  exact hgr5.block b (by omega) (fun e9 => by have := HG4.out.lt b e9.symm; omega)
                have HT5 : Hid (Tiles ic 1 2 Lift.r w5 w1.heap.size B (upTo (fun _ => shL (k : Int)) qs (j + 1)) f) := (HT3.out.below HB4.out).kept (by decide) HG4.out hgr5
                have HB5 : Hid (Below w.heap.size w w5) := HG4.out.less (lo' := w.heap.size) (by omega) |>.below (HB3.out.trans (HB4.out.mono (by omega))) hgr5 (Nat.le_refl _) (by omega)
                clear d0 d1 d2 d3 d4 d5 d6 d7 e8 hg5 hgr5
                rw [← hHA.out]
                go_roundw
                case rel => exact ⟨j + 1, by omega, by go_num, HG5.out, HALL2.out, HO5.out, HT5.out, by omega, HB5.out⟩
                case measure => simp [intOf]; omega
        · have hu2 := usesB_of hu
          have HU := Lib.hid hu
          rw [hu2]
          have H6 := Lib.hid (dl_6 HF.out (show vs.any (usesB (k : Int)) = true by rw [← HV2.out, List.any_eq_true]; exact ⟨q.val, List.mem_map.2 ⟨q, List.mem_of_getElem? HQ.out, rfl⟩, HU.out⟩))
          clear hu hu2
          go_wp2
          go_ret2
          rw [H6.out.1, H6.out.2]; exact RetLR.nil HB.out
      · obtain rfl : j = n := by omega
        have h0 : Hid (vs.any (usesB (k : Int)) = false) := by
          show _ = _
          rw [← HV2.out, List.any_eq_false]
          intro v hv
          obtain ⟨q, hq, rfl⟩ := List.mem_map.1 hv
          obtain ⟨i, hi, hqi⟩ := List.getElem_of_mem hq
          have h9 := allTo_iff.1 HALL.out i (by rw [← HQL.out]; exact hi)
          rw [List.getElem?_eq_getElem hi, hqi] at h9
          simpa using h9
        have H0 := Lib.hid (dl_0 HF.out h0.out)
        have htk : (qs.map (shL (k : Int))).take j = qs.map (shL (k : Int)) := List.take_of_length_le (by rw [List.length_map, HQL.out]; exact Nat.le_refl _)
        rw [htk] at hgr
        obtain ⟨A9, c9, rfl, ho9⟩ := hgr.own Lift.cs_len
        have HVV : Hid (((qs.map (shL (k : Int))).eraseIdx k).map Lift.val = (vs.map (shV (k : Int))).eraseIdx k) := by
          show _ = _
          rw [map_erase, ← HV2.out, List.map_map, List.map_map]
          rfl
        have hlen : ((qs.map (shL (k : Int))).eraseIdx k).length = ((vs.map (shV (k : Int))).eraseIdx k).length := by rw [← HVV.out, List.length_map]
        have HLF : Hid (Lifts wr w.heap.size wr.heap.size A9 ((qs.map (shL (k : Int))).eraseIdx k).length ((qs.map (shL (k : Int))).eraseIdx k)) := by
          refine ⟨(ho9.arr Lift.cs_len).less (by omega), fun p hp => ?_⟩
          have hp2 := List.mem_of_mem_eraseIdx hp
          rw [← upTo_all (t := shL (k : Int)) (xs := qs) (n := j) (by rw [HQL.out]; exact Nat.le_refl _)] at hp2
          obtain ⟨i, hi, hpi⟩ := List.getElem_of_mem hp2
          exact ((htl.arrAt ic_len (by rw [← hpi]; exact List.getElem?_eq_getElem hi)).more hBs).less (by omega)
        have HLN := Lib.hid hlen
        clear hgr hown htl ho9 htk hlen
        go_wp2
        go_ret2
        rw [H0.out.1, H0.out.2]
        exact ⟨A9, c9, _, by rw [HLN.out]; rfl, by rw [HVV.out]; rfl, by have := HLF.out; rw [HLN.out] at this; exact this, HB.out⟩
  · have HF := Lib.hid (dl_bad hf)
    have HN : Hid ((lfCode vs kk == 0) = false) := beq_eq_false_iff_ne.2 hf
    clear hf
    go_enter Try.func25, Try.ntmps25
    go_wp2_with fail
    refine (l08Code_any A n c ps vs HV.out kk w lo HC.out hn hc hc2 HP.out).mono ?_
    rintro e w1 ⟨rfl, hb1⟩
    have HNN := HN.out
    go_wp2
    go_ret2
    rw [HF.out.1, HF.out.2]; exact RetLR.nil hb1
end Go.Proofs.Ytbklbhbjlbojdaa
