/- DropLift of the program: it hands back dlXs and dlCode, in memory of its own. -/
import Derived.Test.YtbklbhbjlbojdaaDelete
import Derived.Test.YtbklbhbjlbojdaaCloneLiftsC
namespace Go.Proofs.Ytbklbhbjlbojdaa
open Go.RowKit
set_option linter.unusedVariables false

theorem any_uses (ps : List Lift) (vs : List LV) (hv : ps.map Lift.val = vs) (k : Int) : (ps.any fun p => usesB k p.val) = vs.any (usesB k) := by
  subst hv
  rw [List.any_map]; rfl
set_option maxRecDepth 100000 in
set_option maxHeartbeats 3200000 in
theorem dropLift_any (A : Option Addr) (n c : Nat) (ps : List Lift) (vs : List LV) (hv : ps.map Lift.val = vs) (kk : Int) (hkk : -9223372036854775808 ≤ kk ∧ kk ≤ 9223372036854775807) (w : World) (lo : Nat) (h : Lifts w lo w.heap.size A n ps) (hn : n ≤ 1048576) (hp : ∀ p ∈ ps, p.wf) (hpn : ∀ p ∈ ps, p.r.n ≤ 1048576) :
    Calls Try.prog 26 #[.slice A n c, .int .i64 kk] w (RetLW (dlXs vs kk) (dlCode vs kk) w) := by
  have HV := Lib.hid hv
  have HP := Lib.hid hp
  have HPN := Lib.hid hpn
  have HL : Hid (vs.length = n) := by show _ = _; rw [lv_len hv, h.len]
  have HAN := Lib.hid (any_uses ps vs hv kk)
  obtain ⟨W, hW⟩ : ∃ W : World, W = w.alloc (.cells #[.int .i64 kk] 2) := ⟨_, rfl⟩
  have B0 : Below w.heap.size w W := by rw [hW]; exact (Below.refl _ _).alloc (Nat.le_refl _) _
  have P0 : Blk W w.heap.size 2 #[.int .i64 kk] := by rw [hW]; exact Blk.new _ _ _
  have HC := Lib.hid (h.next B0)
  clear hv hp hpn h
  by_cases hf : lfCode vs kk = 0
  · have HF := Lib.hid hf
    obtain ⟨hok, hk0, hk1⟩ := lfCode_ok hf
    have hlen := liftsOk_len hok
    rw [HL.out] at hlen hk1
    obtain ⟨k, rfl⟩ := Int.eq_ofNat_of_zero_le hk0
    have HOK := Lib.hid hok
    clear hf hok
    go_enter Try.func26, Try.ntmps26
    have P0c := (P0.cell 0).trans rfl
    go_wp2_with fail
    rw [← hW]
    clear hW
    refine (liftCode_any A n c ps vs HV.out k W lo HC.out hn HP.out).mono ?_
    rintro e w1 ⟨rfl, hb1⟩
    rw [HF.out]
    have B1 := B0.trans (hb1.mono B0.size)
    have HC1 := Lib.hid (HC.out.next hb1)
    have P1 := P0.bel hb1
    have hs1 := B1.size
    clear P0 P0c hb1
    have P1c := (P1.cell 0).trans rfl
    go_wp2_with fail
    refine (containsLiftUse_any A n c ps _ _ HC1.out (by omega) (fun p => usesB (k : Int) p.val) ⟨w.heap.size, 0, none⟩ (fun p W' hp hb => usesK_any p (k : Int) w.heap.size W' lo ((P1.bel hb).cell 0) (P1.bel hb).lt (((HC1.out.2 p hp).below hb).more hb.size) (by have := HPN.out p hp; omega))).mono ?_
    rintro e w2 ⟨rfl, hb2⟩
    rw [HAN.out]
    have B2 := B1.trans (hb2.mono hs1)
    have HC2 := Lib.hid (HC1.out.next hb2)
    have P2 := P1.bel hb2
    have hs2 := B2.size
    clear P1 P1c hb2
    cases hu : vs.any (usesB (k : Int))
    · have H0 := Lib.hid (dl_0 HF.out hu)
      clear hu
      go_wp2_with fail
      refine (cloneLiftsC_any A n c ps w2 lo HC2.out hn HPN.out).mono ?_
      rintro e w3 ⟨A3, c3, qs, rfl, hcap, hv3, hrn3, ⟨mid, f, hlm, hmh, ho3, ht3⟩, hb3⟩
      have B3 := B2.trans (hb3.mono hs2)
      have P3 := P2.bel hb3
      have hs3 := B3.size
      have hs23 := hb3.size
      have hb0 : w.heap.size < w2.heap.size := P2.lt
      obtain ⟨hcn, hcm⟩ := hcap (by omega)
      have hql : qs.length = n := ho3.1
      obtain ⟨gA, csA, eA, hA1, hA2, hAb⟩ := ho3.block? (by omega)
      subst eA
      have HQL := Lib.hid hql
      have HV3 : Hid (qs.map Lift.val = vs) := by show _ = _; rw [hv3, HV.out]
      have HRN := Lib.hid hrn3
      have HB3 := Lib.hid B3
      obtain ⟨L, hL⟩ : ∃ L, w2.heap.size = L := ⟨_, rfl⟩
      obtain ⟨H, hH⟩ : ∃ H, w3.heap.size = H := ⟨_, rfl⟩
      rw [hL] at hlm ho3 hb0
      rw [hH] at hmh ht3
      have HO3 := Lib.hid ho3
      have HT3 := Lib.hid ht3
      clear B0 B1 B2 P2 hb3 B3 hcap hv3 hrn3 hql ho3 ht3 hAb csA
      have hHs : H ≤ w3.heap.size := Nat.le_of_eq hH.symm
      have HP3 := Lib.hid P3
      have P3c := (P3.cell 0).trans rfl
      clear P3 hL hH
      go_wp2
      go_loopw [25] (fun i wr => ∃ (j : Nat), j ≤ n ∧ i = .int .i64 j ∧ Own Lift.cs 9 wr L mid 36 (some ⟨gA, 0, none⟩) n (upTo (fun _ => shL (k : Int)) qs j) ∧ Tiles ic 1 2 Lift.r wr mid H (upTo (fun _ => shL (k : Int)) qs j) f ∧ H ≤ wr.heap.size ∧ Blk wr w.heap.size 2 #[.int .i64 (k : Int)] ∧ Below w.heap.size w wr) (fun i _ => n - (intOf i).toNat)
      case atStart => exact ⟨0, Nat.zero_le _, rfl, by rw [upTo_zero]; exact HO3.out, by rw [upTo_zero]; exact HT3.out, hHs, HP3.out, HB3.out⟩
      case round =>
        obtain ⟨j, hj, rfl, hown, htl, hHw, hPk, hbw⟩ := hrel
        have HB := Lib.hid hbw
        have hsz := hbw.size
        clear hbw HO3 HT3
        by_cases hlt : j < n
        · obtain ⟨q, hq⟩ : ∃ q, qs[j]? = some q := ⟨_, List.getElem?_eq_getElem (by rw [HQL.out]; exact hlt)⟩
          have HQ := Lib.hid hq
          have hup := upTo_at (t := fun _ => shL (k : Int)) hq
          have HUP := Lib.hid hup
          have hqn := HRN.out q (List.mem_of_getElem? hq)
          obtain ⟨b, off, x, e9, hx, hbl1, hbl2, hcs⟩ := (hown.arr Lift.cs_len).cells hlt
          cases e9
          rw [hup] at hx
          cases hx
          have g0 := hcs 0 _ rfl
          have g1 := hcs 1 _ rfl
          have g2 := hcs 2 _ rfl
          have g3 := hcs 3 _ rfl
          have g4 := hcs 4 _ rfl
          have g5 := hcs 5 _ rfl
          have g6 := hcs 6 _ rfl
          have g7 := hcs 7 _ rfl
          have g8 := hcs 8 _ rfl
          simp only [Nat.zero_add, Nat.add_zero] at g0 g1 g2 g3 g4 g5 g6 g7 g8
          have hrow := htl.own j q hup
          have hfl := htl.upto j (by rw [upTo_len, HQL.out]; omega)
          have hfm := htl.le (a := j + 1) (b := (upTo (fun _ => shL (k : Int)) qs j).length) (by rw [upTo_len, HQL.out]; omega) (Nat.le_refl _)
          have hfh := htl.hi_
          obtain ⟨W1, hW1⟩ : ∃ W1 : World, W1 = wr.alloc (.cells #[.string q.v.name, .int .i64 q.v.weight, .int .i64 q.v.fx, .int .i64 q.v.fy, .int .i64 q.v.tx, .int .i64 q.v.ty, .int .i64 q.v.height, .int .i64 q.v.deadline, .slice q.r.a q.r.n q.r.cap] 36) := ⟨_, rfl⟩
          have hbW : Below wr.heap.size wr W1 := by rw [hW1]; exact (Below.refl _ _).alloc (Nat.le_refl _) _
          have PB : Blk W1 wr.heap.size 36 #[.string q.v.name, .int .i64 q.v.weight, .int .i64 q.v.fx, .int .i64 q.v.fy, .int .i64 q.v.tx, .int .i64 q.v.ty, .int .i64 q.v.height, .int .i64 q.v.deadline, .slice q.r.a q.r.n q.r.cap] := by rw [hW1]; exact Blk.new _ _ _
          obtain ⟨d0, d1, d2, d3, d4, d5, d6, d7, d8⟩ := Lift.blk PB
          have hrow1 := hrow.bel hbW
          obtain ⟨g, hgA, hgI, hgb⟩ := hrow1.blockOr (show W1.heap[wr.heap.size]? = _ from PB) (by decide)
          have hPk1 := hPk.bel hbW
          have hpc := (hPk1.cell 0).trans rfl
          have hsW := PB.lt
          have HR := Lib.hid hrow1
          have HT := Lib.hid (htl.below hbW)
          have HO := Lib.hid (hown.bel hbW)
          have HPK := Lib.hid hPk1
          have HBB := Lib.hid (HB.out.trans (hbW.mono hsz))
          have hxs : Hid (∀ x ∈ q.r.xs, 0 ≤ x ∧ x ≤ 10) := by
            intro x hx
            have hvj : vs[j]? = some q.val := by rw [← HV3.out]; simp [hq]
            have h1 := risesB_mem (liftsOk_at HOK.out hvj).2 hx
            omega
          have hj0 : (0 : Int) ≤ (j : Int) := by omega
          have hj1 : (j : Int) < (n : Int) := by omega
          obtain ⟨G, hGe, hGd, hGg, hGs⟩ : ∃ G, Hid (G = wr.heap.size) ∧ W1.cell? ⟨G, 8, none⟩ = some (.slice q.r.a q.r.n q.r.cap) ∧ g ≠ G ∧ G < W1.heap.size := ⟨_, rfl, d8, hgb, hsW⟩
          have HGD := Lib.hid hGd
          have HW1 := Lib.hid hW1
          clear hGd
          clear hq hup hcs hrow htl hown hPk hrow1 hPk1 hbW hW1 PB
          go_wp2
          rw [← HW1.out]
          go_loopw [32] (fun i wy => ∃ t : Nat, t ≤ q.r.n ∧ i = .int .i64 t ∧ Own ic 1 wy (f j) (f (j + 1)) 2 q.r.a q.r.n (upTo (fun _ => shI (k : Int)) q.r.xs t) ∧ Within g (g + 1) W1 wy) (fun i _ => q.r.n - (intOf i).toNat)
          case atStart => exact ⟨0, Nat.zero_le _, rfl, by rw [upTo_zero]; exact HR.out, Within.refl _ _ _⟩
          case round =>
            obtain ⟨t, ht, rfl, hro, hwi⟩ := hrel
            have HWI := Lib.hid hwi
            have HRO := Lib.hid hro
            have hswi := hwi.size
            by_cases htn : t < q.r.n
            · have hga := hgA (by omega)
              rw [hga] at hro
              obtain ⟨y, hy, ey, fy⟩ := hro.cellAt htn
              have hy2 : q.r.xs[t]? = some y := by
                have hl : t < q.r.xs.length := by have := HRO.out.1; rw [upTo_len] at this; omega
                have h9 := upTo_at (t := fun _ => shI (k : Int)) (List.getElem?_eq_getElem hl)
                rw [h9] at hy; rw [← hy]; exact List.getElem?_eq_getElem hl
              have HY := Lib.hid hy2
              have hyb := hxs.out y (List.mem_of_getElem? hy2)
              have HGA := Lib.hid hga
              have e8 := (hwi.cell (p := ⟨G, 8, none⟩) hGs (show G < g ∨ g + 1 ≤ G by omega)).trans HGD.out
              rw [hGe.out] at e8
              have epc := (hwi.cell (p := ⟨w.heap.size, 0, none⟩) (show w.heap.size < _ by omega) (show w.heap.size < _ ∨ _ ≤ w.heap.size by omega)).trans hpc
              rw [hga] at e8
              have ht1 : (t : Int) < (q.r.n : Int) := by omega
              have ht0 : (0 : Int) ≤ (t : Int) := by omega
              clear hro hwi hy hy2 d0 d1 d2 d3 d4 d5 d6 d7
              by_cases hky : (k : Int) < y
              · have HS : Hid (shI (k : Int) y = y - 1) := by show _ = _; unfold shI; rw [if_pos hky]
                go_wp2
                try rw [← HGA.out]
                go_roundw
                case rel =>
                  refine ⟨t + 1, by omega, by go_num, ?_, HWI.out.setCell (p := ⟨g, t, none⟩) (Nat.le_refl _) (Nat.lt_succ_self _) _⟩
                  have h9 := HRO.out
                  rw [HGA.out] at h9
                  have h8 := h9.putAt (upTo_at HY.out) (y - 1)
                  rw [← HS.out, upTo_set (t := fun _ => shI (k : Int)) HY.out, HS.out] at h8
                  rw [HGA.out]; exact h8
                case measure => simp [intOf]; omega
              · have HS : Hid (shI (k : Int) y = y) := by show _ = _; unfold shI; rw [if_neg hky]
                go_wp2
                try rw [← HGA.out]
                go_roundw
                case rel => exact ⟨t + 1, by omega, by go_num, by rw [upTo_same HY.out HS.out]; exact HRO.out, HWI.out⟩
                case measure => simp [intOf]; omega
            · obtain rfl : t = q.r.n := by omega
              have hro2 : Own ic 1 wr (f j) (f (j + 1)) 2 q.r.a q.r.n (q.r.xs.map (shI (k : Int))) := by
                rw [upTo_all (by rw [HR.out.1]; exact Nat.le_refl _)] at hro; exact hro
              have HT3 : Hid (Tiles ic 1 2 Lift.r wr mid H (upTo (fun _ => shL (k : Int)) qs (j + 1)) f) := by
                show Tiles _ _ _ _ _ _ _ _ _
                rw [← upTo_set (t := fun _ => shL (k : Int)) HQ.out]
                exact HT.out.turn1 (p' := shL (k : Int) q) HUP.out hwi (by omega) hro2
              have HO3 : Hid (Own Lift.cs 9 wr L mid 36 (some ⟨gA, 0, none⟩) n (upTo (fun _ => shL (k : Int)) qs (j + 1))) := by
                show Own _ _ _ _ _ _ _ _ _
                rw [← upTo_set (t := fun _ => shL (k : Int)) HQ.out]
                refine (HO.out.swap (y := shL (k : Int) q) HUP.out rfl).within hwi (by omega)
              have HB3 := Lib.hid (Below.within HBB.out hwi (by omega) (by omega))
              have HP9 : Hid (Blk wr w.heap.size 2 #[.int .i64 (k : Int)]) := (hwi.block w.heap.size (by omega) (by omega)).trans HPK.out
              clear hro hro2 hwi d0 d1 d2 d3 d4 d5 d6 d7 d8 g0 g1 g2 g3 g4 g5 g6 g7 g8
              go_wp2
              go_roundw
              case rel => exact ⟨j + 1, by omega, by go_num, HO3.out, HT3.out, by omega, HP9.out, HB3.out⟩
              case measure => simp [intOf]; omega
        · obtain rfl : j = n := by omega
          have hpc := (hPk.cell 0).trans rfl
          have hall := upTo_all (t := shL (k : Int)) (xs := qs) (n := j) (by rw [HQL.out]; exact Nat.le_refl _)
          rw [hall] at hown htl
          have HO9 := Lib.hid hown
          have HT9 := Lib.hid htl
          clear hown htl hall
          have hkc : ((k : Int) + 1) = ((k + 1 : Nat) : Int) := by push_cast; rfl
          have HKC := Lib.hid hkc
          clear hkc
          go_wp2_with fail
          rw [HKC.out]
          refine (deleteLift_any gA j c3 k (k + 1) L mid (qs.map (shL (k : Int))) wr HO9.out rfl (by omega) hcn hcm).mono ?_
          rintro e w9 ⟨rfl, ho9, hwi9⟩
          have hs9 := hwi9.size
          have HB9 := Lib.hid (Below.within HB.out hwi9 (by omega) (by omega))
          have HT10 := Lib.hid ((HT9.out.erase k (by rw [List.length_map, HQL.out]; omega)).within hwi9 (.inr (by omega)))
          have HVV : Hid (((qs.map (shL (k : Int))).eraseIdx k).map Lift.val = (vs.map (shV (k : Int))).eraseIdx k) := by
            show _ = _
            rw [map_erase, ← HV3.out, List.map_map, List.map_map]
            rfl
          have hlen9 : ((vs.map (shV (k : Int))).eraseIdx k).length = j - 1 := by
            rw [List.length_eraseIdx_of_lt (by rw [List.length_map, HL.out]; omega), List.length_map, HL.out]
          have HLN := Lib.hid hlen9
          have HO10 := Lib.hid ho9
          have HRN9 : Hid (∀ p ∈ (qs.map (shL (k : Int))).eraseIdx k, p.r.n ≤ 1048576) := by
            intro p hp
            obtain ⟨q, hq, rfl⟩ := List.mem_map.1 (List.mem_of_mem_eraseIdx hp)
            exact HRN.out q hq
          clear ho9 hwi9 hlen9 hpc
          go_wp2
          go_ret2
          rw [H0.out.1, H0.out.2]
          refine ⟨some ⟨gA, 0, none⟩, c3, _, by rw [Int.toNat_natCast, HLN.out]; rfl, by rw [HVV.out]; rfl, HRN9.out, ⟨mid, _, by omega, by omega, ?_, HT10.out.more (by omega)⟩, HB9.out⟩
          rw [Int.toNat_natCast, HLN.out]
          exact HO10.out.wide (by omega) (Nat.le_refl _)
    · have H6 := Lib.hid (dl_6 HF.out hu)
      clear hu
      go_wp2
      go_ret2
      rw [H6.out.1, H6.out.2]; exact RetLW.nil B2
  · have HF := Lib.hid (dl_bad hf)
    have HN : Hid ((lfCode vs kk == 0) = false) := beq_eq_false_iff_ne.2 hf
    clear hf
    have P0c := (P0.cell 0).trans rfl
    go_enter Try.func26, Try.ntmps26
    go_wp2_with fail
    rw [← hW]
    clear hW
    refine (liftCode_any A n c ps vs HV.out kk W lo HC.out hn HP.out).mono ?_
    rintro e w1 ⟨rfl, hb1⟩
    have HNN := HN.out
    go_wp2
    go_ret2
    rw [HF.out.1, HF.out.2]; exact RetLW.nil (B0.trans (hb1.mono B0.size))
end Go.Proofs.Ytbklbhbjlbojdaa
