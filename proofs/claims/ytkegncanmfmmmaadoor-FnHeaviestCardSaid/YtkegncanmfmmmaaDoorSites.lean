/- ValidSite of the program, l04Site of the reference: both say siteOk. -/
import Derived.Test.YtkegncanmfmmmaaDoorSiteLaw
import Derived.Test.YtkegncanmfmmmaaDoorNest3
import Derived.Test.YtkegncanmfmmmaaDoorValidPersons
import Derived.Lib.QuietBelow
import Derived.BigQuiet
namespace Go.Proofs.YtkegncanmfmmmaaDoor
open Go.RowKit Go.Sort
set_option linter.unusedVariables false

set_option maxHeartbeats 400000 in
theorem near_any (ax ay bx by_ : Int) (w : World) (h1 : Plc ax ay) (h2 : Plc bx by_) :
    Calls Tryd.prog 76 #[.agg #[.int .i64 ax, .int .i64 ay], .agg #[.int .i64 bx, .int .i64 by_], .int .i64 10] w fun e w' => e = .returned (.bool (decide (sqD ax ay bx by_ ≤ 100))) ∧ Below w.heap.size w w' := by
  go_enter Tryd.func76, Tryd.ntmps76
  go_wp2_with fail
  refine (square_any _ _ _ _ h1 h2 _).mono ?_
  rintro e w1 ⟨rfl, hb⟩
  go_wp2
  go_ret
  exact ⟨rfl, (((Below.refl _ _).alloc (Nat.le_refl _) _).alloc (by simp) _).trans (hb.mono (by simp; omega))⟩
set_option maxHeartbeats 400000 in
theorem l04Far_any (ax ay bx by_ : Int) (w : World) (h1 : Plc ax ay) (h2 : Plc bx by_) :
    Calls Tryd.prog 121 #[.agg #[.int .i64 ax, .int .i64 ay], .agg #[.int .i64 bx, .int .i64 by_], .int .i64 10] w fun e w' => e = .returned (.bool (decide (100 < sqD ax ay bx by_))) ∧ Below w.heap.size w w' := by
  go_enter Tryd.func121, Tryd.ntmps121
  go_wp2_with fail
  refine (l02Square_any _ _ _ _ h1 h2 _).mono ?_
  rintro e w1 ⟨rfl, hb⟩
  go_wp2
  go_ret
  exact ⟨rfl, (((Below.refl _ _).alloc (Nat.le_refl _) _).alloc (by simp) _).trans (hb.mono (by simp; omega))⟩

set_option maxRecDepth 100000 in
set_option maxHeartbeats 1600000 in
theorem validSiteC_any (s : Row Crane) (cs : List CV) (hv : s.xs.map Crane.val = cs) (w : World) (lo : Nat) (h : Cranes w lo w.heap.size s.a s.n s.xs) (hc : s.n ≤ s.cap) (hc2 : s.n ≤ 1048576) (hc3 : s.cap ≤ 9223372036854775807) (hp : ∀ p ∈ s.xs, p.wf) :
    Calls Tryd.prog 33 #[.agg #[.slice s.a s.n s.cap]] w fun e w' => e = .returned (.bool (siteOk cs)) ∧ Below w.heap.size w w' := by
  have HV := Lib.hid hv
  have HP := Lib.hid hp
  have HL : Hid (cs.length = s.n) := by show _ = _; rw [cv_len hv, h.len]
  obtain ⟨A, n, c, ps⟩ := s
  dsimp only at *
  obtain ⟨W, hW⟩ : ∃ W : World, W = w.alloc (.cells #[.slice A n c] 26) := ⟨_, rfl⟩
  have B0 : Below w.heap.size w W := by rw [hW]; exact (Below.refl _ _).alloc (Nat.le_refl _) _
  have P0 : Blk W w.heap.size 26 #[.slice A n c] := by rw [hW]; exact Blk.new _ _ _
  have hS0 := P0.lt
  have HC := Lib.hid (h.below B0)
  clear hv hp h
  go_enter Tryd.func33, Tryd.ntmps33
  go_wp2_with fail
  rw [← hW]
  clear hW
  have c9 : W.cell? ⟨w.heap.size, 0, none⟩ = some (.slice A n c) := P0.cell 0
  go_wp2
  have P9 := P0
  clear P0 c9
  go_loopw [10] (fun i wr => ∃ k : Nat, k ≤ n ∧ i = .int .i64 k ∧ allTo (siteAt cs) k = true ∧ Blk wr w.heap.size 26 #[.slice A n c] ∧ Cranes wr lo w.heap.size A n ps ∧ Below w.heap.size w wr) (fun i _ => n - (intOf i).toNat)
  case atStart => exact ⟨0, Nat.zero_le _, rfl, rfl, P9, HC.out, B0⟩
  case round =>
    obtain ⟨k, hk, rfl, hall, hP, hcr, hb⟩ := hrel
    have HA := Lib.hid hall
    have hsz := hb.size
    have hPl := hP.lt
    have c9 : wr.cell? ⟨w.heap.size, 0, none⟩ = some (.slice A n c) := hP.cell 0
    clear hall
    by_cases hlt : k < n
    · obtain ⟨b, off, p, eA, hx, _, hbl, hrow, c0, c1, c2, c3, c4, c5, c6⟩ := Crane.at hcr hlt
      have HX := Lib.hid (cv_at HV.out hx)
      have hpw := HP.out p (List.mem_of_getElem? hx)
      have hkn : (k : Int) < (n : Int) := by omega
      have hk0 : (0 : Int) ≤ (k : Int) := by omega
      have hkc : (k : Int) ≤ (c : Int) := by omega
      obtain ⟨wrG, hG⟩ : ∃ G, wr.heap.size = G := ⟨_, rfl⟩
      obtain ⟨W1, hW1⟩ : ∃ W1 : World, W1 = wr.alloc (.cells #[.string p.v.name, .int .i64 p.v.ax, .int .i64 p.v.ay, .int .i64 p.v.height, .int .i64 p.v.jib, .int .i64 p.v.back, .slice p.r.a p.r.n p.r.cap] 38) := ⟨_, rfl⟩
      have B1 : Below wr.heap.size wr W1 := by rw [hW1]; exact (Below.refl _ _).alloc (Nat.le_refl _) _
      have PC : Blk W1 wrG 38 #[.string p.v.name, .int .i64 p.v.ax, .int .i64 p.v.ay, .int .i64 p.v.height, .int .i64 p.v.jib, .int .i64 p.v.back, .slice p.r.a p.r.n p.r.cap] := by rw [hW1, ← hG]; exact Blk.new _ _ _
      have HC1 := Lib.hid (hcr.below (B1.mono hsz))
      have HP1 := Lib.hid (hP.bel B1)
      have HB1 := Lib.hid (hb.trans (B1.mono hsz))
      have hs1 := B1.size
      have HROW := Lib.hid (hrow.below (B1.mono hsz))
      clear hx hrow hcr hP hb B1
      cases hok : craneOk p.val
      · have HO := Lib.hid hok
        have HZ : Hid (siteOk cs = false) := siteOk_bad HX.out (by rw [hok]; rfl)
        clear hok
        go_wp2_with fail
        rw [← hW1]
        clear hW1 c0 c1 c2 c3 c4 c5 c6
        obtain ⟨d0, d1, d2, d3, d4, d5, d6⟩ := Crane.blk PC
        go_wp2_with fail
        refine (validCrane_any p _ lo hpw.v.name (HROW.out.more (by omega)) hpw.n).mono ?_
        rintro e w2 ⟨rfl, hb2⟩
        rw [HO.out]
        go_wp2
        go_ret
        exact ⟨by rw [HZ.out]; rfl, HB1.out.trans (hb2.mono (by omega))⟩
      · have HO := Lib.hid hok
        have hpl := Lib.hid (craneOk_parts hok).at_
        clear hok
        go_wp2_with fail
        rw [← hW1]
        clear hW1 c0 c1 c2 c3 c4 c5 c6
        obtain ⟨d0, d1, d2, d3, d4, d5, d6⟩ := Crane.blk PC
        go_wp2_with fail
        refine (validCrane_any p _ lo hpw.v.name (HROW.out.more (by omega)) hpw.n).mono ?_
        rintro e w2 ⟨rfl, hb2⟩
        rw [HO.out]
        have HP2 := Lib.hid (HP1.out.bel hb2)
        have HC2 := Lib.hid (HC1.out.below (hb2.mono (by omega)))
        have PC2 := PC.bel hb2
        have HPC := Lib.hid PC2
        have HB2 := Lib.hid (HB1.out.trans (hb2.mono (by omega)))
        have hs2 := hb2.size
        have c9 : w2.cell? ⟨w.heap.size, 0, none⟩ = some (.slice A n c) := HP2.out.cell 0
        have hg2 := PC2.lt
        rw [eA] at c9 HC2 ⊢
        clear PC PC2 d0 d1 d2 d3 d4 d5 d6 hb2 HC1 HP1 HB1 HROW
        go_wp2
        clear c9
        go_loopw [23] (fun i wr => ∃ j : Nat, j ≤ k ∧ i = .int .i64 j ∧ freeTo cs j p.val = true ∧ Below w2.heap.size w2 wr) (fun i _ => k - (intOf i).toNat)
        case atStart => exact ⟨0, Nat.zero_le _, rfl, rfl, Below.refl _ _⟩
        case round =>
          obtain ⟨j, hj, rfl, hfree, hby⟩ := hrel
          have HFR := Lib.hid hfree
          have hsy := hby.size
          have PY := HPC.out.bel hby
          have HPY := Lib.hid PY
          clear hfree
          by_cases hjk : j < k
          · obtain ⟨b2, off2, q, e2, hy, _, hbl2, hrow2, g0, g1, g2, g3, g4, g5, g6⟩ := Crane.at (HC2.out.below (hby.mono (by omega))) (show j < n by omega)
            cases e2
            have HY := Lib.hid (cv_at HV.out hy)
            have hql : Plc q.v.ax q.v.ay := (craneOk_parts (siteTo_ok HA.out hjk HY.out)).at_
            have hpl' : Plc p.v.ax p.v.ay := hpl.out
            have hjk1 : (j : Int) < (k : Int) := by omega
            have B3 : Below wr.heap.size wr (wr.alloc (.cells #[.string q.v.name, .int .i64 q.v.ax, .int .i64 q.v.ay, .int .i64 q.v.height, .int .i64 q.v.jib, .int .i64 q.v.back, .slice q.r.a q.r.n q.r.cap] 38)) := (Below.refl _ _).alloc (Nat.le_refl _) _
            have HB3 := Lib.hid (hby.trans (B3.mono hsy))
            have hgr := PY.lt
            have kk : ∀ o i, (wr.alloc o).cell? ⟨wrG, i, none⟩ = wr.cell? ⟨wrG, i, none⟩ := fun o i => World.cell?_alloc_lt wr o ⟨wrG, i, none⟩ hgr
            have k0 : ∀ o, (wr.alloc o).cell? ⟨wrG, 0, none⟩ = some (.string p.v.name) := fun o => (kk o 0).trans (PY.cell 0)
            have k1 : ∀ o, (wr.alloc o).cell? ⟨wrG, 1, none⟩ = some (.int .i64 p.v.ax) := fun o => (kk o 1).trans (PY.cell 1)
            have k2 : ∀ o, (wr.alloc o).cell? ⟨wrG, 2, none⟩ = some (.int .i64 p.v.ay) := fun o => (kk o 2).trans (PY.cell 2)
            have hs3 : (wr.alloc (.cells #[.string q.v.name, .int .i64 q.v.ax, .int .i64 q.v.ay, .int .i64 q.v.height, .int .i64 q.v.jib, .int .i64 q.v.back, .slice q.r.a q.r.n q.r.cap] 38)).heap.size = wr.heap.size + 1 := by simp
            have HS3 := Lib.hid hs3
            clear hy hrow2 hby B3 kk hs3
            by_cases hq : q.v.name = p.v.name
            · have hqq : (q.v.name.toList == p.v.name.toList) = true := by rw [toList_beq]; exact decide_eq_true hq
              have HZ : Hid (siteOk cs = false) := siteOk_bad HX.out (by rw [freeTo_bad HY.out hjk (by unfold clashB; simp only [Crane.val, Bool.or_eq_true]; exact .inl (decide_eq_true hq))]; simp)
              clear hq
              go_wp2
              go_ret
              exact ⟨by rw [HZ.out]; rfl, HB2.out.trans (HB3.out.mono (by omega))⟩
            · have hqq : (q.v.name.toList == p.v.name.toList) = false := by rw [toList_beq]; exact decide_eq_false hq
              have HQ := Lib.hid hq
              clear hq
              by_cases hn2 : sqD q.v.ax q.v.ay p.v.ax p.v.ay ≤ 100
              · have hnd := decide_eq_true hn2
                have HZ : Hid (siteOk cs = false) := siteOk_bad HX.out (by rw [freeTo_bad HY.out hjk (by unfold clashB nearB; simp only [Crane.val, Bool.or_eq_true]; exact .inr hnd)]; simp)
                clear hn2
                go_wp2_with fail
                refine (near_any _ _ _ _ _ hql hpl').mono ?_
                rintro e w4 ⟨rfl, hb4⟩
                rw [hnd]
                clear hnd
                go_wp2
                go_ret
                exact ⟨by rw [HZ.out]; rfl, HB2.out.trans ((HB3.out.trans (hb4.mono (by have := HS3.out; omega))).mono (by omega))⟩
              · have hnd := decide_eq_false hn2
                have HZ : Hid (clashB q.val p.val = false) := by show _ = _; unfold clashB nearB; simp only [Crane.val, Bool.or_eq_false_iff]; exact ⟨decide_eq_false HQ.out, hnd⟩
                clear hn2
                go_wp2_with fail
                refine (near_any _ _ _ _ _ hql hpl').mono ?_
                rintro e w4 ⟨rfl, hb4⟩
                rw [hnd]
                clear hnd k0 k1 k2
                go_wp2
                go_roundw
                case rel => exact ⟨j + 1, by omega, by go_num, freeTo_step HY.out HFR.out HZ.out, HB3.out.trans (hb4.mono (by have := HS3.out; omega))⟩
                case measure => simp [intOf]; omega
          · obtain rfl : j = k := by omega
            have HS : Hid (siteAt cs j = true) := by show _ = _; rw [siteAt_of HX.out, HO.out, HFR.out]; rfl
            go_wp2
            rw [← eA]
            go_roundw
            case rel => exact ⟨j + 1, by omega, by go_num, allTo_step HA.out HS.out, HP2.out.bel hby, by rw [eA]; exact HC2.out.below (hby.mono (by omega)), HB2.out.trans (hby.mono (by omega))⟩
            case measure => simp [intOf]; omega
    · obtain rfl : k = n := by omega
      have HE := Lib.hid (siteOk_end HL.out HA.out)
      by_cases h1 : (1 : Int) ≤ (k : Int)
      · have hd1 := decide_eq_true h1
        have HE2 : Hid (siteOk cs = decide ((k : Int) ≤ 6)) := by show _ = _; rw [HE.out, hd1]; rfl
        go_wp2
        go_ret
        exact ⟨by rw [HE2.out]; rfl, hb⟩
      · have hd1 := decide_eq_false h1
        have HE2 : Hid (siteOk cs = false) := by show _ = _; rw [HE.out, hd1]; rfl
        go_wp2
        go_ret
        exact ⟨by rw [HE2.out]; rfl, hb⟩

theorem validSite_any (s : Row Crane) (cs : List CV) (hv : s.xs.map Crane.val = cs) (w : World) (lo : Nat) (h : Cranes w lo w.heap.size s.a s.n s.xs) (hc : s.n ≤ s.cap) (hc2 : s.cap ≤ 1048576) (hp : ∀ p ∈ s.xs, p.wf) :
    Calls Tryd.prog 33 #[.agg #[.slice s.a s.n s.cap]] w fun e w' => e = .returned (.bool (siteOk cs)) ∧ Below w.heap.size w w' := validSiteC_any s cs hv w lo h hc (by omega) (by omega) hp
set_option maxRecDepth 100000 in
set_option maxHeartbeats 1600000 in
theorem l04Site_any (b0 off0 : Nat) (s : Row Crane) (cs : List CV) (hv : s.xs.map Crane.val = cs) (w : World) (lo : Nat) (hcell : w.cell? ⟨b0, off0, none⟩ = some (.slice s.a s.n s.cap)) (hb0 : b0 < w.heap.size) (h : Cranes w lo w.heap.size s.a s.n s.xs) (hn : s.n ≤ 1048576) (hp : ∀ p ∈ s.xs, p.wf) :
    Calls Tryd.prog 74 #[.pointer (some ⟨b0, off0, none⟩)] w fun e w' => e = .returned (.bool (siteOk cs)) ∧ Below w.heap.size w w' := by
  have HV := Lib.hid hv
  have HP := Lib.hid hp
  have HL : Hid (cs.length = s.n) := by show _ = _; rw [cv_len hv, h.len]
  obtain ⟨A, n, c, ps⟩ := s
  dsimp only at *
  have HC := Lib.hid h
  have H9 := Lib.hid hcell
  clear hv hp h hcell
  go_enter Tryd.func74, Tryd.ntmps74
  go_wp2
  go_loopw [3] (fun i wr => ∃ k : Nat, k ≤ n ∧ i = .int .i64 k ∧ allTo (siteAt cs) k = true ∧ Below w.heap.size w wr) (fun i _ => n - (intOf i).toNat)
  case atStart => exact ⟨0, Nat.zero_le _, rfl, rfl, Below.refl _ _⟩
  case round =>
    obtain ⟨k, hk, rfl, hall, hb⟩ := hrel
    have HA := Lib.hid hall
    have hsz := hb.size
    have c9 : wr.cell? ⟨b0, off0, none⟩ = some (.slice A n c) := (hb.cell (p := ⟨b0, off0, none⟩) hb0).trans H9.out
    clear hall
    by_cases hlt : k < n
    · obtain ⟨b, off, p, eA, hx, _, hbl, hrow, c0, c1, c2, c3, c4, c5, c6⟩ := Crane.at (HC.out.below hb) hlt
      have HX := Lib.hid (cv_at HV.out hx)
      have HXP := Lib.hid hx
      have hpw := HP.out p (List.mem_of_getElem? hx)
      have hkn : (k : Int) < (n : Int) := by omega
      have hk0 : (0 : Int) ≤ (k : Int) := by omega
      have HB := Lib.hid hb
      rw [eA] at c9
      cases hok : craneOk p.val
      · have HO := Lib.hid hok
        have HZ : Hid (siteOk cs = false) := siteOk_bad HX.out (by rw [hok]; rfl)
        clear hok hx hb
        go_wp2_with fail
        refine (l04Ok_any b (off + k * 7) p _ lo hpw.v.name (hrow.more hsz) hpw.n (by omega) c0 c1 c2 c3 c4 c5 c6).mono ?_
        rintro e w2 ⟨rfl, hb2⟩
        rw [HO.out]
        go_wp2
        go_ret
        exact ⟨by rw [HZ.out]; rfl, HB.out.trans (hb2.mono hsz)⟩
      · have HO := Lib.hid hok
        have hpl' : Plc p.v.ax p.v.ay := (craneOk_parts hok).at_
        have HPL := Lib.hid hpl'
        clear hok hx hb hpl'
        go_wp2_with fail
        refine (l04Ok_any b (off + k * 7) p _ lo hpw.v.name (hrow.more hsz) hpw.n (by omega) c0 c1 c2 c3 c4 c5 c6).mono ?_
        rintro e w2 ⟨rfl, hb2⟩
        rw [HO.out]
        have HB2 := Lib.hid (HB.out.trans (hb2.mono hsz))
        have hs2 := hb2.size
        have HCR := Lib.hid (HC.out.below HB2.out)
        clear c0 c1 c2 c3 c4 c5 c6 c9 hb2 hrow
        go_wp2
        go_loopw [4] (fun i wr => ∃ j : Nat, j ≤ k ∧ i = .int .i64 j ∧ freeTo cs j p.val = true ∧ Below w.heap.size w wr) (fun i _ => k - (intOf i).toNat)
        case atStart => exact ⟨0, Nat.zero_le _, rfl, rfl, HB2.out⟩
        case round =>
          obtain ⟨j, hj, rfl, hfree, hby⟩ := hrel
          have HFR := Lib.hid hfree
          have hsy := hby.size
          clear hfree
          by_cases hjk : j < k
          · obtain ⟨b2, off2, q, e2, hy, _, hbl2, _, g0, g1, g2, _, _, _, _⟩ := Crane.at (HC.out.below hby) (show j < n by omega)
            obtain ⟨b3, off3, p3, e3, hx3, _, hbl3, _, q0, q1, q2, _, _, _, _⟩ := Crane.at (HC.out.below hby) hlt
            obtain rfl : p3 = p := by
              have h8 := HXP.out
              rw [hx3] at h8; exact Option.some.inj h8
            rw [eA] at e2 e3
            cases e2; cases e3
            have HY := Lib.hid (cv_at HV.out hy)
            have hql : Plc q.v.ax q.v.ay := (craneOk_parts (siteTo_ok HA.out hjk HY.out)).at_
            have hpl' : Plc p3.v.ax p3.v.ay := HPL.out
            have hjk0 : (0 : Int) ≤ (j : Int) := by omega
            have hjk1 : (j : Int) < (k : Int) := by omega
            have hjn1 : (j : Int) < (n : Int) := by omega
            have t9 : wr.cell? ⟨b0, off0, none⟩ = some (.slice A n c) := (hby.cell (p := ⟨b0, off0, none⟩) hb0).trans H9.out
            rw [eA] at t9
            have u9 := cell_regrown t9
            have p0 := cell_regrown q0
            have p1 := cell_regrown q1
            have p2 := cell_regrown q2
            have r0 := cell_regrown g0
            have r1 := cell_regrown g1
            have r2 := cell_regrown g2
            have HBY := Lib.hid hby
            clear hy hx3 hby q0 q1 q2 g0 g1 g2 t9
            by_cases hq : q.v.name = p3.v.name
            · have hqq : (q.v.name.toList == p3.v.name.toList) = true := by rw [toList_beq]; exact decide_eq_true hq
              have HZ : Hid (siteOk cs = false) := siteOk_bad HX.out (by rw [freeTo_bad HY.out hjk (by unfold clashB; simp only [Crane.val, Bool.or_eq_true]; exact .inl (decide_eq_true hq))]; simp)
              clear hq
              go_wp2
              refine wp_region_quiet_below (by kernel_rfl) (by kernel_rfl) ?_
              repeat (go_big_quiet_step (fail))
              refine wpQuiet_nil ?_
              intro _ hw9
              obtain ⟨⟨dq, osq⟩, hw9⟩ := hw9
              subst hw9
              have hb9 := below_regrown wr dq osq
              dsimp only at hb9 ⊢
              clear u9 p0 p1 p2 r0 r1 r2
              generalize grow (redrawn wr dq) osq = W2 at hb9 ⊢
              go_wp2
              go_ret
              exact ⟨by rw [HZ.out]; rfl, HBY.out.trans (hb9.mono hsy)⟩
            · have hqq : (q.v.name.toList == p3.v.name.toList) = false := by rw [toList_beq]; exact decide_eq_false hq
              have HQ := Lib.hid hq
              clear hq
              by_cases hn2 : sqD q.v.ax q.v.ay p3.v.ax p3.v.ay ≤ 100
              · have hnd : decide (100 < sqD q.v.ax q.v.ay p3.v.ax p3.v.ay) = false := decide_eq_false (by omega)
                have HZ : Hid (siteOk cs = false) := siteOk_bad HX.out (by rw [freeTo_bad HY.out hjk (by unfold clashB nearB; simp only [Crane.val, Bool.or_eq_true]; exact .inr (decide_eq_true hn2))]; simp)
                have HF := Lib.hid (show ∀ W3, Calls Tryd.prog 121 #[.agg #[.int .i64 q.v.ax, .int .i64 q.v.ay], .agg #[.int .i64 p3.v.ax, .int .i64 p3.v.ay], .int .i64 10] W3 fun e w' => e = .returned (.bool false) ∧ Below W3.heap.size W3 w' from fun W3 => by have := l04Far_any _ _ _ _ W3 hql hpl'; rwa [hnd] at this)
                clear hn2 hnd hql hpl'
                go_wp2
                refine wp_region_quiet_below (by kernel_rfl) (by kernel_rfl) ?_
                repeat (go_big_quiet_step ((go_at_call 121; exact Calls.regrown_of (HF.out _))))
                refine wpQuiet_nil ?_
                intro _ hw9
                obtain ⟨⟨dq, osq⟩, hw9⟩ := hw9
                subst hw9
                have hb9 := below_regrown wr dq osq
                dsimp only at hb9 ⊢
                clear HF u9 p0 p1 p2 r0 r1 r2
                generalize grow (redrawn wr dq) osq = W2 at hb9 ⊢
                go_wp2
                go_ret
                exact ⟨by rw [HZ.out]; rfl, HBY.out.trans (hb9.mono hsy)⟩
              · have hnd : decide (100 < sqD q.v.ax q.v.ay p3.v.ax p3.v.ay) = true := decide_eq_true (by omega)
                have HZ : Hid (clashB q.val p3.val = false) := by show _ = _; unfold clashB nearB; simp only [Crane.val, Bool.or_eq_false_iff]; exact ⟨decide_eq_false HQ.out, decide_eq_false hn2⟩
                have HF := Lib.hid (show ∀ W3, Calls Tryd.prog 121 #[.agg #[.int .i64 q.v.ax, .int .i64 q.v.ay], .agg #[.int .i64 p3.v.ax, .int .i64 p3.v.ay], .int .i64 10] W3 fun e w' => e = .returned (.bool true) ∧ Below W3.heap.size W3 w' from fun W3 => by have := l04Far_any _ _ _ _ W3 hql hpl'; rwa [hnd] at this)
                clear hn2 hnd hql hpl'
                go_wp2
                refine wp_region_quiet_below (by kernel_rfl) (by kernel_rfl) ?_
                repeat (go_big_quiet_step ((go_at_call 121; exact Calls.regrown_of (HF.out _))))
                refine wpQuiet_nil ?_
                intro _ hw9
                obtain ⟨⟨dq, osq⟩, hw9⟩ := hw9
                subst hw9
                have hb9 := below_regrown wr dq osq
                dsimp only at hb9 ⊢
                clear HF u9 p0 p1 p2 r0 r1 r2
                generalize grow (redrawn wr dq) osq = W2 at hb9 ⊢
                go_wp2
                go_roundw
                case rel => exact ⟨j + 1, by omega, by go_num, freeTo_step HY.out HFR.out HZ.out, HBY.out.trans (hb9.mono hsy)⟩
                case measure => simp [intOf]; omega
          · obtain rfl : j = k := by omega
            have HS : Hid (siteAt cs j = true) := by show _ = _; rw [siteAt_of HX.out, HO.out, HFR.out]; rfl
            go_wp2
            go_roundw
            case rel => exact ⟨j + 1, by omega, by go_num, allTo_step HA.out HS.out, hby⟩
            case measure => simp [intOf]; omega
    · obtain rfl : k = n := by omega
      have HE := Lib.hid (siteOk_end HL.out HA.out)
      go_wp2_with fail
      refine (l00In_any _ _ _ _).mono ?_
      rintro _ _ ⟨rfl, rfl⟩
      go_wp2
      go_ret
      exact ⟨by rw [HE.out]; rfl, hb⟩
end Go.Proofs.YtkegncanmfmmmaaDoor
