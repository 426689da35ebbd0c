/- FnAbilities: the walk: the law returns true for every input. -/
import Derived.Test.YtnidnmbicnhflaaWk6
import Derived.Test.YtnidnmbicnhflaaLong
namespace Go.Proofs.Ytnidnmbicnhflaa.lawAbilities
open Go.RowKit Go.Sort
set_option linter.unusedVariables false

set_option maxRecDepth 100000 in
set_option maxHeartbeats 25600000 in
theorem walk (A0 : Option Addr) (n0 c0 : Nat) (xs0 : List Int) (w : World) (hn0 : n0 ≤ 9223372036854775807) (ha0 : Arr bc 1 w 0 w.heap.size A0 n0 xs0 ∧ ∀ p ∈ xs0, 0 ≤ p ∧ p ≤ 255) :
    Calls Try.prog 3 #[.slice A0 n0 c0] w fun e w' => e = .returned (.bool true) ∧ RowKit.Below w.heap.size w w' := by
  by_cases hl : (decide (3000 < n0) || decide (3000 < 0)) = true
  · have H := Lib.hid hl
    clear hl
    go_enter Try.func3, Try.ntmps3
    go_wp2_with fail
    refine (a2Long_any A0 none n0 c0 0 0 hn0 (by omega) w).mono ?_
    rintro e w1 ⟨rfl, rfl⟩
    rw [H.out]
    go_wp2
    go_ret
    exact ⟨rfl, Below.refl _ _⟩
  have hle : n0 ≤ 3000 := by
    rw [Bool.or_eq_true, decide_eq_true_eq, decide_eq_true_eq] at hl
    omega
  have H : Hid ((decide (3000 < n0) || decide (3000 < 0)) = false) := by show _ = _; simpa using hl
  obtain ⟨h0, x0⟩ := ha0
  clear hl
  go_enter Try.func3, Try.ntmps3
  go_wp2_with fail
  refine (a2Long_any A0 none n0 c0 0 0 hn0 (by omega) w).mono ?_
  rintro e w1 ⟨rfl, rfl⟩
  rw [H.out]
  go_wp2_with fail
  refine (a2Works_any A0 n0 c0 xs0 w h0 x0 (by omega)).mono ?_
  rintro e w2 ⟨A, c, ps, A2, c2, ls, rfl, hg, hb2⟩
  clear h0 x0
  have hlen := hg.site.len
  obtain ⟨gb, go, _, eA, -⟩ := Crane.at hg.site.cranes (i := 0) (by omega)
  subst eA
  obtain ⟨n, hn⟩ : ∃ n, ps.length = n := ⟨_, rfl⟩
  obtain ⟨m, hm⟩ : ∃ m, ls.length = m := ⟨_, rfl⟩
  have HN := Lib.hid hn
  have HM := Lib.hid hm
  have hm6 := hg.len
  have hcap := hg.site.cap
  have hcap2 := hg.cap
  have hcr := hg.site.cranes
  have hlf := hg.lifts
  rw [hn] at hlen hcr hcap ⊢
  rw [hm] at hm6 hlf hcap2 ⊢
  have HOK := Lib.hid hg.site.ok
  have HLO := Lib.hid (good_ok hg.good (by rw [List.length_map, hm]; omega))
  have HWF := Lib.hid hg.site.wf
  have HLW := Lib.hid hg.wf
  obtain ⟨V1, hV1⟩ : ∃ V : World, V = w2.alloc (.cells #[.slice (some ⟨gb, go, none⟩) n c] 26) := ⟨_, rfl⟩
  have hu1 : RowKit.Below w2.heap.size w2 V1 := by rw [hV1]; exact (Below.refl _ _).alloc (Nat.le_refl _) _
  have K1 : Blk V1 w2.heap.size 26 #[.slice (some ⟨gb, go, none⟩) n c] := by rw [hV1]; exact Blk.new _ _ _
  have hc1 := (hcr.below hu1).more hu1.size
  have hl1 := (hlf.below hu1).more hu1.size
  have hb1 := hb2.trans (hu1.mono hb2.size)
  obtain ⟨gs, hgs⟩ : ∃ g, w2.heap.size = g := ⟨_, rfl⟩
  have s0 : V1.cell? ⟨w2.heap.size, 0, none⟩ = some (.slice (some ⟨gb, go, none⟩) n c) := K1.cell 0
  rw [hV1] at s0
  rw [hgs] at K1
  clear hg hcr hlf hu1 hb2
  go_wp2_with fail
  rw [← hV1]
  clear hV1 s0
  refine (abilityTable_any ⟨some ⟨gb, go, none⟩, n, c, ps⟩ (ps.map Crane.val) rfl A2 m c2 ls V1 w.heap.size hc1 hcap.1 (by dsimp only; omega) hcap.2 HWF.out hl1 (by omega) HLW.out HOK.out HLO.out).mono ?_
  rintro e w3 ⟨A3, cap3, rows, rfl, ht, hrw, hrx, hb3⟩
  have hrl : rows.length = m := by have := congrArg List.length hrx; rw [List.length_map, List.length_map] at this; omega
  rw [hrl] at ht ⊢
  have K3 := K1.bel hb3
  have hc3 := (hc1.below hb3).more hb3.size
  have hl3 := (hl1.below hb3).more hb3.size
  have hb03 := hb1.trans (hb3.mono hb1.size)
  have hz1 := hb1.size
  have ht3 := ht.less (lo' := w.heap.size) hz1
  have hrw3 : ∀ r ∈ rows, r.n = n ∧ Arr bl 1 w3 w.heap.size w3.heap.size r.a r.n r.xs := fun r hr => ⟨(hrw r hr).1, (hrw r hr).2.less hz1⟩
  have HRX := Lib.hid hrx
  have s0 : w3.cell? ⟨gs, 0, none⟩ = some (.slice (some ⟨gb, go, none⟩) n c) := K3.cell 0
  clear K1 hc1 hl1 hb1 hb3 ht hrw hrx
  go_wp2_with fail
  refine (impossibleLifts_any ⟨some ⟨gb, go, none⟩, n, c, ps⟩ (ps.map Crane.val) rfl A2 m c2 ls w3 w.heap.size hc3 hcap.1 (by dsimp only; omega) hcap.2 HWF.out hl3 (by omega) HLW.out HOK.out HLO.out).mono ?_
  rintro e w4 ⟨A4, cap4, rfl, hnn, hb4⟩
  obtain ⟨nn, hnq⟩ : ∃ q, (imTo (ps.map Crane.val) ls n m).length = q := ⟨_, rfl⟩
  have hnb : nn ≤ m := by rw [← hnq]; exact imTo_len _ _ _ _
  dsimp only at hnn ⊢
  rw [hnq] at hnn ⊢
  have HAW : Hid (AW w w4 gs (some ⟨gb, go, none⟩) c n ps A2 m ls A3 rows A4 nn (imTo (ps.map Crane.val) ls n m)) := ⟨K3.bel hb4, (hc3.below hb4).more hb4.size, (hl3.below hb4).more hb4.size, (ht3.below hb4).more hb4.size, fun r hr => ⟨(hrw3 r hr).1, ((hrw3 r hr).2.below hb4).more hb4.size⟩, (hnn.arr ic_len).less hb03.size, hb03.trans (hb4.mono hb03.size)⟩
  clear K3 hc3 hl3 ht3 hrw3 hnn hb4 hb03 s0 hz1 hnq
  have hLN : (ps.map Crane.val).length = n := by rw [List.length_map]; exact HN.out
  have HLN := Lib.hid hLN
  clear hLN hrl hn hm
  go_wp2
  go_loopw [9] (fun kv wr => ∃ k : Nat, k ≤ m ∧ kv = .int .i64 k ∧ AW w wr gs (some ⟨gb, go, none⟩) c n ps A2 m ls A3 rows A4 nn (imTo (ps.map Crane.val) ls n m)) (fun kv _ => m - (intOf kv).toNat)
  case atStart => exact ⟨0, Nat.zero_le _, rfl, HAW.out⟩
  case round =>
    obtain ⟨k, hk, rfl, haw⟩ := hrel
    by_cases hlt : k < m
    · as_aux_lemma =>
        obtain ⟨lb, lf, p, eA, hx, _, hlbl, hrow, l0, l1, l2, l3, l4, l5, l6, l7, l8⟩ := Lift.at haw.lifts hlt
        subst eA
        obtain ⟨tb, tf, r, eA, hrx, _, htbl, htc⟩ := haw.table.cells hlt
        subst eA
        obtain ⟨hrn, hra⟩ := haw.rows r (List.mem_of_getElem? hrx)
        have t0 : wr.cell? ⟨tb, tf + k, none⟩ = some (.slice r.a r.n r.cap) := by have := htc 0 _ rfl; simpa using this
        have hpl := (liftsOk_at HLO.out (lv_at rfl hx)).1
        have HPL := Lib.hid hpl
        have HX := Lib.hid hx
        have hpw := HLW.out p (List.mem_of_getElem? hx)
        have hrv : r.xs = rowB (ps.map Crane.val) p.v n := by
          have := congrArg (fun l : List (List Bool) => l[k]?) HRX.out
          simp only [List.getElem?_map, hrx, hx, Option.map_some] at this
          exact Option.some.inj this
        have HRV := Lib.hid hrv
        obtain ⟨ra, rn, rcap, rxs⟩ := r
        dsimp only at hrn hra t0 hrv
        have hrn2 := hrn.symm
        subst hrn2
        have HRXX := Lib.hid hrx
        obtain ⟨rb, rf, _, eA, -⟩ := hra.cells (i := 0) (by omega)
        subst eA
        have hkn : (k : Int) < (m : Int) := by omega
        have hk0 : (0 : Int) ≤ (k : Int) := by omega
        have HA := Lib.hid haw
        have HIM := Lib.hid (hasJ_im (cs := ps.map Crane.val) (n := n) hlt hx)
        have s0 : wr.cell? ⟨gs, 0, none⟩ = some (.slice (some ⟨gb, go, none⟩) n c) := haw.box.cell 0
        obtain ⟨ab, hab⟩ : ∃ ab, ableTo (ps.map Crane.val) p.v n = ab := ⟨_, rfl⟩
        have HAB := Lib.hid hab
        obtain ⟨LA, hLA⟩ : ∃ L, ab.length = L := ⟨_, rfl⟩
        have HLA := Lib.hid hLA
        have hLb : LA ≤ n := by rw [← hLA, ← hab]; exact ableTo_len _ _ _
        have HCA : Hid (Calls Try.prog 9 #[.agg #[.slice (some ⟨gb, go, none⟩) n c], .agg #[.string p.v.name, .int .i64 p.v.weight, .int .i64 p.v.fx, .int .i64 p.v.fy, .int .i64 p.v.tx, .int .i64 p.v.ty, .int .i64 p.v.height, .int .i64 p.v.deadline, .slice p.r.a p.r.n p.r.cap]] wr.drew fun e w' => ∃ (A5 : Option Addr) (c5 : Nat), e = .returned (.tuple #[.slice A5 LA c5, .int .i64 0]) ∧ Arr ic 1 w' w.heap.size w'.heap.size A5 LA ab ∧ RowKit.Below wr.heap.size wr w') := by
          have hd : RowKit.Below wr.heap.size wr wr.drew := (Below.refl _ _).drew
          have := ablesOfC_any ⟨some ⟨gb, go, none⟩, n, c, ps⟩ (ps.map Crane.val) rfl p wr.drew w.heap.size ((haw.cranes.below hd).more hd.size) hcap.1 (by dsimp only; omega) hcap.2 HWF.out hpw.v.name
          obtain ⟨e1, e2⟩ := able_all HOK.out hpl
          rw [HLN.out, hab] at e1
          rw [e1, e2] at this
          refine this.mono fun e w' ⟨A5, c5, he, ho, hb⟩ => ⟨A5, c5, by rw [he, hLA], ?_, hd.trans hb⟩
          have h9 := ho.arr ic_len
          rw [hLA] at h9
          exact h9.less (by have := haw.below.size; exact this)
        clear hx hrow htc hpl hra hrx haw hab hLA hrv
        go_upto_region 11 with fail
        go_cut [10, 11] (fun s10 s11 wx => ∃ (A5 : Option Addr) (c5 : Nat), s10 = .slice A5 LA c5 ∧ s11 = .int .i64 0 ∧ Arr ic 1 wx w.heap.size wx.heap.size A5 LA ab ∧ RowKit.Below wr.heap.size wr wx)
        case first =>
          go_region_law ((try go_simp); go_at_call 9; refine HCA.out.mono ?_; rintro e w5 ⟨A5, c5, rfl, ha5, hb5⟩)
          all_goals (go_wp2_with fail; go_meet; exact ⟨A5, c5, rfl, rfl, ha5, hb5⟩)
        case rest =>
        obtain ⟨A5, c5, rfl, rfl, ha5, hb5⟩ := hcut
        rename World => w5
        have HA5 := Lib.hid (HA.out.bel hb5)
        have HB5 := Lib.hid ha5
        clear s0 t0 l0 l1 l2 l3 l4 l5 l6 l7 l8 ha5 hb5 HCA HA HAW
        obtain ⟨bv, hbv⟩ : ∃ b, bcVal (ps.map Crane.val) p.v = b := ⟨_, rfl⟩
        obtain ⟨bc, hbc⟩ : ∃ b, bcCode (ps.map Crane.val) p.v = b := ⟨_, rfl⟩
        have HBV := Lib.hid hbv
        have HBD := Lib.hid hbc
        have HBC : Hid (∀ d os, Calls Try.prog 10 #[.agg #[.slice (some ⟨gb, go, none⟩) n c], .agg #[.string p.v.name, .int .i64 p.v.weight, .int .i64 p.v.fx, .int .i64 p.v.fy, .int .i64 p.v.tx, .int .i64 p.v.ty, .int .i64 p.v.height, .int .i64 p.v.deadline, .slice p.r.a p.r.n p.r.cap]] (grow (redrawn w5 d) os) fun e w' => e = .returned (.tuple #[.int .i64 bv, .int .i64 bc]) ∧ RowKit.Below (grow (redrawn w5 d) os).heap.size (grow (redrawn w5 d) os) w') := fun d os => by
          have hb9 := below_regrown w5 d os
          have := bestCraneC_any ⟨some ⟨gb, go, none⟩, n, c, ps⟩ (ps.map Crane.val) rfl p (grow (redrawn w5 d) os) w.heap.size ((HA5.out.cranes.below hb9).more hb9.size) hcap.1 (by dsimp only; omega) hcap.2 HWF.out hpw.v.name
          rw [hbv, hbc] at this
          exact this
        have s0 := cell_regrown (((HA5.out.box.cell 0).trans rfl : _ = some (.slice (some ⟨gb, go, none⟩) n c)))
        obtain ⟨y0, y1, y2, y3, y4, y5, y6, y7, y8⟩ := AW.lift HA5.out hlt HX.out
        have l0 := cell_regrown y0
        have l1 := cell_regrown y1
        have l2 := cell_regrown y2
        have l3 := cell_regrown y3
        have l4 := cell_regrown y4
        have l5 := cell_regrown y5
        have l6 := cell_regrown y6
        have l7 := cell_regrown y7
        have l8 := cell_regrown y8
        clear y0 y1 y2 y3 y4 y5 y6 y7 y8
        clear hbv hbc
        go_wp2
        refine wp_region_quiet_below (by kernel_rfl) (by kernel_rfl) ?_
        repeat (go_big_quiet_step (first | (go_at_call 10; exact Calls.regrown_of (HBC.out _ _))))
        refine wpQuiet_nil ?_
        intro _ hw9
        obtain ⟨⟨dq, osq⟩, hw9⟩ := hw9
        subst hw9
        have h6 := below_regrown w5 dq osq
        dsimp only at h6 ⊢
        generalize grow (redrawn w5 dq) osq = w6 at h6 ⊢
        clear s0 l0 l1 l2 l3 l4 l5 l6 l7 l8 HBC
        have HA6 := Lib.hid (HA5.out.bel h6)
        have HB6 := Lib.hid ((HB5.out.below h6).more h6.size)
        clear h6
        go_upto_region 13 with fail
        go_cut [119] (fun s119 wx => s119 = .bool false ∧ RowKit.Below w6.heap.size w6 wx)
        case first =>
          by_cases hE : ab = []
          · as_aux_lemma =>
              obtain rfl : LA = 0 := by rw [← HLA.out, hE]; rfl
              obtain ⟨e1, e2⟩ := best_none (cs := ps.map Crane.val) HOK.out HPL.out (by rw [HLN.out, HAB.out]; exact hE)
              obtain rfl : bv = 0 := HBV.out.symm.trans e1
              obtain rfl : bc = 3 := HBD.out.symm.trans e2
              have HPOS : Hid (hasJ (imTo (ps.map Crane.val) ls n m) (k : Int) = true) := by show _ = _; rw [HIM.out, posB_no (by rw [HAB.out]; exact hE)]; rfl
              have hr1 : HasR w6 A4 nn cap4 (k : Int) true := hasR HA6.out.nones (by omega) HPOS.out
              clear hE e1 e2
              have s0 := cell_regrown (((HA6.out.box.cell 0).trans rfl : _ = some (.slice (some ⟨gb, go, none⟩) n c)))
              have t0 := cell_regrown (AW.row HA6.out hlt HRXX.out)
              dsimp only at t0
              refine wp_region_quiet_below (by kernel_rfl) (by kernel_rfl) ?_
              iterate 40 (go_big_quiet_step (first | (go_at_call 11; exact Calls.regrown_of (hasR_use (by with_reducible assumption)))))
              refine wpQuiet_nil ?_
              intro _ hw9
              obtain ⟨⟨dq, osq⟩, hw9⟩ := hw9
              subst hw9
              have h7 := below_regrown w6 dq osq
              dsimp only at h7 ⊢
              generalize grow (redrawn w6 dq) osq = w7 at h7 ⊢
              go_wp2
              go_meet
              exact ⟨rfl, h7⟩
          · as_aux_lemma =>
              obtain ⟨j, cj, hjl, hcj, e1, e2, hjm, hmax⟩ := best_facts (cs := ps.map Crane.val) HOK.out HPL.out (by rw [HLN.out, HAB.out]; exact hE)
              rw [HLN.out, HAB.out] at hjm
              obtain rfl : bv = (j : Int) := HBV.out.symm.trans e1
              obtain rfl : bc = 0 := HBD.out.symm.trans e2
              have HPOS : Hid (hasJ (imTo (ps.map Crane.val) ls n m) (k : Int) = false) := by show _ = _; rw [HIM.out, posB_yes (by rw [HAB.out]; exact hE)]; rfl
              have hr1 : HasR w6 A4 nn cap4 (k : Int) false := hasR HA6.out.nones (by omega) HPOS.out
              have hr2 : HasR w6 A5 LA c5 (j : Int) true := hasR HB6.out (by omega) (hasJ_iff.2 hjm)
              have hLA1 : 1 ≤ LA := by rw [← HLA.out]; exact List.length_pos_iff.2 hE
              have hz1 : ((LA : Int) == 0) = false := by rw [beq_eq_false_iff_ne]; omega
              have hz2 : decide ((LA : Int) = 0) = false := decide_eq_false (by omega)
              have hz3 : ¬ (LA : Int) = 0 := by omega
              clear hmax hjm hcj hjl hE e1 e2
              have s0 := cell_regrown (((HA6.out.box.cell 0).trans rfl : _ = some (.slice (some ⟨gb, go, none⟩) n c)))
              have t0 := cell_regrown (AW.row HA6.out hlt HRXX.out)
              dsimp only at t0
              refine wp_region_quiet_below (by kernel_rfl) (by kernel_rfl) ?_
              iterate 40 (go_big_quiet_step (first | (go_at_call 11; exact Calls.regrown_of (hasR_use (by with_reducible assumption)))))
              refine wpQuiet_nil ?_
              intro _ hw9
              obtain ⟨⟨dq, osq⟩, hw9⟩ := hw9
              subst hw9
              have h7 := below_regrown w6 dq osq
              dsimp only at h7 ⊢
              generalize grow (redrawn w6 dq) osq = w7 at h7 ⊢
              go_wp2
              go_meet
              exact ⟨rfl, h7⟩
        case rest =>
        obtain ⟨rfl, h7⟩ := hcut
        rename World => w7
        have HA7 := Lib.hid (HA6.out.bel h7)
        have HB7 := Lib.hid ((HB6.out.below h7).more h7.size)
        clear h7
        have s7 : w7.cell? ⟨gs, 0, none⟩ = some (.slice (some ⟨gb, go, none⟩) n c) := HA7.out.box.cell 0
        go_wp2
        clear s7
        go_loopw [14] (fun iv wi => ∃ i : Nat, i ≤ n ∧ iv = .int .i64 i ∧ AW w wi gs (some ⟨gb, go, none⟩) c n ps (some ⟨lb, lf, none⟩) m ls (some ⟨tb, tf, none⟩) rows A4 nn (imTo (ps.map Crane.val) ls n m) ∧ Arr ic 1 wi w.heap.size wi.heap.size A5 LA ab) (fun iv _ => n - (intOf iv).toNat)
        case atStart => exact ⟨0, Nat.zero_le _, rfl, HA7.out, HB7.out⟩
        case round =>
          obtain ⟨i, hi, rfl, hAi, hBi⟩ := hrel
          rename World => wi
          have HAI := Lib.hid hAi
          have HBI := Lib.hid hBi
          have s7 : wi.cell? ⟨gs, 0, none⟩ = some (.slice (some ⟨gb, go, none⟩) n c) := hAi.box.cell 0
          clear HA7 HB7 HA6 HB6 HA5 HB5
          by_cases hin : i < n
          · as_aux_lemma =>
              obtain ⟨q, hq⟩ : ∃ q, ps[i]? = some q := ⟨_, List.getElem?_eq_getElem (by rw [HN.out]; exact hin)⟩
              have HQ := Lib.hid hq
              have hcv : (ps.map Crane.val)[i]? = some q.val := by rw [List.getElem?_map, hq]; rfl
              have hqw := HWF.out q (List.mem_of_getElem? hq)
              have hqo := siteOk_at HOK.out hcv
              have HQO := Lib.hid hqo
              obtain ⟨hrw, c0, c1, c2', c3, c4, c5', c6⟩ := AW.crane hAi hin hq
              have HHAS := Lib.hid (hasJ_able (v := p.v) hin hcv)
              have HBIT := Lib.hid (rowB_at (cs := ps.map Crane.val) (v := p.v) hin)
              have hin1 : (i : Int) < (n : Int) := by omega
              have hi0 : (0 : Int) ≤ (i : Int) := by omega
              obtain ⟨W1, hW1⟩ : ∃ V : World, V = wi.alloc (.cells #[.string q.v.name, .int .i64 q.v.ax, .int .i64 q.v.ay, .int .i64 q.v.height, .int .i64 q.v.jib, .int .i64 q.v.back, .slice q.r.a q.r.n q.r.cap] 47) := ⟨_, rfl⟩
              have hb1 : RowKit.Below wi.heap.size wi W1 := by rw [hW1]; exact (Below.refl _ _).alloc (Nat.le_refl _) _
              have HK1 : Hid (Blk W1 wi.heap.size 47 #[.string q.v.name, .int .i64 q.v.ax, .int .i64 q.v.ay, .int .i64 q.v.height, .int .i64 q.v.jib, .int .i64 q.v.back, .slice q.r.a q.r.n q.r.cap]) := by show _; rw [hW1]; exact Blk.new _ _ _
              have HA1 := Lib.hid (hAi.bel hb1)
              have HB1 := Lib.hid ((hBi.below hb1).more hb1.size)
              have HROW := Lib.hid ((hrw.below hb1).more hb1.size)
              have hca := one_cases hqo HPL.out
              have hph := (plainB_parts HPL.out).height
              have hqh := (craneOk_parts hqo).height
              dsimp only [Crane.val] at hqh
              have HAAT := Lib.hid (ableAt_of (v := p.v) hcv)
              have HCV := Lib.hid hcv
              clear hq hcv hqo hAi hBi hrw hb1
              rcases hca with ⟨a1, a2, b1, b2, ha⟩ | ⟨a2, a1, b1, b2, ha⟩ | ⟨a2, a1, b2, b1, ha⟩ | ⟨a2, a1, b2, b1, ha⟩
              · as_aux_lemma =>
                  have ha2 := ha
                  have HMV := Lib.hid a1
                  have HUV := Lib.hid b1
                  have HMC := Lib.hid a2
                  have HUC := Lib.hid b2
                  have HAC := Lib.hid ha2
                  clear a1 b1 ha ha2 a2 b2
                  have HCN : Hid (∀ d os, Calls Try.prog 12 #[.agg #[.string q.v.name, .int .i64 q.v.ax, .int .i64 q.v.ay, .int .i64 q.v.height, .int .i64 q.v.jib, .int .i64 q.v.back, .slice q.r.a q.r.n q.r.cap], .agg #[.string p.v.name, .int .i64 p.v.weight, .int .i64 p.v.fx, .int .i64 p.v.fy, .int .i64 p.v.tx, .int .i64 p.v.ty, .int .i64 p.v.height, .int .i64 p.v.deadline, .slice p.r.a p.r.n p.r.cap]] (grow (redrawn W1 d) os) fun e w' => e = .returned (.bool false) ∧ RowKit.Below (grow (redrawn W1 d) os).heap.size (grow (redrawn W1 d) os) w') := fun d os => by
                    have hb9 := below_regrown W1 d os
                    have := canLift_any q p (grow (redrawn W1 d) os) w.heap.size 0 ((HROW.out.below hb9).more hb9.size) hqw.n hqw.v.name hpw.v.name
                    have e1 : okB q.val p.v = true := by unfold okB; rw [HQO.out, HPL.out]; rfl
                    rw [show (okB q.val p.v && ableB q.val p.v) = false by rw [e1, HAC.out]; rfl] at this
                    exact this
                  go_wp2_with fail
                  rw [← hW1]
                  clear hW1 s7 c0 c1 c2' c3 c4 c5' c6
                  obtain ⟨y0, y1, y2, y3, y4, y5, y6, y7, y8⟩ := AW.lift HA1.out hlt HX.out
                  have l0 := cell_regrown y0
                  have l1 := cell_regrown y1
                  have l2 := cell_regrown y2
                  have l3 := cell_regrown y3
                  have l4 := cell_regrown y4
                  have l5 := cell_regrown y5
                  have l6 := cell_regrown y6
                  have l7 := cell_regrown y7
                  have l8 := cell_regrown y8
                  clear y0 y1 y2 y3 y4 y5 y6 y7 y8
                  obtain ⟨y0, y1, y2, y3, y4, y5, y6⟩ := Crane.blk HK1.out
                  have d0 := cell_regrown y0
                  have d1 := cell_regrown y1
                  have d2 := cell_regrown y2
                  have d3 := cell_regrown y3
                  have d4 := cell_regrown y4
                  have d5 := cell_regrown y5
                  have d6 := cell_regrown y6
                  clear y0 y1 y2 y3 y4 y5 y6
                  go_wp2
                  refine wp_region_quiet_below (by kernel_rfl) (by kernel_rfl) ?_
                  repeat (go_big_quiet_step (first | (go_at_call 12; exact Calls.regrown_of (HCN.out _ _))))
                  refine wpQuiet_nil ?_
                  intro _ hw9
                  obtain ⟨⟨dq, osq⟩, hw9⟩ := hw9
                  subst hw9
                  have h8 := below_regrown W1 dq osq
                  dsimp only at h8 ⊢
                  generalize grow (redrawn W1 dq) osq = w8 at h8 ⊢
                  clear l0 l1 l2 l3 l4 l5 l6 l7 l8 d0 d1 d2 d3 d4 d5 d6 HCN
                  have HK8 := Lib.hid (HK1.out.bel h8)
                  have HA8 := Lib.hid (HA1.out.bel h8)
                  have HB8 := Lib.hid ((HB1.out.below h8).more h8.size)
                  have HR8 := Lib.hid ((HROW.out.below h8).more h8.size)
                  clear h8
                  have HMG : Hid (∀ d os, Calls Try.prog 13 #[.agg #[.string q.v.name, .int .i64 q.v.ax, .int .i64 q.v.ay, .int .i64 q.v.height, .int .i64 q.v.jib, .int .i64 q.v.back, .slice q.r.a q.r.n q.r.cap], .agg #[.string p.v.name, .int .i64 p.v.weight, .int .i64 p.v.fx, .int .i64 p.v.fy, .int .i64 p.v.tx, .int .i64 p.v.ty, .int .i64 p.v.height, .int .i64 p.v.deadline, .slice p.r.a p.r.n p.r.cap]] (grow (redrawn w8 d) os) fun e w' => e = .returned (.tuple #[.int .i64 0, .int .i64 3]) ∧ RowKit.Below (grow (redrawn w8 d) os).heap.size (grow (redrawn w8 d) os) w') := fun d os => by
                    have hb9 := below_regrown w8 d os
                    have := liftMargin_any q p (grow (redrawn w8 d) os) w.heap.size 0 ((HR8.out.below hb9).more hb9.size) hqw.n hqw.v.name hpw.v.name
                    rw [HMV.out, HMC.out] at this
                    exact this
                  obtain ⟨y0, y1, y2, y3, y4, y5, y6, y7, y8⟩ := AW.lift HA8.out hlt HX.out
                  have l0 := cell_regrown y0
                  have l1 := cell_regrown y1
                  have l2 := cell_regrown y2
                  have l3 := cell_regrown y3
                  have l4 := cell_regrown y4
                  have l5 := cell_regrown y5
                  have l6 := cell_regrown y6
                  have l7 := cell_regrown y7
                  have l8 := cell_regrown y8
                  clear y0 y1 y2 y3 y4 y5 y6 y7 y8
                  obtain ⟨y0, y1, y2, y3, y4, y5, y6⟩ := Crane.blk HK8.out
                  have d0 := cell_regrown y0
                  have d1 := cell_regrown y1
                  have d2 := cell_regrown y2
                  have d3 := cell_regrown y3
                  have d4 := cell_regrown y4
                  have d5 := cell_regrown y5
                  have d6 := cell_regrown y6
                  clear y0 y1 y2 y3 y4 y5 y6
                  go_wp2
                  refine wp_region_quiet_below (by kernel_rfl) (by kernel_rfl) ?_
                  repeat (go_big_quiet_step (first | (go_at_call 13; exact Calls.regrown_of (HMG.out _ _))))
                  refine wpQuiet_nil ?_
                  intro _ hw9
                  obtain ⟨⟨dq, osq⟩, hw9⟩ := hw9
                  subst hw9
                  have h9 := below_regrown w8 dq osq
                  dsimp only at h9 ⊢
                  generalize grow (redrawn w8 dq) osq = w9 at h9 ⊢
                  clear l0 l1 l2 l3 l4 l5 l6 l7 l8 d0 d1 d2 d3 d4 d5 d6 HMG
                  have HK9 := Lib.hid (HK8.out.bel h9)
                  have HA9 := Lib.hid (HA8.out.bel h9)
                  have HB9 := Lib.hid ((HB8.out.below h9).more h9.size)
                  have HR9 := Lib.hid ((HR8.out.below h9).more h9.size)
                  clear h9
                  have HUP : Hid (∀ d os, Calls Try.prog 14 #[.agg #[.string q.v.name, .int .i64 q.v.ax, .int .i64 q.v.ay, .int .i64 q.v.height, .int .i64 q.v.jib, .int .i64 q.v.back, .slice q.r.a q.r.n q.r.cap], .agg #[.string p.v.name, .int .i64 p.v.weight, .int .i64 p.v.fx, .int .i64 p.v.fy, .int .i64 p.v.tx, .int .i64 p.v.ty, .int .i64 p.v.height, .int .i64 p.v.deadline, .slice p.r.a p.r.n p.r.cap]] (grow (redrawn w9 d) os) fun e w' => e = .returned (.tuple #[.int .i64 0, .int .i64 3]) ∧ RowKit.Below (grow (redrawn w9 d) os).heap.size (grow (redrawn w9 d) os) w') := fun d os => by
                    have hb9 := below_regrown w9 d os
                    have := usedPercent_any q p (grow (redrawn w9 d) os) w.heap.size 0 ((HR9.out.below hb9).more hb9.size) hqw.n hqw.v.name hpw.v.name
                    rw [HUV.out, HUC.out] at this
                    exact this
                  obtain ⟨y0, y1, y2, y3, y4, y5, y6, y7, y8⟩ := AW.lift HA9.out hlt HX.out
                  have l0 := cell_regrown y0
                  have l1 := cell_regrown y1
                  have l2 := cell_regrown y2
                  have l3 := cell_regrown y3
                  have l4 := cell_regrown y4
                  have l5 := cell_regrown y5
                  have l6 := cell_regrown y6
                  have l7 := cell_regrown y7
                  have l8 := cell_regrown y8
                  clear y0 y1 y2 y3 y4 y5 y6 y7 y8
                  obtain ⟨y0, y1, y2, y3, y4, y5, y6⟩ := Crane.blk HK9.out
                  have d0 := cell_regrown y0
                  have d1 := cell_regrown y1
                  have d2 := cell_regrown y2
                  have d3 := cell_regrown y3
                  have d4 := cell_regrown y4
                  have d5 := cell_regrown y5
                  have d6 := cell_regrown y6
                  clear y0 y1 y2 y3 y4 y5 y6
                  go_wp2
                  refine wp_region_quiet_below (by kernel_rfl) (by kernel_rfl) ?_
                  repeat (go_big_quiet_step (first | (go_at_call 14; exact Calls.regrown_of (HUP.out _ _))))
                  refine wpQuiet_nil ?_
                  intro _ hw9
                  obtain ⟨⟨dq, osq⟩, hw9⟩ := hw9
                  subst hw9
                  have h10 := below_regrown w9 dq osq
                  dsimp only at h10 ⊢
                  generalize grow (redrawn w9 dq) osq = w10 at h10 ⊢
                  clear l0 l1 l2 l3 l4 l5 l6 l7 l8 d0 d1 d2 d3 d4 d5 d6 HUP
                  have HK10 := Lib.hid (HK9.out.bel h10)
                  have HA10 := Lib.hid (HA9.out.bel h10)
                  have HB10 := Lib.hid ((HB9.out.below h10).more h10.size)
                  clear h10
                  obtain ⟨y0, y1, y2, y3, y4, y5, y6, y7, y8⟩ := AW.lift HA10.out hlt HX.out
                  have l0 := cell_regrown y0
                  have l1 := cell_regrown y1
                  have l2 := cell_regrown y2
                  have l3 := cell_regrown y3
                  have l4 := cell_regrown y4
                  have l5 := cell_regrown y5
                  have l6 := cell_regrown y6
                  have l7 := cell_regrown y7
                  have l8 := cell_regrown y8
                  clear y0 y1 y2 y3 y4 y5 y6 y7 y8
                  obtain ⟨y0, y1, y2, y3, y4, y5, y6⟩ := Crane.blk HK10.out
                  have d0 := cell_regrown y0
                  have d1 := cell_regrown y1
                  have d2 := cell_regrown y2
                  have d3 := cell_regrown y3
                  have d4 := cell_regrown y4
                  have d5 := cell_regrown y5
                  have d6 := cell_regrown y6
                  clear y0 y1 y2 y3 y4 y5 y6
                  go_wp2
                  refine wp_region_quiet_below (by kernel_rfl) (by kernel_rfl) ?_
                  repeat (go_big_quiet_step (first | (fail)))
                  refine wpQuiet_nil ?_
                  intro _ hw9
                  obtain ⟨⟨dq, osq⟩, hw9⟩ := hw9
                  subst hw9
                  have h11 := below_regrown w10 dq osq
                  dsimp only at h11 ⊢
                  generalize grow (redrawn w10 dq) osq = w11 at h11 ⊢
                  clear l0 l1 l2 l3 l4 l5 l6 l7 l8 d0 d1 d2 d3 d4 d5 d6
                  have HA11 := Lib.hid (HA10.out.bel h11)
                  have HB11 := Lib.hid ((HB10.out.below h11).more h11.size)
                  clear h11
                  have t0 := AW.row HA11.out hlt HRXX.out
                  have u0 := AW.bit HA11.out (List.mem_of_getElem? HRXX.out) hin (show rxs[i]? = some false by rw [HRV.out, HBIT.out, HAAT.out, HAC.out])
                  dsimp only at t0
                  go_wp2_with fail
                  refine (a2Has_any A5 LA c5 ab (i : Int) w11 w.heap.size HB11.out (by omega)).mono ?_
                  rintro e w12 ⟨rfl, rfl⟩
                  rw [show hasJ ab (i : Int) = false by rw [← HAB.out, HHAS.out]; exact HAC.out]
                  go_wp2
                  go_roundw
                  case rel => exact ⟨i + 1, by omega, by go_num, HA11.out, HB11.out⟩
                  case measure => simp [intOf]; omega
              · as_aux_lemma =>
                  have ha2 := ha
                  obtain ⟨M, hM⟩ : ∃ M, mgVal q.val p.v = M := ⟨_, rfl⟩
                  have HMV := Lib.hid hM
                  rw [hM] at a1
                  have HUV := Lib.hid b1
                  have HMC := Lib.hid a2
                  have HUC := Lib.hid b2
                  have HAC := Lib.hid ha2
                  have m1 : decide (0 ≤ M) = false := decide_eq_false (by omega)
                  have m2 : ¬ 0 ≤ M := by omega
                  clear hM b1 ha ha2 a2 b2
                  have HCN : Hid (∀ d os, Calls Try.prog 12 #[.agg #[.string q.v.name, .int .i64 q.v.ax, .int .i64 q.v.ay, .int .i64 q.v.height, .int .i64 q.v.jib, .int .i64 q.v.back, .slice q.r.a q.r.n q.r.cap], .agg #[.string p.v.name, .int .i64 p.v.weight, .int .i64 p.v.fx, .int .i64 p.v.fy, .int .i64 p.v.tx, .int .i64 p.v.ty, .int .i64 p.v.height, .int .i64 p.v.deadline, .slice p.r.a p.r.n p.r.cap]] (grow (redrawn W1 d) os) fun e w' => e = .returned (.bool false) ∧ RowKit.Below (grow (redrawn W1 d) os).heap.size (grow (redrawn W1 d) os) w') := fun d os => by
                    have hb9 := below_regrown W1 d os
                    have := canLift_any q p (grow (redrawn W1 d) os) w.heap.size 0 ((HROW.out.below hb9).more hb9.size) hqw.n hqw.v.name hpw.v.name
                    have e1 : okB q.val p.v = true := by unfold okB; rw [HQO.out, HPL.out]; rfl
                    rw [show (okB q.val p.v && ableB q.val p.v) = false by rw [e1, HAC.out]; rfl] at this
                    exact this
                  go_wp2_with fail
                  rw [← hW1]
                  clear hW1 s7 c0 c1 c2' c3 c4 c5' c6
                  obtain ⟨y0, y1, y2, y3, y4, y5, y6, y7, y8⟩ := AW.lift HA1.out hlt HX.out
                  have l0 := cell_regrown y0
                  have l1 := cell_regrown y1
                  have l2 := cell_regrown y2
                  have l3 := cell_regrown y3
                  have l4 := cell_regrown y4
                  have l5 := cell_regrown y5
                  have l6 := cell_regrown y6
                  have l7 := cell_regrown y7
                  have l8 := cell_regrown y8
                  clear y0 y1 y2 y3 y4 y5 y6 y7 y8
                  obtain ⟨y0, y1, y2, y3, y4, y5, y6⟩ := Crane.blk HK1.out
                  have d0 := cell_regrown y0
                  have d1 := cell_regrown y1
                  have d2 := cell_regrown y2
                  have d3 := cell_regrown y3
                  have d4 := cell_regrown y4
                  have d5 := cell_regrown y5
                  have d6 := cell_regrown y6
                  clear y0 y1 y2 y3 y4 y5 y6
                  go_wp2
                  refine wp_region_quiet_below (by kernel_rfl) (by kernel_rfl) ?_
                  repeat (go_big_quiet_step (first | (go_at_call 12; exact Calls.regrown_of (HCN.out _ _))))
                  refine wpQuiet_nil ?_
                  intro _ hw9
                  obtain ⟨⟨dq, osq⟩, hw9⟩ := hw9
                  subst hw9
                  have h8 := below_regrown W1 dq osq
                  dsimp only at h8 ⊢
                  generalize grow (redrawn W1 dq) osq = w8 at h8 ⊢
                  clear l0 l1 l2 l3 l4 l5 l6 l7 l8 d0 d1 d2 d3 d4 d5 d6 HCN
                  have HK8 := Lib.hid (HK1.out.bel h8)
                  have HA8 := Lib.hid (HA1.out.bel h8)
                  have HB8 := Lib.hid ((HB1.out.below h8).more h8.size)
                  have HR8 := Lib.hid ((HROW.out.below h8).more h8.size)
                  clear h8
                  have HMG : Hid (∀ d os, Calls Try.prog 13 #[.agg #[.string q.v.name, .int .i64 q.v.ax, .int .i64 q.v.ay, .int .i64 q.v.height, .int .i64 q.v.jib, .int .i64 q.v.back, .slice q.r.a q.r.n q.r.cap], .agg #[.string p.v.name, .int .i64 p.v.weight, .int .i64 p.v.fx, .int .i64 p.v.fy, .int .i64 p.v.tx, .int .i64 p.v.ty, .int .i64 p.v.height, .int .i64 p.v.deadline, .slice p.r.a p.r.n p.r.cap]] (grow (redrawn w8 d) os) fun e w' => e = .returned (.tuple #[.int .i64 M, .int .i64 0]) ∧ RowKit.Below (grow (redrawn w8 d) os).heap.size (grow (redrawn w8 d) os) w') := fun d os => by
                    have hb9 := below_regrown w8 d os
                    have := liftMargin_any q p (grow (redrawn w8 d) os) w.heap.size 0 ((HR8.out.below hb9).more hb9.size) hqw.n hqw.v.name hpw.v.name
                    rw [HMV.out, HMC.out] at this
                    exact this
                  obtain ⟨y0, y1, y2, y3, y4, y5, y6, y7, y8⟩ := AW.lift HA8.out hlt HX.out
                  have l0 := cell_regrown y0
                  have l1 := cell_regrown y1
                  have l2 := cell_regrown y2
                  have l3 := cell_regrown y3
                  have l4 := cell_regrown y4
                  have l5 := cell_regrown y5
                  have l6 := cell_regrown y6
                  have l7 := cell_regrown y7
                  have l8 := cell_regrown y8
                  clear y0 y1 y2 y3 y4 y5 y6 y7 y8
                  obtain ⟨y0, y1, y2, y3, y4, y5, y6⟩ := Crane.blk HK8.out
                  have d0 := cell_regrown y0
                  have d1 := cell_regrown y1
                  have d2 := cell_regrown y2
                  have d3 := cell_regrown y3
                  have d4 := cell_regrown y4
                  have d5 := cell_regrown y5
                  have d6 := cell_regrown y6
                  clear y0 y1 y2 y3 y4 y5 y6
                  go_wp2
                  refine wp_region_quiet_below (by kernel_rfl) (by kernel_rfl) ?_
                  repeat (go_big_quiet_step (first | (go_at_call 13; exact Calls.regrown_of (HMG.out _ _))))
                  refine wpQuiet_nil ?_
                  intro _ hw9
                  obtain ⟨⟨dq, osq⟩, hw9⟩ := hw9
                  subst hw9
                  have h9 := below_regrown w8 dq osq
                  dsimp only at h9 ⊢
                  generalize grow (redrawn w8 dq) osq = w9 at h9 ⊢
                  clear l0 l1 l2 l3 l4 l5 l6 l7 l8 d0 d1 d2 d3 d4 d5 d6 HMG
                  have HK9 := Lib.hid (HK8.out.bel h9)
                  have HA9 := Lib.hid (HA8.out.bel h9)
                  have HB9 := Lib.hid ((HB8.out.below h9).more h9.size)
                  have HR9 := Lib.hid ((HR8.out.below h9).more h9.size)
                  clear h9
                  have HUP : Hid (∀ d os, Calls Try.prog 14 #[.agg #[.string q.v.name, .int .i64 q.v.ax, .int .i64 q.v.ay, .int .i64 q.v.height, .int .i64 q.v.jib, .int .i64 q.v.back, .slice q.r.a q.r.n q.r.cap], .agg #[.string p.v.name, .int .i64 p.v.weight, .int .i64 p.v.fx, .int .i64 p.v.fy, .int .i64 p.v.tx, .int .i64 p.v.ty, .int .i64 p.v.height, .int .i64 p.v.deadline, .slice p.r.a p.r.n p.r.cap]] (grow (redrawn w9 d) os) fun e w' => e = .returned (.tuple #[.int .i64 0, .int .i64 6]) ∧ RowKit.Below (grow (redrawn w9 d) os).heap.size (grow (redrawn w9 d) os) w') := fun d os => by
                    have hb9 := below_regrown w9 d os
                    have := usedPercent_any q p (grow (redrawn w9 d) os) w.heap.size 0 ((HR9.out.below hb9).more hb9.size) hqw.n hqw.v.name hpw.v.name
                    rw [HUV.out, HUC.out] at this
                    exact this
                  obtain ⟨y0, y1, y2, y3, y4, y5, y6, y7, y8⟩ := AW.lift HA9.out hlt HX.out
                  have l0 := cell_regrown y0
                  have l1 := cell_regrown y1
                  have l2 := cell_regrown y2
                  have l3 := cell_regrown y3
                  have l4 := cell_regrown y4
                  have l5 := cell_regrown y5
                  have l6 := cell_regrown y6
                  have l7 := cell_regrown y7
                  have l8 := cell_regrown y8
                  clear y0 y1 y2 y3 y4 y5 y6 y7 y8
                  obtain ⟨y0, y1, y2, y3, y4, y5, y6⟩ := Crane.blk HK9.out
                  have d0 := cell_regrown y0
                  have d1 := cell_regrown y1
                  have d2 := cell_regrown y2
                  have d3 := cell_regrown y3
                  have d4 := cell_regrown y4
                  have d5 := cell_regrown y5
                  have d6 := cell_regrown y6
                  clear y0 y1 y2 y3 y4 y5 y6
                  go_wp2
                  refine wp_region_quiet_below (by kernel_rfl) (by kernel_rfl) ?_
                  repeat (go_big_quiet_step (first | (go_at_call 14; exact Calls.regrown_of (HUP.out _ _))))
                  refine wpQuiet_nil ?_
                  intro _ hw9
                  obtain ⟨⟨dq, osq⟩, hw9⟩ := hw9
                  subst hw9
                  have h10 := below_regrown w9 dq osq
                  dsimp only at h10 ⊢
                  generalize grow (redrawn w9 dq) osq = w10 at h10 ⊢
                  clear l0 l1 l2 l3 l4 l5 l6 l7 l8 d0 d1 d2 d3 d4 d5 d6 HUP
                  have HK10 := Lib.hid (HK9.out.bel h10)
                  have HA10 := Lib.hid (HA9.out.bel h10)
                  have HB10 := Lib.hid ((HB9.out.below h10).more h10.size)
                  clear h10
                  obtain ⟨y0, y1, y2, y3, y4, y5, y6, y7, y8⟩ := AW.lift HA10.out hlt HX.out
                  have l0 := cell_regrown y0
                  have l1 := cell_regrown y1
                  have l2 := cell_regrown y2
                  have l3 := cell_regrown y3
                  have l4 := cell_regrown y4
                  have l5 := cell_regrown y5
                  have l6 := cell_regrown y6
                  have l7 := cell_regrown y7
                  have l8 := cell_regrown y8
                  clear y0 y1 y2 y3 y4 y5 y6 y7 y8
                  obtain ⟨y0, y1, y2, y3, y4, y5, y6⟩ := Crane.blk HK10.out
                  have d0 := cell_regrown y0
                  have d1 := cell_regrown y1
                  have d2 := cell_regrown y2
                  have d3 := cell_regrown y3
                  have d4 := cell_regrown y4
                  have d5 := cell_regrown y5
                  have d6 := cell_regrown y6
                  clear y0 y1 y2 y3 y4 y5 y6
                  go_wp2
                  refine wp_region_quiet_below (by kernel_rfl) (by kernel_rfl) ?_
                  repeat (go_big_quiet_step (first | (fail)))
                  refine wpQuiet_nil ?_
                  intro _ hw9
                  obtain ⟨⟨dq, osq⟩, hw9⟩ := hw9
                  subst hw9
                  have h11 := below_regrown w10 dq osq
                  dsimp only at h11 ⊢
                  generalize grow (redrawn w10 dq) osq = w11 at h11 ⊢
                  clear l0 l1 l2 l3 l4 l5 l6 l7 l8 d0 d1 d2 d3 d4 d5 d6
                  have HA11 := Lib.hid (HA10.out.bel h11)
                  have HB11 := Lib.hid ((HB10.out.below h11).more h11.size)
                  clear h11
                  have t0 := AW.row HA11.out hlt HRXX.out
                  have u0 := AW.bit HA11.out (List.mem_of_getElem? HRXX.out) hin (show rxs[i]? = some false by rw [HRV.out, HBIT.out, HAAT.out, HAC.out])
                  dsimp only at t0
                  go_wp2_with fail
                  refine (a2Has_any A5 LA c5 ab (i : Int) w11 w.heap.size HB11.out (by omega)).mono ?_
                  rintro e w12 ⟨rfl, rfl⟩
                  rw [show hasJ ab (i : Int) = false by rw [← HAB.out, HHAS.out]; exact HAC.out]
                  go_wp2
                  go_roundw
                  case rel => exact ⟨i + 1, by omega, by go_num, HA11.out, HB11.out⟩
                  case measure => simp [intOf]; omega
              · as_aux_lemma =>
                  by_cases hhi : p.v.height + 30 ≤ q.v.height
                  · as_aux_lemma =>
                      have ha2 : ableB q.val p.v = true := by rw [ha]; exact decide_eq_true hhi
                      obtain ⟨M, hM⟩ : ∃ M, mgVal q.val p.v = M := ⟨_, rfl⟩
                      have HMV := Lib.hid hM
                      rw [hM] at a1
                      obtain ⟨U, hU⟩ : ∃ U, upVal q.val p.v = U := ⟨_, rfl⟩
                      have HUV := Lib.hid hU
                      rw [hU] at b1
                      have HMC := Lib.hid a2
                      have HUC := Lib.hid b2
                      have HAC := Lib.hid ha2
                      have m1 : decide (0 ≤ M) = true := decide_eq_true (by omega)
                      have m2 : 0 ≤ M := by omega
                      have n1 : decide (U ≤ 100) = true := decide_eq_true (by omega)
                      have n2 : U ≤ 100 := by omega
                      have g1 : decide (p.v.height + 30 ≤ q.v.height) = true := decide_eq_true hhi
                      clear hM hU ha ha2 a2 b2
                      have HCN : Hid (∀ d os, Calls Try.prog 12 #[.agg #[.string q.v.name, .int .i64 q.v.ax, .int .i64 q.v.ay, .int .i64 q.v.height, .int .i64 q.v.jib, .int .i64 q.v.back, .slice q.r.a q.r.n q.r.cap], .agg #[.string p.v.name, .int .i64 p.v.weight, .int .i64 p.v.fx, .int .i64 p.v.fy, .int .i64 p.v.tx, .int .i64 p.v.ty, .int .i64 p.v.height, .int .i64 p.v.deadline, .slice p.r.a p.r.n p.r.cap]] (grow (redrawn W1 d) os) fun e w' => e = .returned (.bool true) ∧ RowKit.Below (grow (redrawn W1 d) os).heap.size (grow (redrawn W1 d) os) w') := fun d os => by
                        have hb9 := below_regrown W1 d os
                        have := canLift_any q p (grow (redrawn W1 d) os) w.heap.size 0 ((HROW.out.below hb9).more hb9.size) hqw.n hqw.v.name hpw.v.name
                        have e1 : okB q.val p.v = true := by unfold okB; rw [HQO.out, HPL.out]; rfl
                        rw [show (okB q.val p.v && ableB q.val p.v) = true by rw [e1, HAC.out]; rfl] at this
                        exact this
                      go_wp2_with fail
                      rw [← hW1]
                      clear hW1 s7 c0 c1 c2' c3 c4 c5' c6
                      obtain ⟨y0, y1, y2, y3, y4, y5, y6, y7, y8⟩ := AW.lift HA1.out hlt HX.out
                      have l0 := cell_regrown y0
                      have l1 := cell_regrown y1
                      have l2 := cell_regrown y2
                      have l3 := cell_regrown y3
                      have l4 := cell_regrown y4
                      have l5 := cell_regrown y5
                      have l6 := cell_regrown y6
                      have l7 := cell_regrown y7
                      have l8 := cell_regrown y8
                      clear y0 y1 y2 y3 y4 y5 y6 y7 y8
                      obtain ⟨y0, y1, y2, y3, y4, y5, y6⟩ := Crane.blk HK1.out
                      have d0 := cell_regrown y0
                      have d1 := cell_regrown y1
                      have d2 := cell_regrown y2
                      have d3 := cell_regrown y3
                      have d4 := cell_regrown y4
                      have d5 := cell_regrown y5
                      have d6 := cell_regrown y6
                      clear y0 y1 y2 y3 y4 y5 y6
                      go_wp2
                      refine wp_region_quiet_below (by kernel_rfl) (by kernel_rfl) ?_
                      repeat (go_big_quiet_step (first | (go_at_call 12; exact Calls.regrown_of (HCN.out _ _))))
                      refine wpQuiet_nil ?_
                      intro _ hw9
                      obtain ⟨⟨dq, osq⟩, hw9⟩ := hw9
                      subst hw9
                      have h8 := below_regrown W1 dq osq
                      dsimp only at h8 ⊢
                      generalize grow (redrawn W1 dq) osq = w8 at h8 ⊢
                      clear l0 l1 l2 l3 l4 l5 l6 l7 l8 d0 d1 d2 d3 d4 d5 d6 HCN
                      have HK8 := Lib.hid (HK1.out.bel h8)
                      have HA8 := Lib.hid (HA1.out.bel h8)
                      have HB8 := Lib.hid ((HB1.out.below h8).more h8.size)
                      have HR8 := Lib.hid ((HROW.out.below h8).more h8.size)
                      clear h8
                      have HMG : Hid (∀ d os, Calls Try.prog 13 #[.agg #[.string q.v.name, .int .i64 q.v.ax, .int .i64 q.v.ay, .int .i64 q.v.height, .int .i64 q.v.jib, .int .i64 q.v.back, .slice q.r.a q.r.n q.r.cap], .agg #[.string p.v.name, .int .i64 p.v.weight, .int .i64 p.v.fx, .int .i64 p.v.fy, .int .i64 p.v.tx, .int .i64 p.v.ty, .int .i64 p.v.height, .int .i64 p.v.deadline, .slice p.r.a p.r.n p.r.cap]] (grow (redrawn w8 d) os) fun e w' => e = .returned (.tuple #[.int .i64 M, .int .i64 0]) ∧ RowKit.Below (grow (redrawn w8 d) os).heap.size (grow (redrawn w8 d) os) w') := fun d os => by
                        have hb9 := below_regrown w8 d os
                        have := liftMargin_any q p (grow (redrawn w8 d) os) w.heap.size 0 ((HR8.out.below hb9).more hb9.size) hqw.n hqw.v.name hpw.v.name
                        rw [HMV.out, HMC.out] at this
                        exact this
                      obtain ⟨y0, y1, y2, y3, y4, y5, y6, y7, y8⟩ := AW.lift HA8.out hlt HX.out
                      have l0 := cell_regrown y0
                      have l1 := cell_regrown y1
                      have l2 := cell_regrown y2
                      have l3 := cell_regrown y3
                      have l4 := cell_regrown y4
                      have l5 := cell_regrown y5
                      have l6 := cell_regrown y6
                      have l7 := cell_regrown y7
                      have l8 := cell_regrown y8
                      clear y0 y1 y2 y3 y4 y5 y6 y7 y8
                      obtain ⟨y0, y1, y2, y3, y4, y5, y6⟩ := Crane.blk HK8.out
                      have d0 := cell_regrown y0
                      have d1 := cell_regrown y1
                      have d2 := cell_regrown y2
                      have d3 := cell_regrown y3
                      have d4 := cell_regrown y4
                      have d5 := cell_regrown y5
                      have d6 := cell_regrown y6
                      clear y0 y1 y2 y3 y4 y5 y6
                      go_wp2
                      refine wp_region_quiet_below (by kernel_rfl) (by kernel_rfl) ?_
                      repeat (go_big_quiet_step (first | (go_at_call 13; exact Calls.regrown_of (HMG.out _ _))))
                      refine wpQuiet_nil ?_
                      intro _ hw9
                      obtain ⟨⟨dq, osq⟩, hw9⟩ := hw9
                      subst hw9
                      have h9 := below_regrown w8 dq osq
                      dsimp only at h9 ⊢
                      generalize grow (redrawn w8 dq) osq = w9 at h9 ⊢
                      clear l0 l1 l2 l3 l4 l5 l6 l7 l8 d0 d1 d2 d3 d4 d5 d6 HMG
                      have HK9 := Lib.hid (HK8.out.bel h9)
                      have HA9 := Lib.hid (HA8.out.bel h9)
                      have HB9 := Lib.hid ((HB8.out.below h9).more h9.size)
                      have HR9 := Lib.hid ((HR8.out.below h9).more h9.size)
                      clear h9
                      have HUP : Hid (∀ d os, Calls Try.prog 14 #[.agg #[.string q.v.name, .int .i64 q.v.ax, .int .i64 q.v.ay, .int .i64 q.v.height, .int .i64 q.v.jib, .int .i64 q.v.back, .slice q.r.a q.r.n q.r.cap], .agg #[.string p.v.name, .int .i64 p.v.weight, .int .i64 p.v.fx, .int .i64 p.v.fy, .int .i64 p.v.tx, .int .i64 p.v.ty, .int .i64 p.v.height, .int .i64 p.v.deadline, .slice p.r.a p.r.n p.r.cap]] (grow (redrawn w9 d) os) fun e w' => e = .returned (.tuple #[.int .i64 U, .int .i64 0]) ∧ RowKit.Below (grow (redrawn w9 d) os).heap.size (grow (redrawn w9 d) os) w') := fun d os => by
                        have hb9 := below_regrown w9 d os
                        have := usedPercent_any q p (grow (redrawn w9 d) os) w.heap.size 0 ((HR9.out.below hb9).more hb9.size) hqw.n hqw.v.name hpw.v.name
                        rw [HUV.out, HUC.out] at this
                        exact this
                      obtain ⟨y0, y1, y2, y3, y4, y5, y6, y7, y8⟩ := AW.lift HA9.out hlt HX.out
                      have l0 := cell_regrown y0
                      have l1 := cell_regrown y1
                      have l2 := cell_regrown y2
                      have l3 := cell_regrown y3
                      have l4 := cell_regrown y4
                      have l5 := cell_regrown y5
                      have l6 := cell_regrown y6
                      have l7 := cell_regrown y7
                      have l8 := cell_regrown y8
                      clear y0 y1 y2 y3 y4 y5 y6 y7 y8
                      obtain ⟨y0, y1, y2, y3, y4, y5, y6⟩ := Crane.blk HK9.out
                      have d0 := cell_regrown y0
                      have d1 := cell_regrown y1
                      have d2 := cell_regrown y2
                      have d3 := cell_regrown y3
                      have d4 := cell_regrown y4
                      have d5 := cell_regrown y5
                      have d6 := cell_regrown y6
                      clear y0 y1 y2 y3 y4 y5 y6
                      go_wp2
                      refine wp_region_quiet_below (by kernel_rfl) (by kernel_rfl) ?_
                      repeat (go_big_quiet_step (first | (go_at_call 14; exact Calls.regrown_of (HUP.out _ _))))
                      refine wpQuiet_nil ?_
                      intro _ hw9
                      obtain ⟨⟨dq, osq⟩, hw9⟩ := hw9
                      subst hw9
                      have h10 := below_regrown w9 dq osq
                      dsimp only at h10 ⊢
                      generalize grow (redrawn w9 dq) osq = w10 at h10 ⊢
                      clear l0 l1 l2 l3 l4 l5 l6 l7 l8 d0 d1 d2 d3 d4 d5 d6 HUP
                      have HK10 := Lib.hid (HK9.out.bel h10)
                      have HA10 := Lib.hid (HA9.out.bel h10)
                      have HB10 := Lib.hid ((HB9.out.below h10).more h10.size)
                      clear h10
                      obtain ⟨y0, y1, y2, y3, y4, y5, y6, y7, y8⟩ := AW.lift HA10.out hlt HX.out
                      have l0 := cell_regrown y0
                      have l1 := cell_regrown y1
                      have l2 := cell_regrown y2
                      have l3 := cell_regrown y3
                      have l4 := cell_regrown y4
                      have l5 := cell_regrown y5
                      have l6 := cell_regrown y6
                      have l7 := cell_regrown y7
                      have l8 := cell_regrown y8
                      clear y0 y1 y2 y3 y4 y5 y6 y7 y8
                      obtain ⟨y0, y1, y2, y3, y4, y5, y6⟩ := Crane.blk HK10.out
                      have d0 := cell_regrown y0
                      have d1 := cell_regrown y1
                      have d2 := cell_regrown y2
                      have d3 := cell_regrown y3
                      have d4 := cell_regrown y4
                      have d5 := cell_regrown y5
                      have d6 := cell_regrown y6
                      clear y0 y1 y2 y3 y4 y5 y6
                      go_wp2
                      refine wp_region_quiet_below (by kernel_rfl) (by kernel_rfl) ?_
                      repeat (go_big_quiet_step (first | (fail)))
                      refine wpQuiet_nil ?_
                      intro _ hw9
                      obtain ⟨⟨dq, osq⟩, hw9⟩ := hw9
                      subst hw9
                      have h11 := below_regrown w10 dq osq
                      dsimp only at h11 ⊢
                      generalize grow (redrawn w10 dq) osq = w11 at h11 ⊢
                      clear l0 l1 l2 l3 l4 l5 l6 l7 l8 d0 d1 d2 d3 d4 d5 d6
                      have HA11 := Lib.hid (HA10.out.bel h11)
                      have HB11 := Lib.hid ((HB10.out.below h11).more h11.size)
                      clear h11
                      have hne9 : ableTo (ps.map Crane.val) p.v (ps.map Crane.val).length ≠ [] := fun e9 => by
                        have h9 := able_of hin (show ableAt (ps.map Crane.val) p.v i = true by rw [HAAT.out]; exact HAC.out)
                        rw [HLN.out] at e9
                        rw [e9] at h9
                        cases h9
                      obtain ⟨j, cj, hjl, hcj, e1, e2, hjm, hmax⟩ := best_facts (cs := ps.map Crane.val) HOK.out HPL.out hne9
                      rw [HLN.out] at hjl hmax
                      have HMAX := Lib.hid hmax
                      obtain rfl : bv = (j : Int) := HBV.out.symm.trans e1
                      obtain rfl : bc = 0 := HBD.out.symm.trans e2
                      obtain ⟨qb, hqb, hqv⟩ : ∃ qb, ps[j]? = some qb ∧ qb.val = cj := by
                        rw [List.getElem?_map] at hcj
                        obtain ⟨qb, h1, h2⟩ := Option.map_eq_some_iff.1 hcj
                        exact ⟨qb, h1, h2⟩
                      have HQB := Lib.hid hqb
                      have HQV := Lib.hid hqv
                      have hj0 : (0 : Int) ≤ (j : Int) := by omega
                      have hjn : (j : Int) < (n : Int) := by omega
                      clear hmax hjm hcj hqb hqv hne9 e1 e2
                      have t0 := AW.row HA11.out hlt HRXX.out
                      have u0 := AW.bit HA11.out (List.mem_of_getElem? HRXX.out) hin (show rxs[i]? = some true by rw [HRV.out, HBIT.out, HAAT.out, HAC.out])
                      dsimp only at t0
                      go_wp2_with fail
                      refine (a2Has_any A5 LA c5 ab (i : Int) w11 w.heap.size HB11.out (by omega)).mono ?_
                      rintro e w12 ⟨rfl, rfl⟩
                      rw [show hasJ ab (i : Int) = true by rw [← HAB.out, HHAS.out]; exact HAC.out]
                      go_wp2
                      clear t0 u0
                      obtain ⟨MB, hMB⟩ : ∃ M, mgVal cj p.v = M := ⟨_, rfl⟩
                      have hle9 : M ≤ MB := by rw [← HMV.out, ← hMB]; exact HMAX.out i q.val hin HCV.out HAC.out
                      have k9 : decide (MB < M) = false := decide_eq_false (by omega)
                      have k8 : ¬ MB < M := by omega
                      obtain ⟨MC, hMC⟩ : ∃ M, mgCode cj p.v = M := ⟨_, rfl⟩
                      have hqbw := HWF.out qb (List.mem_of_getElem? HQB.out)
                      have HSM : Hid (∀ d os, Calls Try.prog 15 #[.agg #[.string qb.v.name, .int .i64 qb.v.ax, .int .i64 qb.v.ay, .int .i64 qb.v.height, .int .i64 qb.v.jib, .int .i64 qb.v.back, .slice qb.r.a qb.r.n qb.r.cap], .agg #[.string p.v.name, .int .i64 p.v.weight, .int .i64 p.v.fx, .int .i64 p.v.fy, .int .i64 p.v.tx, .int .i64 p.v.ty, .int .i64 p.v.height, .int .i64 p.v.deadline, .slice p.r.a p.r.n p.r.cap]] (grow (redrawn w11 d) os) fun e w' => e = .returned (.tuple #[.int .i64 MB, .int .i64 MC]) ∧ RowKit.Below (grow (redrawn w11 d) os).heap.size (grow (redrawn w11 d) os) w') := fun d os => by
                        have hb9 := below_regrown w11 d os
                        have hrb := (AW.crane HA11.out (by omega) HQB.out).1
                        have := specLiftMargin_any qb p (grow (redrawn w11 d) os) w.heap.size ((hrb.below hb9).more hb9.size) hqbw.n hqbw.v.name hpw.v.name
                        rw [HQV.out, hMB, hMC] at this
                        exact this
                      clear hMB hMC
                      have s0 := cell_regrown (((HA11.out.box.cell 0).trans rfl : _ = some (.slice (some ⟨gb, go, none⟩) n c)))
                      obtain ⟨y0, y1, y2, y3, y4, y5, y6, y7, y8⟩ := AW.lift HA11.out hlt HX.out
                      have l0 := cell_regrown y0
                      have l1 := cell_regrown y1
                      have l2 := cell_regrown y2
                      have l3 := cell_regrown y3
                      have l4 := cell_regrown y4
                      have l5 := cell_regrown y5
                      have l6 := cell_regrown y6
                      have l7 := cell_regrown y7
                      have l8 := cell_regrown y8
                      clear y0 y1 y2 y3 y4 y5 y6 y7 y8
                      obtain ⟨_, y0, y1, y2, y3, y4, y5, y6⟩ := AW.crane HA11.out (by omega) HQB.out
                      have c0 := cell_regrown y0
                      have c1 := cell_regrown y1
                      have c2 := cell_regrown y2
                      have c3 := cell_regrown y3
                      have c4 := cell_regrown y4
                      have c5 := cell_regrown y5
                      have c6 := cell_regrown y6
                      clear y0 y1 y2 y3 y4 y5 y6
                      refine wp_region_quiet_below (by kernel_rfl) (by kernel_rfl) ?_
                      repeat (go_big_quiet_step (first | (go_at_call 15; exact Calls.regrown_of (HSM.out _ _))))
                      refine wpQuiet_nil ?_
                      intro _ hw9
                      obtain ⟨⟨dq, osq⟩, hw9⟩ := hw9
                      subst hw9
                      have h13 := below_regrown w11 dq osq
                      dsimp only at h13 ⊢
                      generalize grow (redrawn w11 dq) osq = w13 at h13 ⊢
                      clear s0 l0 l1 l2 l3 l4 l5 l6 l7 l8 c0 c1 c2 c3 c4 c5 c6 HSM
                      have HA13 := Lib.hid (HA11.out.bel h13)
                      have HB13 := Lib.hid ((HB11.out.below h13).more h13.size)
                      clear h13
                      go_wp2
                      go_roundw
                      case rel => exact ⟨i + 1, by omega, by go_num, HA13.out, HB13.out⟩
                      case measure => simp [intOf]; omega
                  · as_aux_lemma =>
                      have ha2 : ableB q.val p.v = false := by rw [ha]; exact decide_eq_false hhi
                      obtain ⟨M, hM⟩ : ∃ M, mgVal q.val p.v = M := ⟨_, rfl⟩
                      have HMV := Lib.hid hM
                      rw [hM] at a1
                      obtain ⟨U, hU⟩ : ∃ U, upVal q.val p.v = U := ⟨_, rfl⟩
                      have HUV := Lib.hid hU
                      rw [hU] at b1
                      have HMC := Lib.hid a2
                      have HUC := Lib.hid b2
                      have HAC := Lib.hid ha2
                      have m1 : decide (0 ≤ M) = true := decide_eq_true (by omega)
                      have m2 : 0 ≤ M := by omega
                      have n1 : decide (U ≤ 100) = true := decide_eq_true (by omega)
                      have n2 : U ≤ 100 := by omega
                      have g1 : decide (p.v.height + 30 ≤ q.v.height) = false := decide_eq_false hhi
                      clear hM hU ha ha2 a2 b2
                      have HCN : Hid (∀ d os, Calls Try.prog 12 #[.agg #[.string q.v.name, .int .i64 q.v.ax, .int .i64 q.v.ay, .int .i64 q.v.height, .int .i64 q.v.jib, .int .i64 q.v.back, .slice q.r.a q.r.n q.r.cap], .agg #[.string p.v.name, .int .i64 p.v.weight, .int .i64 p.v.fx, .int .i64 p.v.fy, .int .i64 p.v.tx, .int .i64 p.v.ty, .int .i64 p.v.height, .int .i64 p.v.deadline, .slice p.r.a p.r.n p.r.cap]] (grow (redrawn W1 d) os) fun e w' => e = .returned (.bool false) ∧ RowKit.Below (grow (redrawn W1 d) os).heap.size (grow (redrawn W1 d) os) w') := fun d os => by
                        have hb9 := below_regrown W1 d os
                        have := canLift_any q p (grow (redrawn W1 d) os) w.heap.size 0 ((HROW.out.below hb9).more hb9.size) hqw.n hqw.v.name hpw.v.name
                        have e1 : okB q.val p.v = true := by unfold okB; rw [HQO.out, HPL.out]; rfl
                        rw [show (okB q.val p.v && ableB q.val p.v) = false by rw [e1, HAC.out]; rfl] at this
                        exact this
                      go_wp2_with fail
                      rw [← hW1]
                      clear hW1 s7 c0 c1 c2' c3 c4 c5' c6
                      obtain ⟨y0, y1, y2, y3, y4, y5, y6, y7, y8⟩ := AW.lift HA1.out hlt HX.out
                      have l0 := cell_regrown y0
                      have l1 := cell_regrown y1
                      have l2 := cell_regrown y2
                      have l3 := cell_regrown y3
                      have l4 := cell_regrown y4
                      have l5 := cell_regrown y5
                      have l6 := cell_regrown y6
                      have l7 := cell_regrown y7
                      have l8 := cell_regrown y8
                      clear y0 y1 y2 y3 y4 y5 y6 y7 y8
                      obtain ⟨y0, y1, y2, y3, y4, y5, y6⟩ := Crane.blk HK1.out
                      have d0 := cell_regrown y0
                      have d1 := cell_regrown y1
                      have d2 := cell_regrown y2
                      have d3 := cell_regrown y3
                      have d4 := cell_regrown y4
                      have d5 := cell_regrown y5
                      have d6 := cell_regrown y6
                      clear y0 y1 y2 y3 y4 y5 y6
                      go_wp2
                      refine wp_region_quiet_below (by kernel_rfl) (by kernel_rfl) ?_
                      repeat (go_big_quiet_step (first | (go_at_call 12; exact Calls.regrown_of (HCN.out _ _))))
                      refine wpQuiet_nil ?_
                      intro _ hw9
                      obtain ⟨⟨dq, osq⟩, hw9⟩ := hw9
                      subst hw9
                      have h8 := below_regrown W1 dq osq
                      dsimp only at h8 ⊢
                      generalize grow (redrawn W1 dq) osq = w8 at h8 ⊢
                      clear l0 l1 l2 l3 l4 l5 l6 l7 l8 d0 d1 d2 d3 d4 d5 d6 HCN
                      have HK8 := Lib.hid (HK1.out.bel h8)
                      have HA8 := Lib.hid (HA1.out.bel h8)
                      have HB8 := Lib.hid ((HB1.out.below h8).more h8.size)
                      have HR8 := Lib.hid ((HROW.out.below h8).more h8.size)
                      clear h8
                      have HMG : Hid (∀ d os, Calls Try.prog 13 #[.agg #[.string q.v.name, .int .i64 q.v.ax, .int .i64 q.v.ay, .int .i64 q.v.height, .int .i64 q.v.jib, .int .i64 q.v.back, .slice q.r.a q.r.n q.r.cap], .agg #[.string p.v.name, .int .i64 p.v.weight, .int .i64 p.v.fx, .int .i64 p.v.fy, .int .i64 p.v.tx, .int .i64 p.v.ty, .int .i64 p.v.height, .int .i64 p.v.deadline, .slice p.r.a p.r.n p.r.cap]] (grow (redrawn w8 d) os) fun e w' => e = .returned (.tuple #[.int .i64 M, .int .i64 0]) ∧ RowKit.Below (grow (redrawn w8 d) os).heap.size (grow (redrawn w8 d) os) w') := fun d os => by
                        have hb9 := below_regrown w8 d os
                        have := liftMargin_any q p (grow (redrawn w8 d) os) w.heap.size 0 ((HR8.out.below hb9).more hb9.size) hqw.n hqw.v.name hpw.v.name
                        rw [HMV.out, HMC.out] at this
                        exact this
                      obtain ⟨y0, y1, y2, y3, y4, y5, y6, y7, y8⟩ := AW.lift HA8.out hlt HX.out
                      have l0 := cell_regrown y0
                      have l1 := cell_regrown y1
                      have l2 := cell_regrown y2
                      have l3 := cell_regrown y3
                      have l4 := cell_regrown y4
                      have l5 := cell_regrown y5
                      have l6 := cell_regrown y6
                      have l7 := cell_regrown y7
                      have l8 := cell_regrown y8
                      clear y0 y1 y2 y3 y4 y5 y6 y7 y8
                      obtain ⟨y0, y1, y2, y3, y4, y5, y6⟩ := Crane.blk HK8.out
                      have d0 := cell_regrown y0
                      have d1 := cell_regrown y1
                      have d2 := cell_regrown y2
                      have d3 := cell_regrown y3
                      have d4 := cell_regrown y4
                      have d5 := cell_regrown y5
                      have d6 := cell_regrown y6
                      clear y0 y1 y2 y3 y4 y5 y6
                      go_wp2
                      refine wp_region_quiet_below (by kernel_rfl) (by kernel_rfl) ?_
                      repeat (go_big_quiet_step (first | (go_at_call 13; exact Calls.regrown_of (HMG.out _ _))))
                      refine wpQuiet_nil ?_
                      intro _ hw9
                      obtain ⟨⟨dq, osq⟩, hw9⟩ := hw9
                      subst hw9
                      have h9 := below_regrown w8 dq osq
                      dsimp only at h9 ⊢
                      generalize grow (redrawn w8 dq) osq = w9 at h9 ⊢
                      clear l0 l1 l2 l3 l4 l5 l6 l7 l8 d0 d1 d2 d3 d4 d5 d6 HMG
                      have HK9 := Lib.hid (HK8.out.bel h9)
                      have HA9 := Lib.hid (HA8.out.bel h9)
                      have HB9 := Lib.hid ((HB8.out.below h9).more h9.size)
                      have HR9 := Lib.hid ((HR8.out.below h9).more h9.size)
                      clear h9
                      have HUP : Hid (∀ d os, Calls Try.prog 14 #[.agg #[.string q.v.name, .int .i64 q.v.ax, .int .i64 q.v.ay, .int .i64 q.v.height, .int .i64 q.v.jib, .int .i64 q.v.back, .slice q.r.a q.r.n q.r.cap], .agg #[.string p.v.name, .int .i64 p.v.weight, .int .i64 p.v.fx, .int .i64 p.v.fy, .int .i64 p.v.tx, .int .i64 p.v.ty, .int .i64 p.v.height, .int .i64 p.v.deadline, .slice p.r.a p.r.n p.r.cap]] (grow (redrawn w9 d) os) fun e w' => e = .returned (.tuple #[.int .i64 U, .int .i64 0]) ∧ RowKit.Below (grow (redrawn w9 d) os).heap.size (grow (redrawn w9 d) os) w') := fun d os => by
                        have hb9 := below_regrown w9 d os
                        have := usedPercent_any q p (grow (redrawn w9 d) os) w.heap.size 0 ((HR9.out.below hb9).more hb9.size) hqw.n hqw.v.name hpw.v.name
                        rw [HUV.out, HUC.out] at this
                        exact this
                      obtain ⟨y0, y1, y2, y3, y4, y5, y6, y7, y8⟩ := AW.lift HA9.out hlt HX.out
                      have l0 := cell_regrown y0
                      have l1 := cell_regrown y1
                      have l2 := cell_regrown y2
                      have l3 := cell_regrown y3
                      have l4 := cell_regrown y4
                      have l5 := cell_regrown y5
                      have l6 := cell_regrown y6
                      have l7 := cell_regrown y7
                      have l8 := cell_regrown y8
                      clear y0 y1 y2 y3 y4 y5 y6 y7 y8
                      obtain ⟨y0, y1, y2, y3, y4, y5, y6⟩ := Crane.blk HK9.out
                      have d0 := cell_regrown y0
                      have d1 := cell_regrown y1
                      have d2 := cell_regrown y2
                      have d3 := cell_regrown y3
                      have d4 := cell_regrown y4
                      have d5 := cell_regrown y5
                      have d6 := cell_regrown y6
                      clear y0 y1 y2 y3 y4 y5 y6
                      go_wp2
                      refine wp_region_quiet_below (by kernel_rfl) (by kernel_rfl) ?_
                      repeat (go_big_quiet_step (first | (go_at_call 14; exact Calls.regrown_of (HUP.out _ _))))
                      refine wpQuiet_nil ?_
                      intro _ hw9
                      obtain ⟨⟨dq, osq⟩, hw9⟩ := hw9
                      subst hw9
                      have h10 := below_regrown w9 dq osq
                      dsimp only at h10 ⊢
                      generalize grow (redrawn w9 dq) osq = w10 at h10 ⊢
                      clear l0 l1 l2 l3 l4 l5 l6 l7 l8 d0 d1 d2 d3 d4 d5 d6 HUP
                      have HK10 := Lib.hid (HK9.out.bel h10)
                      have HA10 := Lib.hid (HA9.out.bel h10)
                      have HB10 := Lib.hid ((HB9.out.below h10).more h10.size)
                      clear h10
                      obtain ⟨y0, y1, y2, y3, y4, y5, y6, y7, y8⟩ := AW.lift HA10.out hlt HX.out
                      have l0 := cell_regrown y0
                      have l1 := cell_regrown y1
                      have l2 := cell_regrown y2
                      have l3 := cell_regrown y3
                      have l4 := cell_regrown y4
                      have l5 := cell_regrown y5
                      have l6 := cell_regrown y6
                      have l7 := cell_regrown y7
                      have l8 := cell_regrown y8
                      clear y0 y1 y2 y3 y4 y5 y6 y7 y8
                      obtain ⟨y0, y1, y2, y3, y4, y5, y6⟩ := Crane.blk HK10.out
                      have d0 := cell_regrown y0
                      have d1 := cell_regrown y1
                      have d2 := cell_regrown y2
                      have d3 := cell_regrown y3
                      have d4 := cell_regrown y4
                      have d5 := cell_regrown y5
                      have d6 := cell_regrown y6
                      clear y0 y1 y2 y3 y4 y5 y6
                      go_wp2
                      refine wp_region_quiet_below (by kernel_rfl) (by kernel_rfl) ?_
                      repeat (go_big_quiet_step (first | (fail)))
                      refine wpQuiet_nil ?_
                      intro _ hw9
                      obtain ⟨⟨dq, osq⟩, hw9⟩ := hw9
                      subst hw9
                      have h11 := below_regrown w10 dq osq
                      dsimp only at h11 ⊢
                      generalize grow (redrawn w10 dq) osq = w11 at h11 ⊢
                      clear l0 l1 l2 l3 l4 l5 l6 l7 l8 d0 d1 d2 d3 d4 d5 d6
                      have HA11 := Lib.hid (HA10.out.bel h11)
                      have HB11 := Lib.hid ((HB10.out.below h11).more h11.size)
                      clear h11
                      have t0 := AW.row HA11.out hlt HRXX.out
                      have u0 := AW.bit HA11.out (List.mem_of_getElem? HRXX.out) hin (show rxs[i]? = some false by rw [HRV.out, HBIT.out, HAAT.out, HAC.out])
                      dsimp only at t0
                      go_wp2_with fail
                      refine (a2Has_any A5 LA c5 ab (i : Int) w11 w.heap.size HB11.out (by omega)).mono ?_
                      rintro e w12 ⟨rfl, rfl⟩
                      rw [show hasJ ab (i : Int) = false by rw [← HAB.out, HHAS.out]; exact HAC.out]
                      go_wp2
                      go_roundw
                      case rel => exact ⟨i + 1, by omega, by go_num, HA11.out, HB11.out⟩
                      case measure => simp [intOf]; omega
              · as_aux_lemma =>
                  have ha2 := ha
                  obtain ⟨M, hM⟩ : ∃ M, mgVal q.val p.v = M := ⟨_, rfl⟩
                  have HMV := Lib.hid hM
                  rw [hM] at a1
                  obtain ⟨U, hU⟩ : ∃ U, upVal q.val p.v = U := ⟨_, rfl⟩
                  have HUV := Lib.hid hU
                  rw [hU] at b1
                  have HMC := Lib.hid a2
                  have HUC := Lib.hid b2
                  have HAC := Lib.hid ha2
                  have m1 : decide (0 ≤ M) = false := decide_eq_false (by omega)
                  have m2 : ¬ 0 ≤ M := by omega
                  have n1 : decide (U ≤ 100) = false := decide_eq_false (by omega)
                  have n2 : ¬ U ≤ 100 := by omega
                  clear hM hU ha ha2 a2 b2
                  have HCN : Hid (∀ d os, Calls Try.prog 12 #[.agg #[.string q.v.name, .int .i64 q.v.ax, .int .i64 q.v.ay, .int .i64 q.v.height, .int .i64 q.v.jib, .int .i64 q.v.back, .slice q.r.a q.r.n q.r.cap], .agg #[.string p.v.name, .int .i64 p.v.weight, .int .i64 p.v.fx, .int .i64 p.v.fy, .int .i64 p.v.tx, .int .i64 p.v.ty, .int .i64 p.v.height, .int .i64 p.v.deadline, .slice p.r.a p.r.n p.r.cap]] (grow (redrawn W1 d) os) fun e w' => e = .returned (.bool false) ∧ RowKit.Below (grow (redrawn W1 d) os).heap.size (grow (redrawn W1 d) os) w') := fun d os => by
                    have hb9 := below_regrown W1 d os
                    have := canLift_any q p (grow (redrawn W1 d) os) w.heap.size 0 ((HROW.out.below hb9).more hb9.size) hqw.n hqw.v.name hpw.v.name
                    have e1 : okB q.val p.v = true := by unfold okB; rw [HQO.out, HPL.out]; rfl
                    rw [show (okB q.val p.v && ableB q.val p.v) = false by rw [e1, HAC.out]; rfl] at this
                    exact this
                  go_wp2_with fail
                  rw [← hW1]
                  clear hW1 s7 c0 c1 c2' c3 c4 c5' c6
                  obtain ⟨y0, y1, y2, y3, y4, y5, y6, y7, y8⟩ := AW.lift HA1.out hlt HX.out
                  have l0 := cell_regrown y0
                  have l1 := cell_regrown y1
                  have l2 := cell_regrown y2
                  have l3 := cell_regrown y3
                  have l4 := cell_regrown y4
                  have l5 := cell_regrown y5
                  have l6 := cell_regrown y6
                  have l7 := cell_regrown y7
                  have l8 := cell_regrown y8
                  clear y0 y1 y2 y3 y4 y5 y6 y7 y8
                  obtain ⟨y0, y1, y2, y3, y4, y5, y6⟩ := Crane.blk HK1.out
                  have d0 := cell_regrown y0
                  have d1 := cell_regrown y1
                  have d2 := cell_regrown y2
                  have d3 := cell_regrown y3
                  have d4 := cell_regrown y4
                  have d5 := cell_regrown y5
                  have d6 := cell_regrown y6
                  clear y0 y1 y2 y3 y4 y5 y6
                  go_wp2
                  refine wp_region_quiet_below (by kernel_rfl) (by kernel_rfl) ?_
                  repeat (go_big_quiet_step (first | (go_at_call 12; exact Calls.regrown_of (HCN.out _ _))))
                  refine wpQuiet_nil ?_
                  intro _ hw9
                  obtain ⟨⟨dq, osq⟩, hw9⟩ := hw9
                  subst hw9
                  have h8 := below_regrown W1 dq osq
                  dsimp only at h8 ⊢
                  generalize grow (redrawn W1 dq) osq = w8 at h8 ⊢
                  clear l0 l1 l2 l3 l4 l5 l6 l7 l8 d0 d1 d2 d3 d4 d5 d6 HCN
                  have HK8 := Lib.hid (HK1.out.bel h8)
                  have HA8 := Lib.hid (HA1.out.bel h8)
                  have HB8 := Lib.hid ((HB1.out.below h8).more h8.size)
                  have HR8 := Lib.hid ((HROW.out.below h8).more h8.size)
                  clear h8
                  have HMG : Hid (∀ d os, Calls Try.prog 13 #[.agg #[.string q.v.name, .int .i64 q.v.ax, .int .i64 q.v.ay, .int .i64 q.v.height, .int .i64 q.v.jib, .int .i64 q.v.back, .slice q.r.a q.r.n q.r.cap], .agg #[.string p.v.name, .int .i64 p.v.weight, .int .i64 p.v.fx, .int .i64 p.v.fy, .int .i64 p.v.tx, .int .i64 p.v.ty, .int .i64 p.v.height, .int .i64 p.v.deadline, .slice p.r.a p.r.n p.r.cap]] (grow (redrawn w8 d) os) fun e w' => e = .returned (.tuple #[.int .i64 M, .int .i64 0]) ∧ RowKit.Below (grow (redrawn w8 d) os).heap.size (grow (redrawn w8 d) os) w') := fun d os => by
                    have hb9 := below_regrown w8 d os
                    have := liftMargin_any q p (grow (redrawn w8 d) os) w.heap.size 0 ((HR8.out.below hb9).more hb9.size) hqw.n hqw.v.name hpw.v.name
                    rw [HMV.out, HMC.out] at this
                    exact this
                  obtain ⟨y0, y1, y2, y3, y4, y5, y6, y7, y8⟩ := AW.lift HA8.out hlt HX.out
                  have l0 := cell_regrown y0
                  have l1 := cell_regrown y1
                  have l2 := cell_regrown y2
                  have l3 := cell_regrown y3
                  have l4 := cell_regrown y4
                  have l5 := cell_regrown y5
                  have l6 := cell_regrown y6
                  have l7 := cell_regrown y7
                  have l8 := cell_regrown y8
                  clear y0 y1 y2 y3 y4 y5 y6 y7 y8
                  obtain ⟨y0, y1, y2, y3, y4, y5, y6⟩ := Crane.blk HK8.out
                  have d0 := cell_regrown y0
                  have d1 := cell_regrown y1
                  have d2 := cell_regrown y2
                  have d3 := cell_regrown y3
                  have d4 := cell_regrown y4
                  have d5 := cell_regrown y5
                  have d6 := cell_regrown y6
                  clear y0 y1 y2 y3 y4 y5 y6
                  go_wp2
                  refine wp_region_quiet_below (by kernel_rfl) (by kernel_rfl) ?_
                  repeat (go_big_quiet_step (first | (go_at_call 13; exact Calls.regrown_of (HMG.out _ _))))
                  refine wpQuiet_nil ?_
                  intro _ hw9
                  obtain ⟨⟨dq, osq⟩, hw9⟩ := hw9
                  subst hw9
                  have h9 := below_regrown w8 dq osq
                  dsimp only at h9 ⊢
                  generalize grow (redrawn w8 dq) osq = w9 at h9 ⊢
                  clear l0 l1 l2 l3 l4 l5 l6 l7 l8 d0 d1 d2 d3 d4 d5 d6 HMG
                  have HK9 := Lib.hid (HK8.out.bel h9)
                  have HA9 := Lib.hid (HA8.out.bel h9)
                  have HB9 := Lib.hid ((HB8.out.below h9).more h9.size)
                  have HR9 := Lib.hid ((HR8.out.below h9).more h9.size)
                  clear h9
                  have HUP : Hid (∀ d os, Calls Try.prog 14 #[.agg #[.string q.v.name, .int .i64 q.v.ax, .int .i64 q.v.ay, .int .i64 q.v.height, .int .i64 q.v.jib, .int .i64 q.v.back, .slice q.r.a q.r.n q.r.cap], .agg #[.string p.v.name, .int .i64 p.v.weight, .int .i64 p.v.fx, .int .i64 p.v.fy, .int .i64 p.v.tx, .int .i64 p.v.ty, .int .i64 p.v.height, .int .i64 p.v.deadline, .slice p.r.a p.r.n p.r.cap]] (grow (redrawn w9 d) os) fun e w' => e = .returned (.tuple #[.int .i64 U, .int .i64 0]) ∧ RowKit.Below (grow (redrawn w9 d) os).heap.size (grow (redrawn w9 d) os) w') := fun d os => by
                    have hb9 := below_regrown w9 d os
                    have := usedPercent_any q p (grow (redrawn w9 d) os) w.heap.size 0 ((HR9.out.below hb9).more hb9.size) hqw.n hqw.v.name hpw.v.name
                    rw [HUV.out, HUC.out] at this
                    exact this
                  obtain ⟨y0, y1, y2, y3, y4, y5, y6, y7, y8⟩ := AW.lift HA9.out hlt HX.out
                  have l0 := cell_regrown y0
                  have l1 := cell_regrown y1
                  have l2 := cell_regrown y2
                  have l3 := cell_regrown y3
                  have l4 := cell_regrown y4
                  have l5 := cell_regrown y5
                  have l6 := cell_regrown y6
                  have l7 := cell_regrown y7
                  have l8 := cell_regrown y8
                  clear y0 y1 y2 y3 y4 y5 y6 y7 y8
                  obtain ⟨y0, y1, y2, y3, y4, y5, y6⟩ := Crane.blk HK9.out
                  have d0 := cell_regrown y0
                  have d1 := cell_regrown y1
                  have d2 := cell_regrown y2
                  have d3 := cell_regrown y3
                  have d4 := cell_regrown y4
                  have d5 := cell_regrown y5
                  have d6 := cell_regrown y6
                  clear y0 y1 y2 y3 y4 y5 y6
                  go_wp2
                  refine wp_region_quiet_below (by kernel_rfl) (by kernel_rfl) ?_
                  repeat (go_big_quiet_step (first | (go_at_call 14; exact Calls.regrown_of (HUP.out _ _))))
                  refine wpQuiet_nil ?_
                  intro _ hw9
                  obtain ⟨⟨dq, osq⟩, hw9⟩ := hw9
                  subst hw9
                  have h10 := below_regrown w9 dq osq
                  dsimp only at h10 ⊢
                  generalize grow (redrawn w9 dq) osq = w10 at h10 ⊢
                  clear l0 l1 l2 l3 l4 l5 l6 l7 l8 d0 d1 d2 d3 d4 d5 d6 HUP
                  have HK10 := Lib.hid (HK9.out.bel h10)
                  have HA10 := Lib.hid (HA9.out.bel h10)
                  have HB10 := Lib.hid ((HB9.out.below h10).more h10.size)
                  clear h10
                  obtain ⟨y0, y1, y2, y3, y4, y5, y6, y7, y8⟩ := AW.lift HA10.out hlt HX.out
                  have l0 := cell_regrown y0
                  have l1 := cell_regrown y1
                  have l2 := cell_regrown y2
                  have l3 := cell_regrown y3
                  have l4 := cell_regrown y4
                  have l5 := cell_regrown y5
                  have l6 := cell_regrown y6
                  have l7 := cell_regrown y7
                  have l8 := cell_regrown y8
                  clear y0 y1 y2 y3 y4 y5 y6 y7 y8
                  obtain ⟨y0, y1, y2, y3, y4, y5, y6⟩ := Crane.blk HK10.out
                  have d0 := cell_regrown y0
                  have d1 := cell_regrown y1
                  have d2 := cell_regrown y2
                  have d3 := cell_regrown y3
                  have d4 := cell_regrown y4
                  have d5 := cell_regrown y5
                  have d6 := cell_regrown y6
                  clear y0 y1 y2 y3 y4 y5 y6
                  go_wp2
                  refine wp_region_quiet_below (by kernel_rfl) (by kernel_rfl) ?_
                  repeat (go_big_quiet_step (first | (fail)))
                  refine wpQuiet_nil ?_
                  intro _ hw9
                  obtain ⟨⟨dq, osq⟩, hw9⟩ := hw9
                  subst hw9
                  have h11 := below_regrown w10 dq osq
                  dsimp only at h11 ⊢
                  generalize grow (redrawn w10 dq) osq = w11 at h11 ⊢
                  clear l0 l1 l2 l3 l4 l5 l6 l7 l8 d0 d1 d2 d3 d4 d5 d6
                  have HA11 := Lib.hid (HA10.out.bel h11)
                  have HB11 := Lib.hid ((HB10.out.below h11).more h11.size)
                  clear h11
                  have t0 := AW.row HA11.out hlt HRXX.out
                  have u0 := AW.bit HA11.out (List.mem_of_getElem? HRXX.out) hin (show rxs[i]? = some false by rw [HRV.out, HBIT.out, HAAT.out, HAC.out])
                  dsimp only at t0
                  go_wp2_with fail
                  refine (a2Has_any A5 LA c5 ab (i : Int) w11 w.heap.size HB11.out (by omega)).mono ?_
                  rintro e w12 ⟨rfl, rfl⟩
                  rw [show hasJ ab (i : Int) = false by rw [← HAB.out, HHAS.out]; exact HAC.out]
                  go_wp2
                  go_roundw
                  case rel => exact ⟨i + 1, by omega, by go_num, HA11.out, HB11.out⟩
                  case measure => simp [intOf]; omega
          · obtain rfl : i = n := by omega
            go_wp2
            go_roundw
            case rel => exact ⟨k + 1, by omega, by go_num, HAI.out⟩
            case measure => simp [intOf]; omega
    · obtain rfl : k = m := by omega
      have hbw := haw.below
      go_wp2
      go_ret
      exact ⟨rfl, hbw⟩
end Go.Proofs.Ytnidnmbicnhflaa.lawAbilities
