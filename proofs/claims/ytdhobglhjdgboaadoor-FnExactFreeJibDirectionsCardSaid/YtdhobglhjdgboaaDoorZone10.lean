/- Made by merge.py of XZone7, XZone8, XZone9, XZone10. -/
import Derived.Test.YtdhobglhjdgboaaDoorZone2
import Derived.Test.YtdhobglhjdgboaaDoorFind
/- XZone7: shapeOk and ValidZone of the program: shapeB and zoneOk. -/
namespace Go.Proofs.YtdhobglhjdgboaaDoor
open Go.RowKit Go.Sort
set_option linter.unusedVariables false

set_option maxRecDepth 100000 in
set_option maxHeartbeats 3200000 in
theorem shape2_any (b9 b2 i : Nat) (A : Option Addr) (n c : Nat) (cs : List Pnt) (w : World) (lo : Nat) (hz : w.cell? ⟨b9, 3, none⟩ = some (.slice A n c)) (hb9 : b9 < w.heap.size) (hn2 : w.cell? ⟨b2, 0, none⟩ = some (.int .i64 (n : Int))) (hb2 : b2 < w.heap.size)
    (h : Arr Pnt.cs 2 w lo w.heap.size A n cs) (hn : n ≤ 1048576) (hok : cornersTo cs n = true) (hi : i < n) :
    Calls Tryd.prog 270 #[.int .i64 (i : Int), .agg #[.int .i64 (pt cs i).x, .int .i64 (pt cs i).y], .agg #[.int .i64 (pt cs (nxN n i)).x, .int .i64 (pt cs (nxN n i)).y], .pointer (some ⟨b9, 0, none⟩), .pointer (some ⟨b2, 0, none⟩)] w fun e w' => e = .returned (.bool (rowTo cs i n)) ∧ Below w.heap.size w w' := by
  have HOK := Lib.hid hok
  have HL : Hid (cs.length = n) := h.1
  have HS := Lib.hid (fun (W : World) (k : Nat) (hk : k < n) => side_any (pt cs i) (pt cs (nxN n i)) (pt cs k) W (cornersTo_at hok hi) (cornersTo_at hok (nx_lt (by omega))) (cornersTo_at hok hk))
  have HCR : Hid (∀ k, k < n → crs (pt cs i) (pt cs (nxN n i)) (pt cs k) = crs (pt cs i) (pt cs (nxN cs.length i)) (pt cs k)) := fun k _ => by rw [h.1]
  have HBD : Hid (∀ k, ¬ k = i → ¬ k = nxN n i → badN cs i k = decide (crs (pt cs i) (pt cs (nxN n i)) (pt cs k) ≤ 0)) := fun k h1 h2 => by rw [bad_at h1 (by rw [h.1]; exact h2), h.1]
  have HB2 : Hid (∀ k, k = nxN n i → ¬ k = i → badN cs i k = false) := fun k h1 h2 => bad_no2 h2 (by rw [h.1]; exact h1)
  have hr := nx_rem hi
  have hn0 : ¬ (n : Int) = 0 := by omega
  obtain ⟨W, hW⟩ : ∃ W : World, W = (w.alloc (.cells #[.int .i64 (pt cs i).x, .int .i64 (pt cs i).y] 41)).alloc (.cells #[.int .i64 (pt cs (nxN n i)).x, .int .i64 (pt cs (nxN n i)).y] 41) := ⟨_, rfl⟩
  have B0 : Below w.heap.size w W := by rw [hW]; exact ((Below.refl _ _).alloc (Nat.le_refl _) _).alloc (by simp) _
  have P0 : Blk W w.heap.size 41 #[.int .i64 (pt cs i).x, .int .i64 (pt cs i).y] := by rw [hW]; exact (Blk.new _ _ _).alloc _
  have P1 : Blk W (w.heap.size + 1) 41 #[.int .i64 (pt cs (nxN n i)).x, .int .i64 (pt cs (nxN n i)).y] := by rw [hW]; exact Blk.new_at rfl (by simp)
  have hsW := P1.lt
  have c3 := (B0.cell (p := ⟨b9, 3, none⟩) hb9).trans hz
  have HN2 : Hid (W.cell? ⟨b2, 0, none⟩ = some (.int .i64 (n : Int))) := (B0.cell (p := ⟨b2, 0, none⟩) hb2).trans hn2
  have HA := Lib.hid ((h.below B0).more B0.size)
  have HP0 := Lib.hid P0
  have HP1 := Lib.hid P1
  have HB0 := Lib.hid B0
  generalize nxN n i = j at *
  generalize pt cs j = Q at *
  generalize pt cs i = P at *
  clear h hok hn2 B0 P0 P1 c3
  go_enter Tryd.func270, Tryd.ntmps270
  go_wp2
  rw [← hW]
  clear hW hz
  go_loopw [14, 9, 10] (fun v14 v9 v10 wr => ∃ k : Nat, k ≤ n ∧ v14 = .int .i64 k ∧ rowTo cs i k = true ∧ Below W.heap.size W wr) (fun v14 _ _ _ => n - (intOf v14).toNat)
  case atStart => exact ⟨0, Nat.zero_le _, rfl, rfl, Below.refl _ _⟩
  case round =>
    obtain ⟨k, hk, rfl, ht, hb⟩ := hrel
    have HT := Lib.hid ht
    have hbs := hb.size
    have HBB := Lib.hid (HB0.out.trans (hb.mono HB0.out.size))
    have HA2 := Lib.hid ((HA.out.below hb).more hb.size)
    obtain ⟨a0, a1⟩ := Pnt.blk (HP0.out.bel hb)
    obtain ⟨b0, b1⟩ := Pnt.blk (HP1.out.bel hb)
    have n0 := (hb.cell (p := ⟨b2, 0, none⟩) (show b2 < W.heap.size by have := HB0.out.size; omega)).trans HN2.out
    have hl1 : b2 < wr.heap.size := by have := HB0.out.size; omega
    have hl2 : w.heap.size + 1 < wr.heap.size := by omega
    have hl3 : w.heap.size < wr.heap.size := by omega
    clear ht
    by_cases hlt : k < n
    · have hk0 : (0 : Int) ≤ (k : Int) := by omega
      have hk1 : (k : Int) < (n : Int) := by omega
      obtain ⟨b', off', q, eA, hq, _, hbl, d0, d1⟩ := Pnt.at HA2.out hlt
      have HPK : Hid (pt cs k = q) := pt_at hq
      have HSK : Hid (∀ W, Calls Tryd.prog 116 #[.agg #[.int .i64 P.x, .int .i64 P.y], .agg #[.int .i64 Q.x, .int .i64 Q.y], .agg #[.int .i64 q.x, .int .i64 q.y]] W fun e w' => e = .returned (.int .i64 (crs P Q q)) ∧ Below W.heap.size W w') := fun W => by have := HS.out W k hlt; rwa [HPK.out] at this
      have HBDK : Hid (¬ k = i → ¬ k = j → badN cs i k = decide (crs P Q q ≤ 0)) := fun h1 h2 => by have := HBD.out k h1 h2; rwa [HPK.out] at this
      have hbA : Below wr.heap.size wr (wr.alloc (.cells #[.int .i64 q.x, .int .i64 q.y] 41)) := (Below.refl _ _).alloc (Nat.le_refl _) _
      have HBA := Lib.hid (HBB.out.trans (hbA.mono HBB.out.size))
      have HBA2 := Lib.hid (hb.trans (hbA.mono hb.size))
      subst eA
      clear hq hbA
      by_cases e1 : k = i
      · have HBAD : Hid (badN cs i k = false) := bad_no1 e1
        have E1 : Hid (((k : Int) != (i : Int)) = false) := by show _ = _; simp [e1]
        clear e1
        have e1' := E1.out
        go_wp2
        go_roundw
        case rel => exact ⟨k + 1, by omega, by go_num, row_step HT.out HBAD.out, HBA2.out⟩
        case measure => simp [intOf]; omega
      · have E1 : Hid (((k : Int) != (i : Int)) = true) := bne_iff_ne.2 (by omega)
        by_cases e2 : k = j
        · have HBAD : Hid (badN cs i k = false) := HB2.out k e2 e1
          have E2 : Hid (((k : Int) != (j : Int)) = false) := by show _ = _; simp [e2]
          clear e1 e2
          have e1' := E1.out
          have e2' := E2.out
          go_wp2
          go_roundw
          case rel => exact ⟨k + 1, by omega, by go_num, row_step HT.out HBAD.out, HBA2.out⟩
          case measure => simp [intOf]; omega
        · have E2 : Hid (((k : Int) != (j : Int)) = true) := bne_iff_ne.2 (by omega)
          have HBAD := Lib.hid (HBDK.out e1 e2)
          clear e1 e2
          have e1' := E1.out
          have e2' := E2.out
          generalize crs P Q q = X at *
          by_cases e3 : X ≤ 0
          · have HE : Hid (rowTo cs i n = false) := row_bad hlt (by rw [HBAD.out]; exact decide_eq_true e3)
            go_wp2_with fail
            refine (HSK.out _).mono ?_
            rintro e w5 ⟨rfl, hb5⟩
            go_wp2
            go_ret
            exact ⟨by rw [HE.out]; rfl, HBA.out.trans (hb5.mono HBA.out.size)⟩
          · have HBAD2 : Hid (badN cs i k = false) := HBAD.out.trans (decide_eq_false e3)
            go_wp2_with fail
            refine (HSK.out _).mono ?_
            rintro e w5 ⟨rfl, hb5⟩
            go_wp2
            go_roundw
            case rel => exact ⟨k + 1, by omega, by go_num, row_step HT.out HBAD2.out, HBA2.out.trans (hb5.mono HBA2.out.size)⟩
            case measure => simp [intOf]; omega
    · obtain rfl : k = n := by omega
      have HE := HT
      go_wp2
      go_ret
      exact ⟨by rw [HE.out]; rfl, HBB.out⟩
end Go.Proofs.YtdhobglhjdgboaaDoor
/- XZone8: sides at the closure of shapeOk; shapeOk and ValidZone of the program. -/
namespace Go.Proofs.YtdhobglhjdgboaaDoor
open Go.RowKit Go.Sort
set_option linter.unusedVariables false

set_option maxRecDepth 100000 in
set_option maxHeartbeats 3200000 in
theorem sidesShape_any (z : Zone) (w : World) (lo : Nat) (h : Arr Pnt.cs 2 w lo w.heap.size z.r.a z.r.n z.r.xs) (hn : z.r.n ≤ 1048576) (q : Nat → Bool) (g1 g2 : Addr)
    (hf : ∀ (k : Nat) (W : World), k < z.r.n → Below w.heap.size w W → Calls Tryd.prog 270 #[.int .i64 (k : Int), .agg #[.int .i64 (pt z.r.xs k).x, .int .i64 (pt z.r.xs k).y], .agg #[.int .i64 (pt z.r.xs (nxN z.r.n k)).x, .int .i64 (pt z.r.xs (nxN z.r.n k)).y], .pointer (some g1), .pointer (some g2)] W fun e W' => e = .returned (.bool (q k)) ∧ Below W.heap.size W W') :
    Calls Tryd.prog 172 #[.agg #[.int .i64 z.v.kind, .int .i64 z.v.storeys, .int .i64 z.v.each, .slice z.r.a z.r.n z.r.cap], .func (.func 270) #[] #[.pointer (some g1), .pointer (some g2)]] w fun e w' => e = .returned (.bool (allTo q z.r.n)) ∧ Below w.heap.size w w' := by
  obtain ⟨⟨kind, storeys, each⟩, ⟨A, n, c, cs⟩⟩ := z
  dsimp only at *
  have HF := Lib.hid hf
  obtain ⟨W, hW⟩ : ∃ W : World, W = w.alloc (.cells #[.int .i64 kind, .int .i64 storeys, .int .i64 each, .slice A n c] 127) := ⟨_, rfl⟩
  have B0 : Below w.heap.size w W := by rw [hW]; exact (Below.refl _ _).alloc (Nat.le_refl _) _
  have P0 : Blk W w.heap.size 127 #[.int .i64 kind, .int .i64 storeys, .int .i64 each, .slice A n c] := by rw [hW]; exact Blk.new _ _ _
  have hsW := P0.lt
  have HA := Lib.hid ((h.below B0).more B0.size)
  have HP0 := Lib.hid P0
  have HB0 := Lib.hid B0
  clear h hf B0 P0
  go_enter Tryd.func172, Tryd.ntmps172
  go_wp2
  rw [← hW]
  clear hW
  go_loopw [10, 5, 6] (fun v10 v5 v6 wr => ∃ k : Nat, k ≤ n ∧ v10 = .int .i64 k ∧ allTo q k = true ∧ Below W.heap.size W wr) (fun v10 _ _ _ => n - (intOf v10).toNat)
  case atStart => exact ⟨0, Nat.zero_le _, rfl, rfl, Below.refl _ _⟩
  case round =>
    obtain ⟨k, hk, rfl, ht, hb⟩ := hrel
    have HT := Lib.hid ht
    have hbs := hb.size
    have HBB := Lib.hid (HB0.out.trans (hb.mono HB0.out.size))
    have HA2 := Lib.hid ((HA.out.below hb).more hb.size)
    have HPZ := Lib.hid (HP0.out.bel hb)
    clear ht
    by_cases hlt : k < n
    · have hk0 : (0 : Int) ≤ (k : Int) := by omega
      have hk1 : (k : Int) < (n : Int) := by omega
      obtain ⟨b', off', p, eA, hp, _, hbl, d0, d1⟩ := Pnt.at HA2.out hlt
      obtain ⟨b'', off'', r, eA', hr', _, hbl', f0, f1⟩ := Pnt.at HA2.out (nx_lt (n := n) (k := k) (by omega))
      rw [eA] at eA'
      cases eA'
      have HPK : Hid (pt cs k = p) := pt_at hp
      have HPN : Hid (pt cs (nxN n k) = r) := pt_at hr'
      obtain ⟨W5, hW5⟩ : ∃ W5 : World, W5 = wr.alloc (.cells #[.int .i64 p.x, .int .i64 p.y] 41) := ⟨_, rfl⟩
      have hbA : Below wr.heap.size wr W5 := by rw [hW5]; exact (Below.refl _ _).alloc (Nat.le_refl _) _
      have PQ : Blk W5 wr.heap.size 41 #[.int .i64 p.x, .int .i64 p.y] := by rw [hW5]; exact Blk.new _ _ _
      have HBA := Lib.hid (HBB.out.trans (hbA.mono HBB.out.size))
      have HBA2 := Lib.hid (hb.trans (hbA.mono hb.size))
      have HFK : Hid (∀ d os, Calls Tryd.prog 270 #[.int .i64 (k : Int), .agg #[.int .i64 p.x, .int .i64 p.y], .agg #[.int .i64 r.x, .int .i64 r.y], .pointer (some g1), .pointer (some g2)] (grow (redrawn W5 d) os) fun e W' => e = .returned (.bool (q k)) ∧ Below (grow (redrawn W5 d) os).heap.size (grow (redrawn W5 d) os) W') := fun d os => by
        have h9 := HF.out k (grow (redrawn W5 d) os) hlt (HBA.out.trans ((below_regrown W5 d os).mono HBA.out.size))
        rwa [HPK.out, HPN.out] at h9
      have z3 := cell_regrown (((HPZ.out.bel hbA).cell 3).trans rfl : W5.cell? ⟨w.heap.size, 3, none⟩ = some (.slice A n c))
      obtain ⟨e0, e1⟩ := Pnt.blk PQ
      have e0' := cell_regrown e0
      have e1' := cell_regrown e1
      have r0' := cell_regrown ((hbA.cell (p := ⟨b', off' + nxN n k * 2, none⟩) hbl').trans f0)
      have r1' := cell_regrown ((hbA.cell (p := ⟨b', off' + nxN n k * 2 + 1, none⟩) hbl').trans f1)
      have hrem := nx_rem hlt
      have hjn := nx_lt (n := n) (k := k) (by omega)
      generalize nxN n k = j at *
      have hj0 : (0 : Int) ≤ (j : Int) := by omega
      have hj1 : (j : Int) < (n : Int) := by omega
      have hn0 : ¬ (n : Int) = 0 := by omega
      have HQS : Hid (q k = true → allTo q (k + 1) = true) := fun h9 => allTo_step HT.out h9
      have HQB : Hid (q k = false → allTo q n = false) := fun h9 => allTo_bad hlt h9
      subst eA
      clear hp hr' hbA PQ e0 e1 f0 f1
      cases hq : q k
      · have HE : Hid (allTo q n = false) := HQB.out hq
        rw [hq] at HFK
        clear hq
        go_wp2
        rw [← hW5]
        clear hW5
        refine wp_region_quiet_below (by kernel_rfl) (by kernel_rfl) ?_
        repeat (go_big_quiet_step (first | (go_at_call 270; exact Calls.regrown_of (HFK.out _ _))))
        refine wpQuiet_nil ?_
        intro _ hw9
        obtain ⟨⟨dq, osq⟩, hw9⟩ := hw9
        subst hw9
        have hb5 := below_regrown W5 dq osq
        dsimp only at hb5 ⊢
        generalize grow (redrawn W5 dq) osq = w5 at hb5 ⊢
        go_wp2
        go_ret
        exact ⟨by rw [HE.out]; rfl, HBA.out.trans (hb5.mono HBA.out.size)⟩
      · have HE : Hid (allTo q (k + 1) = true) := HQS.out hq
        rw [hq] at HFK
        clear hq
        go_wp2
        rw [← hW5]
        clear hW5
        refine wp_region_quiet_below (by kernel_rfl) (by kernel_rfl) ?_
        repeat (go_big_quiet_step (first | (go_at_call 270; exact Calls.regrown_of (HFK.out _ _))))
        refine wpQuiet_nil ?_
        intro _ hw9
        obtain ⟨⟨dq, osq⟩, hw9⟩ := hw9
        subst hw9
        have hb5 := below_regrown W5 dq osq
        dsimp only at hb5 ⊢
        generalize grow (redrawn W5 dq) osq = w5 at hb5 ⊢
        go_wp2
        go_roundw
        case rel => exact ⟨k + 1, by omega, by go_num, HE.out, HBA2.out.trans (hb5.mono HBA2.out.size)⟩
        case measure => simp [intOf]; omega
    · obtain rfl : k = n := by omega
      go_wp2
      go_ret
      exact ⟨by rw [HT.out]; rfl, HBB.out⟩
end Go.Proofs.YtdhobglhjdgboaaDoor
/- XZone9: shapeOk and ValidZone of the program: shapeB and zoneOk. -/
namespace Go.Proofs.YtdhobglhjdgboaaDoor
open Go.RowKit Go.Sort
set_option linter.unusedVariables false

set_option maxHeartbeats 800000 in
theorem indexPlc_any (A : Option Addr) (n c : Nat) (ps : List Pnt) (w : World) (lo : Nat) (h : Arr Pnt.cs 2 w lo w.heap.size A n ps) (hn : n ≤ 9223372036854775807) (q : Pnt → Bool)
    (hf : ∀ (p : Pnt) (W : World), p ∈ ps → Below w.heap.size w W → Calls Tryd.prog 269 #[.agg #[.int .i64 p.x, .int .i64 p.y]] W fun e W' => e = .returned (.bool (q p)) ∧ Below W.heap.size W W') :
    Calls Tryd.prog 285 #[.slice A n c, .func (.func 269) #[] #[]] w fun e w' => e = .returned (.int .i64 (fIdx q ps)) ∧ Below w.heap.size w w' := by
  have HF := Lib.hid hf
  clear hf
  go_enter Tryd.func285, Tryd.ntmps285
  go_wp2
  go_loopw [8] (fun i wr => ∃ k : Nat, k ≤ n ∧ i = .int .i64 k ∧ noTo q ps k = true ∧ Below w.heap.size w wr) (fun i _ => n - (intOf i).toNat)
  case atStart => exact ⟨0, Nat.zero_le _, rfl, rfl, Below.refl _ _⟩
  case round =>
    obtain ⟨k, hk, rfl, hno, hb⟩ := hrel
    have HN := Lib.hid hno
    clear hno
    by_cases hlt : k < n
    · obtain ⟨b, off, p, rfl, hx, _, hbl, c0, c1⟩ := Pnt.at (h.below hb) hlt
      have HX := Lib.hid hx
      clear hx
      cases hq : q p
      · have HQ := Lib.hid hq
        go_wp2_with (go_at_call 269; refine (HF.out p _ (List.mem_of_getElem? HX.out) hb).mono ?_; rintro e w1 ⟨rfl, hb1⟩)
        go_roundw
        case rel => exact ⟨k + 1, by omega, by go_num, noTo_step HN.out HX.out HQ.out, hb.trans (hb1.mono hb.size)⟩
        case measure => simp [intOf]; omega
      · have HQ := Lib.hid hq
        go_wp2_with (go_at_call 269; refine (HF.out p _ (List.mem_of_getElem? HX.out) hb).mono ?_; rintro e w1 ⟨rfl, hb1⟩)
        go_ret
        exact ⟨by rw [fIdx_hit HN.out HX.out HQ.out]; rfl, hb.trans (hb1.mono hb.size)⟩
    · obtain rfl : k = n := by omega
      have HE : Hid (fIdx q ps = -1) := fIdx_none (by rw [h.1]; exact HN.out)
      go_wp2
      go_ret
      exact ⟨by rw [HE.out]; rfl, hb⟩

theorem containsPlc_any (A : Option Addr) (n c : Nat) (ps : List Pnt) (w : World) (lo : Nat) (h : Arr Pnt.cs 2 w lo w.heap.size A n ps) (hn : n ≤ 9223372036854775807) (q : Pnt → Bool)
    (hf : ∀ (p : Pnt) (W : World), p ∈ ps → Below w.heap.size w W → Calls Tryd.prog 269 #[.agg #[.int .i64 p.x, .int .i64 p.y]] W fun e W' => e = .returned (.bool (q p)) ∧ Below W.heap.size W W') :
    Calls Tryd.prog 268 #[.slice A n c, .func (.func 269) #[] #[]] w fun e w' => e = .returned (.bool (ps.any q)) ∧ Below w.heap.size w w' := by
  have HF := Lib.hid hf
  clear hf
  have HA : Hid (ps.any q = decide (0 ≤ fIdx q ps)) := any_fIdx q ps
  go_enter Tryd.func268, Tryd.ntmps268
  go_wp2_with fail
  refine (indexPlc_any A n c ps _ lo h hn q HF.out).mono ?_
  rintro e w1 ⟨rfl, hb⟩
  go_wp2
  go_ret
  exact ⟨by rw [HA.out]; rfl, hb⟩

theorem shape1_any (p : Pnt) (w : World) : Calls Tryd.prog 269 #[.agg #[.int .i64 p.x, .int .i64 p.y]] w fun e w' => e = .returned (.bool (!plcB p.x p.y)) ∧ Below w.heap.size w w' := by
  have HQ := Lib.hid (fun W => validPlace_any p.x p.y W)
  go_enter Tryd.func269, Tryd.ntmps269
  go_wp2_with fail
  refine (HQ.out _).mono ?_
  rintro e w1 ⟨rfl, hb1⟩
  go_wp2
  go_ret
  exact ⟨rfl, ((Below.refl _ _).alloc (Nat.le_refl _) _).trans (hb1.mono (by simp))⟩
theorem any_corners (cs : List Pnt) : cs.any (fun p => !plcB p.x p.y) = !cornersTo cs cs.length := by
  rw [Bool.eq_iff_iff, List.any_eq_true, Bool.not_eq_true', Bool.eq_false_iff, Ne, cornersTo, allTo_iff]
  constructor
  · rintro ⟨p, hp, h⟩ h9
    obtain ⟨k, hk, rfl⟩ := List.getElem_of_mem hp
    have := h9 k hk
    rw [pt_at (List.getElem?_eq_getElem hk)] at this
    rw [this] at h; cases h
  · intro h
    apply Classical.byContradiction
    intro h2
    apply h
    intro k hk
    cases hc : plcB (pt cs k).x (pt cs k).y with
    | true => rfl
    | false =>
      exact absurd ⟨cs[k], List.getElem_mem hk, by rw [pt_at (List.getElem?_eq_getElem hk)] at hc; rw [hc]; rfl⟩ h2
set_option maxRecDepth 100000 in
set_option maxHeartbeats 3200000 in
theorem shapeOk_any (z : Zone) (w : World) (lo : Nat) (h : Arr Pnt.cs 2 w lo w.heap.size z.r.a z.r.n z.r.xs) (hn : z.r.n ≤ 1048576) :
    Calls Tryd.prog 233 #[.agg #[.int .i64 z.v.kind, .int .i64 z.v.storeys, .int .i64 z.v.each, .slice z.r.a z.r.n z.r.cap]] w fun e w' => e = .returned (.bool (shapeB z.r.xs)) ∧ Below w.heap.size w w' := by
  have HL : Hid (z.r.xs.length = z.r.n) := h.1
  have HS : Hid (shapeB z.r.xs = (inB z.r.n 3 12 && (cornersTo z.r.xs z.r.n && turnsTo z.r.xs z.r.n))) := by show _ = _; unfold shapeB; rw [h.1]
  have HAN : Hid (z.r.xs.any (fun p => !plcB p.x p.y) = !cornersTo z.r.xs z.r.n) := by show _ = _; rw [any_corners, h.1]
  have HZ1 := Lib.hid (fun (W : World) (lo2 : Nat) (h2 : Arr Pnt.cs 2 W lo2 W.heap.size z.r.a z.r.n z.r.xs) => containsPlc_any z.r.a z.r.n z.r.cap z.r.xs W lo2 h2 (by omega) (fun p => !plcB p.x p.y) (fun p W' _ _ => shape1_any p W'))
  have HZS := Lib.hid (fun (W : World) (lo2 : Nat) (h2 : Arr Pnt.cs 2 W lo2 W.heap.size z.r.a z.r.n z.r.xs) q g1 g2 hf => sidesShape_any z W lo2 h2 hn q g1 g2 hf)
  obtain ⟨⟨kind, storeys, each⟩, ⟨A, n, c, cs⟩⟩ := z
  dsimp only at *
  obtain ⟨W, hW⟩ : ∃ W : World, W = (w.alloc (.cells #[.int .i64 kind, .int .i64 storeys, .int .i64 each, .slice A n c] 127)).alloc (.cells #[.int .i64 (n : Int)] 3) := ⟨_, rfl⟩
  have B0 : Below w.heap.size w W := by rw [hW]; exact ((Below.refl _ _).alloc (Nat.le_refl _) _).alloc (by simp) _
  have P0 : Blk W w.heap.size 127 #[.int .i64 kind, .int .i64 storeys, .int .i64 each, .slice A n c] := by rw [hW]; exact (Blk.new _ _ _).alloc _
  have P1 : Blk W (w.heap.size + 1) 3 #[.int .i64 (n : Int)] := by rw [hW]; exact Blk.new_at rfl (by simp)
  have hsW := P1.lt
  have HA := Lib.hid ((h.below B0).more B0.size)
  have HP0 := Lib.hid P0
  have HP1 := Lib.hid P1
  have HB0 := Lib.hid B0
  clear h B0 P0 P1
  by_cases h3 : (n : Int) < 3
  · have HE : Hid (shapeB cs = false) := by show _ = _; rw [HS.out, show inB (n : Int) 3 12 = false from inB_false.2 (.inl h3)]; rfl
    go_enter Tryd.func233, Tryd.ntmps233
    go_wp2
    go_ret
    rw [← hW]
    exact ⟨by rw [HE.out]; rfl, HB0.out⟩
  · by_cases h12 : 12 < (n : Int)
    · have HE : Hid (shapeB cs = false) := by show _ = _; rw [HS.out, show inB (n : Int) 3 12 = false from inB_false.2 (.inr h12)]; rfl
      go_enter Tryd.func233, Tryd.ntmps233
      go_wp2
      go_ret
      rw [← hW]
      exact ⟨by rw [HE.out]; rfl, HB0.out⟩
    · have HSB : Hid (shapeB cs = (cornersTo cs n && turnsTo cs n)) := by show _ = _; rw [HS.out, show inB (n : Int) 3 12 = true from inB_true.2 (by omega)]; rfl
      have hn12 : n ≤ 12 := by omega
      cases hc : cornersTo cs n
      · have HE : Hid (shapeB cs = false) := by show _ = _; rw [HSB.out, hc]; rfl
        rw [hc] at HAN
        go_enter Tryd.func233, Tryd.ntmps233
        go_wp2_with fail
        rw [← hW]
        refine (HZ1.out W lo HA.out).mono ?_
        rintro e w1 ⟨rfl, hb1⟩
        rw [HAN.out]
        go_wp2
        go_ret
        exact ⟨by rw [HE.out]; rfl, HB0.out.trans (hb1.mono HB0.out.size)⟩
      · have HE : Hid (shapeB cs = turnsTo cs n) := by show _ = _; rw [HSB.out, hc]; rfl
        have HT : Hid (turnsTo cs n = allTo (fun k => rowTo cs k n) n) := by show _ = _; unfold turnsTo; rw [HL.out]
        rw [hc] at HAN
        have HC := Lib.hid hc
        clear hc
        go_enter Tryd.func233, Tryd.ntmps233
        go_wp2_with fail
        rw [← hW]
        clear hW
        refine (HZ1.out W lo HA.out).mono ?_
        rintro e w1 ⟨rfl, hb1⟩
        rw [HAN.out]
        have HB1 := Lib.hid (HB0.out.trans (hb1.mono HB0.out.size))
        have HA1 := Lib.hid ((HA.out.below hb1).more hb1.size)
        have HP01 := Lib.hid (HP0.out.bel hb1)
        have HP11 := Lib.hid (HP1.out.bel hb1)
        have hs1 := HP11.out.lt
        have z0 : w1.cell? ⟨w.heap.size, 0, none⟩ = some (.int .i64 kind) := (HP01.out.cell 0).trans rfl
        have z1 : w1.cell? ⟨w.heap.size, 1, none⟩ = some (.int .i64 storeys) := (HP01.out.cell 1).trans rfl
        have z2 : w1.cell? ⟨w.heap.size, 2, none⟩ = some (.int .i64 each) := (HP01.out.cell 2).trans rfl
        have z3 : w1.cell? ⟨w.heap.size, 3, none⟩ = some (.slice A n c) := (HP01.out.cell 3).trans rfl
        clear hb1
        go_wp2_with fail
        refine (HZS.out w1 lo HA1.out (fun k => rowTo cs k n) _ _ (fun k X hk hX => shape2_any w.heap.size (w.heap.size + 1) k A n c cs X lo ((hX.cell (p := ⟨w.heap.size, 3, none⟩) (show w.heap.size < w1.heap.size by omega)).trans z3) (by have := hX.size; omega) ((hX.cell (p := ⟨w.heap.size + 1, 0, none⟩) hs1).trans ((HP11.out.cell 0).trans rfl)) (by have := hX.size; omega) ((HA1.out.below hX).more hX.size) hn HC.out hk)).mono ?_
        rintro e w2 ⟨rfl, hb2⟩
        go_wp2
        go_ret
        exact ⟨by rw [HE.out, HT.out]; rfl, HB1.out.trans (hb2.mono HB1.out.size)⟩
end Go.Proofs.YtdhobglhjdgboaaDoor
/- XZone10: ValidZone of the program: zoneOk. -/
namespace Go.Proofs.YtdhobglhjdgboaaDoor
open Go.RowKit Go.Sort
set_option linter.unusedVariables false

theorem within5_eq (n a b : Int) (w : World) {v : Bool} (h : inB n a b = v) : Calls Tryd.prog 113 #[.int .i64 n, .int .i64 a, .int .i64 b] w fun e w' => e = .returned (.bool v) ∧ w = w' := by subst h; exact within_any n a b w
set_option maxRecDepth 100000 in
set_option maxHeartbeats 3200000 in
theorem validZone_any (z : Zone) (w : World) (lo : Nat) (h : Arr Pnt.cs 2 w lo w.heap.size z.r.a z.r.n z.r.xs) (hn : z.r.n ≤ 1048576) :
    Calls Tryd.prog 170 #[.agg #[.int .i64 z.v.kind, .int .i64 z.v.storeys, .int .i64 z.v.each, .slice z.r.a z.r.n z.r.cap]] w fun e w' => e = .returned (.bool (zoneOk z.val)) ∧ Below w.heap.size w w' := by
  have HO : Hid (zoneOk z.val = (zHd z.v && shapeB z.r.xs)) := rfl
  have HHD : Hid (zHd z.v = if z.v.kind = 1 then bldB z.v else (decide (z.v.kind = 2) || decide (z.v.kind = 3)) && nilB z.v) := rfl
  have HBL : Hid (bldB z.v = (inB z.v.storeys 1 60 && (inB z.v.each 20 60 && decide (z.v.storeys * z.v.each ≤ 2000)))) := rfl
  have HNL : Hid (nilB z.v = (decide (z.v.storeys = 0) && decide (z.v.each = 0))) := rfl
  have HSH := Lib.hid (fun (W : World) (h2 : Arr Pnt.cs 2 W lo W.heap.size z.r.a z.r.n z.r.xs) => shapeOk_any z W lo h2 hn)
  obtain ⟨⟨kind, storeys, each⟩, ⟨A, n, c, cs⟩⟩ := z
  dsimp only at *
  obtain ⟨W, hW⟩ : ∃ W : World, W = w.alloc (.cells #[.int .i64 kind, .int .i64 storeys, .int .i64 each, .slice A n c] 127) := ⟨_, rfl⟩
  have B0 : Below w.heap.size w W := by rw [hW]; exact (Below.refl _ _).alloc (Nat.le_refl _) _
  have HA := Lib.hid ((h.below B0).more B0.size)
  have HB0 := Lib.hid B0
  clear h B0
  have HHD2 : Hid (zHd ⟨kind, storeys, each⟩ = if kind = 1 then bldB ⟨kind, storeys, each⟩ else (decide (kind = 2) || decide (kind = 3)) && nilB ⟨kind, storeys, each⟩) := HHD.out
  clear HHD
  generalize shapeB cs = SB at *
  by_cases e1 : kind = 1
  · have HB2 : Hid (zHd ⟨kind, storeys, each⟩ = (inB storeys 1 60 && (inB each 20 60 && decide (storeys * each ≤ 2000)))) := by show _ = _; rw [HHD2.out, if_pos e1]; exact HBL.out
    subst e1
    cases f1 : inB storeys 1 60
    · have HE : Hid (zoneOk (Zone.val ⟨⟨1, storeys, each⟩, ⟨A, n, c, cs⟩⟩) = false) := by show _ = _; rw [HO.out, HB2.out, f1]; rfl
      have F1 := Lib.hid f1
      clear f1
      go_enter Tryd.func170, Tryd.ntmps170
      go_wp2_with fail
      refine (within5_eq _ _ _ _ F1.out).mono ?_
      rintro _ _ ⟨rfl, rfl⟩
      go_wp2
      go_ret
      rw [← hW]
      exact ⟨by rw [HE.out]; rfl, HB0.out⟩
    · cases f2 : inB each 20 60
      · have HE : Hid (zoneOk (Zone.val ⟨⟨1, storeys, each⟩, ⟨A, n, c, cs⟩⟩) = false) := by show _ = _; rw [HO.out, HB2.out, f2]; simp
        have F1 := Lib.hid f1
        have F2 := Lib.hid f2
        clear f1 f2
        go_enter Tryd.func170, Tryd.ntmps170
        go_wp2_with fail
        refine (within5_eq _ _ _ _ F1.out).mono ?_
        rintro _ _ ⟨rfl, rfl⟩
        go_wp2_with fail
        refine (within5_eq _ _ _ _ F2.out).mono ?_
        rintro _ _ ⟨rfl, rfl⟩
        go_wp2
        go_ret
        rw [← hW]
        exact ⟨by rw [HE.out]; rfl, HB0.out⟩
      · have g1 := inB_true.1 f1
        have g2 := inB_true.1 f2
        have g3 : 0 ≤ storeys * each := Int.mul_nonneg (by omega) (by omega)
        have g4 : storeys * each ≤ 3600 := Int.mul_le_mul (c := 60) (d := 60) g1.2 g2.2 (by omega) (by omega)
        have HB3 : Hid (zHd ⟨1, storeys, each⟩ = decide (storeys * each ≤ 2000)) := by show _ = _; rw [HB2.out, f1, f2]; rfl
        have F1 := Lib.hid f1
        have F2 := Lib.hid f2
        clear f1 f2 g1 g2
        by_cases f3 : 2000 < storeys * each
        · have HE : Hid (zoneOk (Zone.val ⟨⟨1, storeys, each⟩, ⟨A, n, c, cs⟩⟩) = false) := by show _ = _; rw [HO.out, HB3.out, decide_eq_false (by omega)]; rfl
          go_enter Tryd.func170, Tryd.ntmps170
          go_wp2_with fail
          refine (within5_eq _ _ _ _ F1.out).mono ?_
          rintro _ _ ⟨rfl, rfl⟩
          go_wp2_with fail
          refine (within5_eq _ _ _ _ F2.out).mono ?_
          rintro _ _ ⟨rfl, rfl⟩
          go_wp2
          go_ret
          rw [← hW]
          exact ⟨by rw [HE.out]; rfl, HB0.out⟩
        · have HE : Hid (zoneOk (Zone.val ⟨⟨1, storeys, each⟩, ⟨A, n, c, cs⟩⟩) = SB) := by show _ = _; rw [HO.out, HB3.out, decide_eq_true (by omega)]; rfl
          go_enter Tryd.func170, Tryd.ntmps170
          go_wp2_with fail
          refine (within5_eq _ _ _ _ F1.out).mono ?_
          rintro _ _ ⟨rfl, rfl⟩
          go_wp2_with fail
          refine (within5_eq _ _ _ _ F2.out).mono ?_
          rintro _ _ ⟨rfl, rfl⟩
          go_wp2_with fail
          rw [← hW]
          refine (HSH.out W HA.out).mono ?_
          rintro e w1 ⟨rfl, hb1⟩
          go_wp2
          go_ret
          exact ⟨by rw [HE.out]; rfl, HB0.out.trans (hb1.mono HB0.out.size)⟩
  · have E1 : Hid ((kind == 1) = false) := beq_eq_false_iff_ne.2 e1
    have HB2 : Hid (zHd ⟨kind, storeys, each⟩ = ((decide (kind = 2) || decide (kind = 3)) && nilB ⟨kind, storeys, each⟩)) := by show _ = _; rw [HHD2.out, if_neg e1]
    have key : ∀ (k2 : Bool), ((kind == 2) = k2) → (k2 = false → (kind == 3) = true) → Calls Tryd.prog 170 #[.agg #[.int .i64 kind, .int .i64 storeys, .int .i64 each, .slice A n c]] w fun e w' => e = .returned (.bool (zoneOk (Zone.val ⟨⟨kind, storeys, each⟩, ⟨A, n, c, cs⟩⟩))) ∧ Below w.heap.size w w' := by
      intro k2 h2 h3
      have HB3 : Hid (zHd ⟨kind, storeys, each⟩ = (decide (storeys = 0) && decide (each = 0))) := by
        show _ = _
        rw [HB2.out, HNL.out]
        cases k2
        · rw [decide_eq_true (show kind = 3 from by simpa using h3 rfl)]; simp
        · rw [decide_eq_true (show kind = 2 from by simpa using h2)]; simp
      clear e1
      have H2 := Lib.hid h2
      have H3 := Lib.hid h3
      clear h2 h3
      by_cases s0 : storeys = 0
      · have S0 : Hid ((storeys != 0) = false) := by show _ = _; simp [s0]
        by_cases c0 : each = 0
        · have C0 : Hid ((each != 0) = false) := by show _ = _; simp [c0]
          have HE : Hid (zoneOk (Zone.val ⟨⟨kind, storeys, each⟩, ⟨A, n, c, cs⟩⟩) = SB) := by show _ = _; rw [HO.out, HB3.out, decide_eq_true s0, decide_eq_true c0]; rfl
          clear s0 c0
          have e1' := E1.out
          have s' := S0.out
          have c' := C0.out
          cases k2
          · have k2' := H2.out
            have k3' := H3.out rfl
            go_enter Tryd.func170, Tryd.ntmps170
            go_wp2_with fail
            rw [← hW]
            refine (HSH.out W HA.out).mono ?_
            rintro e w1 ⟨rfl, hb1⟩
            go_wp2
            go_ret
            exact ⟨by rw [HE.out]; rfl, HB0.out.trans (hb1.mono HB0.out.size)⟩
          · have k2' := H2.out
            go_enter Tryd.func170, Tryd.ntmps170
            go_wp2_with fail
            rw [← hW]
            refine (HSH.out W HA.out).mono ?_
            rintro e w1 ⟨rfl, hb1⟩
            go_wp2
            go_ret
            exact ⟨by rw [HE.out]; rfl, HB0.out.trans (hb1.mono HB0.out.size)⟩
        · have C0 : Hid ((each != 0) = true) := bne_iff_ne.2 c0
          have HE : Hid (zoneOk (Zone.val ⟨⟨kind, storeys, each⟩, ⟨A, n, c, cs⟩⟩) = false) := by show _ = _; rw [HO.out, HB3.out, decide_eq_false c0, Bool.and_false]; rfl
          clear s0 c0
          have e1' := E1.out
          have s' := S0.out
          have c' := C0.out
          cases k2
          · have k2' := H2.out
            have k3' := H3.out rfl
            go_enter Tryd.func170, Tryd.ntmps170
            go_wp2
            go_ret
            rw [← hW]
            exact ⟨by rw [HE.out]; rfl, HB0.out⟩
          · have k2' := H2.out
            go_enter Tryd.func170, Tryd.ntmps170
            go_wp2
            go_ret
            rw [← hW]
            exact ⟨by rw [HE.out]; rfl, HB0.out⟩
      · have S0 : Hid ((storeys != 0) = true) := bne_iff_ne.2 s0
        have HE : Hid (zoneOk (Zone.val ⟨⟨kind, storeys, each⟩, ⟨A, n, c, cs⟩⟩) = false) := by show _ = _; rw [HO.out, HB3.out, decide_eq_false s0, Bool.false_and]; rfl
        clear s0
        have e1' := E1.out
        have s' := S0.out
        cases k2
        · have k2' := H2.out
          have k3' := H3.out rfl
          go_enter Tryd.func170, Tryd.ntmps170
          go_wp2
          go_ret
          rw [← hW]
          exact ⟨by rw [HE.out]; rfl, HB0.out⟩
        · have k2' := H2.out
          go_enter Tryd.func170, Tryd.ntmps170
          go_wp2
          go_ret
          rw [← hW]
          exact ⟨by rw [HE.out]; rfl, HB0.out⟩
    by_cases e2 : kind = 2
    · exact key true (by simp [e2]) (fun h9 => by cases h9)
    · by_cases e3 : kind = 3
      · exact key false (beq_eq_false_iff_ne.2 e2) (fun _ => by simp [e3])
      · have HE : Hid (zoneOk (Zone.val ⟨⟨kind, storeys, each⟩, ⟨A, n, c, cs⟩⟩) = false) := by show _ = _; rw [HO.out, HB2.out, decide_eq_false e2, decide_eq_false e3]; rfl
        have E2 : Hid ((kind == 2) = false) := beq_eq_false_iff_ne.2 e2
        have E3 : Hid ((kind == 3) = false) := beq_eq_false_iff_ne.2 e3
        clear e1 e2 e3 key
        have e1' := E1.out
        have e2' := E2.out
        have e3' := E3.out
        go_enter Tryd.func170, Tryd.ntmps170
        go_wp2
        go_ret
        rw [← hW]
        exact ⟨by rw [HE.out]; rfl, HB0.out⟩
end Go.Proofs.YtdhobglhjdgboaaDoor
