/- sides at the closure of shapeOk; shapeOk and ValidZone of the program. -/
import Derived.Test.YtencnldflnbdiaaZone7
namespace Go.Proofs.Ytencnldflnbdiaa
open Go.RowKit Go.Sort
set_option linter.unusedVariables false

set_option maxRecDepth 100000 in
set_option maxHeartbeats 3200000 in
theorem sidesShape_any (z : Zone) (w : World) (lo : Nat) (h : Arr Pnt.cs 2 w lo w.heap.size z.r.a z.r.n z.r.xs) (hn : z.r.n ≤ 1048576) (q : Nat → Bool) (g1 g2 : Addr)
    (hf : ∀ (k : Nat) (W : World), k < z.r.n → Below w.heap.size w W → Calls Try.prog 116 #[.int .i64 (k : Int), .agg #[.int .i64 (pt z.r.xs k).x, .int .i64 (pt z.r.xs k).y], .agg #[.int .i64 (pt z.r.xs (nxN z.r.n k)).x, .int .i64 (pt z.r.xs (nxN z.r.n k)).y], .pointer (some g1), .pointer (some g2)] W fun e W' => e = .returned (.bool (q k)) ∧ Below W.heap.size W W') :
    Calls Try.prog 85 #[.agg #[.int .i64 z.v.kind, .int .i64 z.v.storeys, .int .i64 z.v.each, .slice z.r.a z.r.n z.r.cap], .func (.func 116) #[] #[.pointer (some g1), .pointer (some g2)]] w fun e w' => e = .returned (.bool (allTo q z.r.n)) ∧ Below w.heap.size w w' := by
  obtain ⟨⟨kind, storeys, each⟩, ⟨A, n, c, cs⟩⟩ := z
  dsimp only at *
  have HF := Lib.hid hf
  obtain ⟨W, hW⟩ : ∃ W : World, W = w.alloc (.cells #[.int .i64 kind, .int .i64 storeys, .int .i64 each, .slice A n c] 48) := ⟨_, rfl⟩
  have B0 : Below w.heap.size w W := by rw [hW]; exact (Below.refl _ _).alloc (Nat.le_refl _) _
  have P0 : Blk W w.heap.size 48 #[.int .i64 kind, .int .i64 storeys, .int .i64 each, .slice A n c] := by rw [hW]; exact Blk.new _ _ _
  have hsW := P0.lt
  have HA := Lib.hid ((h.below B0).more B0.size)
  have HP0 := Lib.hid P0
  have HB0 := Lib.hid B0
  clear h hf B0 P0
  go_enter Try.func85, Try.ntmps85
  go_wp2
  rw [← hW]
  clear hW
  go_loopw [10, 5, 6] (fun v10 v5 v6 wr => ∃ k : Nat, k ≤ n ∧ v10 = .int .i64 k ∧ allTo q k = true ∧ Below W.heap.size W wr) (fun v10 _ _ _ => n - (intOf v10).toNat)
  case atStart => exact ⟨0, Nat.zero_le _, rfl, rfl, Below.refl _ _⟩
  case round =>
    obtain ⟨k, hk, rfl, ht, hb⟩ := hrel
    have HT := Lib.hid ht
    have hbs := hb.size
    have HBB := Lib.hid (HB0.out.trans (hb.mono HB0.out.size))
    have HA2 := Lib.hid ((HA.out.below hb).more hb.size)
    have HPZ := Lib.hid (HP0.out.bel hb)
    clear ht
    by_cases hlt : k < n
    · have hk0 : (0 : Int) ≤ (k : Int) := by omega
      have hk1 : (k : Int) < (n : Int) := by omega
      obtain ⟨b', off', p, eA, hp, _, hbl, d0, d1⟩ := Pnt.at HA2.out hlt
      obtain ⟨b'', off'', r, eA', hr', _, hbl', f0, f1⟩ := Pnt.at HA2.out (nx_lt (n := n) (k := k) (by omega))
      rw [eA] at eA'
      cases eA'
      have HPK : Hid (pt cs k = p) := pt_at hp
      have HPN : Hid (pt cs (nxN n k) = r) := pt_at hr'
      obtain ⟨W5, hW5⟩ : ∃ W5 : World, W5 = wr.alloc (.cells #[.int .i64 p.x, .int .i64 p.y] 50) := ⟨_, rfl⟩
      have hbA : Below wr.heap.size wr W5 := by rw [hW5]; exact (Below.refl _ _).alloc (Nat.le_refl _) _
      have PQ : Blk W5 wr.heap.size 50 #[.int .i64 p.x, .int .i64 p.y] := by rw [hW5]; exact Blk.new _ _ _
      have HBA := Lib.hid (HBB.out.trans (hbA.mono HBB.out.size))
      have HBA2 := Lib.hid (hb.trans (hbA.mono hb.size))
      have HFK : Hid (∀ d os, Calls Try.prog 116 #[.int .i64 (k : Int), .agg #[.int .i64 p.x, .int .i64 p.y], .agg #[.int .i64 r.x, .int .i64 r.y], .pointer (some g1), .pointer (some g2)] (grow (redrawn W5 d) os) fun e W' => e = .returned (.bool (q k)) ∧ Below (grow (redrawn W5 d) os).heap.size (grow (redrawn W5 d) os) W') := fun d os => by
        have h9 := HF.out k (grow (redrawn W5 d) os) hlt (HBA.out.trans ((below_regrown W5 d os).mono HBA.out.size))
        rwa [HPK.out, HPN.out] at h9
      have z3 := cell_regrown (((HPZ.out.bel hbA).cell 3).trans rfl : W5.cell? ⟨w.heap.size, 3, none⟩ = some (.slice A n c))
      obtain ⟨e0, e1⟩ := Pnt.blk PQ
      have e0' := cell_regrown e0
      have e1' := cell_regrown e1
      have r0' := cell_regrown ((hbA.cell (p := ⟨b', off' + nxN n k * 2, none⟩) hbl').trans f0)
      have r1' := cell_regrown ((hbA.cell (p := ⟨b', off' + nxN n k * 2 + 1, none⟩) hbl').trans f1)
      have hrem := nx_rem hlt
      have hjn := nx_lt (n := n) (k := k) (by omega)
      generalize nxN n k = j at *
      have hj0 : (0 : Int) ≤ (j : Int) := by omega
      have hj1 : (j : Int) < (n : Int) := by omega
      have hn0 : ¬ (n : Int) = 0 := by omega
      have HQS : Hid (q k = true → allTo q (k + 1) = true) := fun h9 => allTo_step HT.out h9
      have HQB : Hid (q k = false → allTo q n = false) := fun h9 => allTo_bad hlt h9
      subst eA
      clear hp hr' hbA PQ e0 e1 f0 f1
      cases hq : q k
      · have HE : Hid (allTo q n = false) := HQB.out hq
        rw [hq] at HFK
        clear hq
        go_wp2
        rw [← hW5]
        clear hW5
        refine wp_region_quiet_below (by kernel_rfl) (by kernel_rfl) ?_
        repeat (go_big_quiet_step (first | (go_at_call 116; exact Calls.regrown_of (HFK.out _ _))))
        refine wpQuiet_nil ?_
        intro _ hw9
        obtain ⟨⟨dq, osq⟩, hw9⟩ := hw9
        subst hw9
        have hb5 := below_regrown W5 dq osq
        dsimp only at hb5 ⊢
        generalize grow (redrawn W5 dq) osq = w5 at hb5 ⊢
        go_wp2
        go_ret
        exact ⟨by rw [HE.out]; rfl, HBA.out.trans (hb5.mono HBA.out.size)⟩
      · have HE : Hid (allTo q (k + 1) = true) := HQS.out hq
        rw [hq] at HFK
        clear hq
        go_wp2
        rw [← hW5]
        clear hW5
        refine wp_region_quiet_below (by kernel_rfl) (by kernel_rfl) ?_
        repeat (go_big_quiet_step (first | (go_at_call 116; exact Calls.regrown_of (HFK.out _ _))))
        refine wpQuiet_nil ?_
        intro _ hw9
        obtain ⟨⟨dq, osq⟩, hw9⟩ := hw9
        subst hw9
        have hb5 := below_regrown W5 dq osq
        dsimp only at hb5 ⊢
        generalize grow (redrawn W5 dq) osq = w5 at hb5 ⊢
        go_wp2
        go_roundw
        case rel => exact ⟨k + 1, by omega, by go_num, HE.out, HBA2.out.trans (hb5.mono HBA2.out.size)⟩
        case measure => simp [intOf]; omega
    · obtain rfl : k = n := by omega
      go_wp2
      go_ret
      exact ⟨by rw [HT.out]; rfl, HBB.out⟩
end Go.Proofs.Ytencnldflnbdiaa
