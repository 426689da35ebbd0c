/- shapeOk and ValidZone of the program: shapeB and zoneOk. -/
import Derived.Test.YtencnldflnbdiaaZone2
import Derived.Test.YtencnldflnbdiaaFind
namespace Go.Proofs.Ytencnldflnbdiaa
open Go.RowKit Go.Sort
set_option linter.unusedVariables false

set_option maxRecDepth 100000 in
set_option maxHeartbeats 3200000 in
theorem shape2_any (b9 b2 i : Nat) (A : Option Addr) (n c : Nat) (cs : List Pnt) (w : World) (lo : Nat) (hz : w.cell? ⟨b9, 3, none⟩ = some (.slice A n c)) (hb9 : b9 < w.heap.size) (hn2 : w.cell? ⟨b2, 0, none⟩ = some (.int .i64 (n : Int))) (hb2 : b2 < w.heap.size)
    (h : Arr Pnt.cs 2 w lo w.heap.size A n cs) (hn : n ≤ 1048576) (hok : cornersTo cs n = true) (hi : i < n) :
    Calls Try.prog 116 #[.int .i64 (i : Int), .agg #[.int .i64 (pt cs i).x, .int .i64 (pt cs i).y], .agg #[.int .i64 (pt cs (nxN n i)).x, .int .i64 (pt cs (nxN n i)).y], .pointer (some ⟨b9, 0, none⟩), .pointer (some ⟨b2, 0, none⟩)] w fun e w' => e = .returned (.bool (rowTo cs i n)) ∧ Below w.heap.size w w' := by
  have HOK := Lib.hid hok
  have HL : Hid (cs.length = n) := h.1
  have HS := Lib.hid (fun (W : World) (k : Nat) (hk : k < n) => side_any (pt cs i) (pt cs (nxN n i)) (pt cs k) W (cornersTo_at hok hi) (cornersTo_at hok (nx_lt (by omega))) (cornersTo_at hok hk))
  have HCR : Hid (∀ k, k < n → crs (pt cs i) (pt cs (nxN n i)) (pt cs k) = crs (pt cs i) (pt cs (nxN cs.length i)) (pt cs k)) := fun k _ => by rw [h.1]
  have HBD : Hid (∀ k, ¬ k = i → ¬ k = nxN n i → badN cs i k = decide (crs (pt cs i) (pt cs (nxN n i)) (pt cs k) ≤ 0)) := fun k h1 h2 => by rw [bad_at h1 (by rw [h.1]; exact h2), h.1]
  have HB2 : Hid (∀ k, k = nxN n i → ¬ k = i → badN cs i k = false) := fun k h1 h2 => bad_no2 h2 (by rw [h.1]; exact h1)
  have hr := nx_rem hi
  have hn0 : ¬ (n : Int) = 0 := by omega
  obtain ⟨W, hW⟩ : ∃ W : World, W = (w.alloc (.cells #[.int .i64 (pt cs i).x, .int .i64 (pt cs i).y] 50)).alloc (.cells #[.int .i64 (pt cs (nxN n i)).x, .int .i64 (pt cs (nxN n i)).y] 50) := ⟨_, rfl⟩
  have B0 : Below w.heap.size w W := by rw [hW]; exact ((Below.refl _ _).alloc (Nat.le_refl _) _).alloc (by simp) _
  have P0 : Blk W w.heap.size 50 #[.int .i64 (pt cs i).x, .int .i64 (pt cs i).y] := by rw [hW]; exact (Blk.new _ _ _).alloc _
  have P1 : Blk W (w.heap.size + 1) 50 #[.int .i64 (pt cs (nxN n i)).x, .int .i64 (pt cs (nxN n i)).y] := by rw [hW]; exact Blk.new_at rfl (by simp)
  have hsW := P1.lt
  have c3 := (B0.cell (p := ⟨b9, 3, none⟩) hb9).trans hz
  have HN2 : Hid (W.cell? ⟨b2, 0, none⟩ = some (.int .i64 (n : Int))) := (B0.cell (p := ⟨b2, 0, none⟩) hb2).trans hn2
  have HA := Lib.hid ((h.below B0).more B0.size)
  have HP0 := Lib.hid P0
  have HP1 := Lib.hid P1
  have HB0 := Lib.hid B0
  generalize nxN n i = j at *
  generalize pt cs j = Q at *
  generalize pt cs i = P at *
  clear h hok hn2 B0 P0 P1 c3
  go_enter Try.func116, Try.ntmps116
  go_wp2
  rw [← hW]
  clear hW hz
  go_loopw [14, 9, 10] (fun v14 v9 v10 wr => ∃ k : Nat, k ≤ n ∧ v14 = .int .i64 k ∧ rowTo cs i k = true ∧ Below W.heap.size W wr) (fun v14 _ _ _ => n - (intOf v14).toNat)
  case atStart => exact ⟨0, Nat.zero_le _, rfl, rfl, Below.refl _ _⟩
  case round =>
    obtain ⟨k, hk, rfl, ht, hb⟩ := hrel
    have HT := Lib.hid ht
    have hbs := hb.size
    have HBB := Lib.hid (HB0.out.trans (hb.mono HB0.out.size))
    have HA2 := Lib.hid ((HA.out.below hb).more hb.size)
    obtain ⟨a0, a1⟩ := Pnt.blk (HP0.out.bel hb)
    obtain ⟨b0, b1⟩ := Pnt.blk (HP1.out.bel hb)
    have n0 := (hb.cell (p := ⟨b2, 0, none⟩) (show b2 < W.heap.size by have := HB0.out.size; omega)).trans HN2.out
    have hl1 : b2 < wr.heap.size := by have := HB0.out.size; omega
    have hl2 : w.heap.size + 1 < wr.heap.size := by omega
    have hl3 : w.heap.size < wr.heap.size := by omega
    clear ht
    by_cases hlt : k < n
    · have hk0 : (0 : Int) ≤ (k : Int) := by omega
      have hk1 : (k : Int) < (n : Int) := by omega
      obtain ⟨b', off', q, eA, hq, _, hbl, d0, d1⟩ := Pnt.at HA2.out hlt
      have HPK : Hid (pt cs k = q) := pt_at hq
      have HSK : Hid (∀ W, Calls Try.prog 87 #[.agg #[.int .i64 P.x, .int .i64 P.y], .agg #[.int .i64 Q.x, .int .i64 Q.y], .agg #[.int .i64 q.x, .int .i64 q.y]] W fun e w' => e = .returned (.int .i64 (crs P Q q)) ∧ Below W.heap.size W w') := fun W => by have := HS.out W k hlt; rwa [HPK.out] at this
      have HBDK : Hid (¬ k = i → ¬ k = j → badN cs i k = decide (crs P Q q ≤ 0)) := fun h1 h2 => by have := HBD.out k h1 h2; rwa [HPK.out] at this
      have hbA : Below wr.heap.size wr (wr.alloc (.cells #[.int .i64 q.x, .int .i64 q.y] 50)) := (Below.refl _ _).alloc (Nat.le_refl _) _
      have HBA := Lib.hid (HBB.out.trans (hbA.mono HBB.out.size))
      have HBA2 := Lib.hid (hb.trans (hbA.mono hb.size))
      subst eA
      clear hq hbA
      by_cases e1 : k = i
      · have HBAD : Hid (badN cs i k = false) := bad_no1 e1
        have E1 : Hid (((k : Int) != (i : Int)) = false) := by show _ = _; simp [e1]
        clear e1
        have e1' := E1.out
        go_wp2
        go_roundw
        case rel => exact ⟨k + 1, by omega, by go_num, row_step HT.out HBAD.out, HBA2.out⟩
        case measure => simp [intOf]; omega
      · have E1 : Hid (((k : Int) != (i : Int)) = true) := bne_iff_ne.2 (by omega)
        by_cases e2 : k = j
        · have HBAD : Hid (badN cs i k = false) := HB2.out k e2 e1
          have E2 : Hid (((k : Int) != (j : Int)) = false) := by show _ = _; simp [e2]
          clear e1 e2
          have e1' := E1.out
          have e2' := E2.out
          go_wp2
          go_roundw
          case rel => exact ⟨k + 1, by omega, by go_num, row_step HT.out HBAD.out, HBA2.out⟩
          case measure => simp [intOf]; omega
        · have E2 : Hid (((k : Int) != (j : Int)) = true) := bne_iff_ne.2 (by omega)
          have HBAD := Lib.hid (HBDK.out e1 e2)
          clear e1 e2
          have e1' := E1.out
          have e2' := E2.out
          generalize crs P Q q = X at *
          by_cases e3 : X ≤ 0
          · have HE : Hid (rowTo cs i n = false) := row_bad hlt (by rw [HBAD.out]; exact decide_eq_true e3)
            go_wp2_with fail
            refine (HSK.out _).mono ?_
            rintro e w5 ⟨rfl, hb5⟩
            go_wp2
            go_ret
            exact ⟨by rw [HE.out]; rfl, HBA.out.trans (hb5.mono HBA.out.size)⟩
          · have HBAD2 : Hid (badN cs i k = false) := HBAD.out.trans (decide_eq_false e3)
            go_wp2_with fail
            refine (HSK.out _).mono ?_
            rintro e w5 ⟨rfl, hb5⟩
            go_wp2
            go_roundw
            case rel => exact ⟨k + 1, by omega, by go_num, row_step HT.out HBAD2.out, HBA2.out.trans (hb5.mono HBA2.out.size)⟩
            case measure => simp [intOf]; omega
    · obtain rfl : k = n := by omega
      have HE := HT
      go_wp2
      go_ret
      exact ⟨by rw [HE.out]; rfl, HBB.out⟩
end Go.Proofs.Ytencnldflnbdiaa
