/- Made by merge.py of XZone1, XZone2. -/
import Derived.Test.YtdhobglhjdgboaaDoorZoneLaw
import Derived.Test.YtdhobglhjdgboaaDoorLifts
import Derived.Lib.QuietBelow
import Derived.BigQuiet
/- XZone1: The small functions of zones: side, l05Cross, l05Sign, l05Next, later, earlier, l05Box, l05Lines. -/
namespace Go.Proofs.YtdhobglhjdgboaaDoor
open Go.RowKit Go.Sort
set_option linter.unusedVariables false

abbrev pv (p : Pnt) : Value := .agg #[.int .i64 p.x, .int .i64 p.y]
abbrev pcs (p : Pnt) : Array Value := #[.int .i64 p.x, .int .i64 p.y]
theorem Pnt.blk {w : World} {g : Nat} {t : TypeId} {x y : Value} (h : Blk w g t #[x, y]) : w.cell? ⟨g, 0, none⟩ = some x ∧ w.cell? ⟨g, 1, none⟩ = some y := ⟨(h.cell 0).trans rfl, (h.cell 1).trans rfl⟩
set_option maxHeartbeats 800000 in
theorem side_any (a b c : Pnt) (w : World) (ha : plcW a.x a.y = true) (hb : plcW b.x b.y = true) (hc : plcW c.x c.y = true) :
    Calls Tryd.prog 116 #[.agg #[.int .i64 a.x, .int .i64 a.y], .agg #[.int .i64 b.x, .int .i64 b.y], .agg #[.int .i64 c.x, .int .i64 c.y]] w fun e w' => e = .returned (.int .i64 (crs a b c)) ∧ Below w.heap.size w w' := by
  obtain ⟨c1, c2, ⟨d1, d2⟩, ⟨d3, d4⟩, ⟨d5, d6⟩, ⟨d7, d8⟩, ⟨m1, m2⟩, ⟨m3, m4⟩⟩ := crs_small ha hb hc
  unfold crs at c1 c2 ⊢
  clear ha hb hc
  go_enter Tryd.func116, Tryd.ntmps116
  go_wp2
  go_ret
  exact ⟨rfl, (((Below.refl _ _).alloc (Nat.le_refl _) _).alloc (by simp) _).alloc (by simp; omega) _⟩
set_option maxHeartbeats 800000 in
theorem l05Cross_any (a b c : Pnt) (w : World) (ha : plcW a.x a.y = true) (hb : plcW b.x b.y = true) (hc : plcW c.x c.y = true) :
    Calls Tryd.prog 229 #[.agg #[.int .i64 a.x, .int .i64 a.y], .agg #[.int .i64 b.x, .int .i64 b.y], .agg #[.int .i64 c.x, .int .i64 c.y]] w fun e w' => e = .returned (.int .i64 (crs a b c)) ∧ Below w.heap.size w w' := by
  obtain ⟨c1, c2, ⟨d1, d2⟩, ⟨d3, d4⟩, ⟨d5, d6⟩, ⟨d7, d8⟩, ⟨m1, m2⟩, ⟨m3, m4⟩⟩ := crs_small ha hb hc
  unfold crs at c1 c2 ⊢
  clear ha hb hc
  go_enter Tryd.func229, Tryd.ntmps229
  go_wp2
  go_ret
  exact ⟨rfl, (((Below.refl _ _).alloc (Nat.le_refl _) _).alloc (by simp) _).alloc (by simp; omega) _⟩
theorem l05Sign_any (n : Int) (w : World) : Calls Tryd.prog 230 #[.int .i64 n] w fun e w' => e = .returned (.int .i64 (sgn n)) ∧ w = w' := by
  rcases Int.lt_trichotomy n 0 with h | h | h
  · have HO : Hid (sgn n = -1) := by show _ = _; unfold sgn; rw [if_neg (by omega), if_pos h]
    go_enter Tryd.func230, Tryd.ntmps230
    go_wp2
    go_ret
    exact ⟨by rw [HO.out]; rfl, rfl⟩
  · subst h
    go_enter Tryd.func230, Tryd.ntmps230
    go_wp2
    go_ret
    exact ⟨rfl, rfl⟩
  · have HO : Hid (sgn n = 1) := by show _ = _; unfold sgn; rw [if_pos h]
    go_enter Tryd.func230, Tryd.ntmps230
    go_wp2
    go_ret
    exact ⟨by rw [HO.out]; rfl, rfl⟩
theorem nx_rem {n k : Nat} (hk : k < n) : ((k : Int) + 1).tmod (n : Int) = (nxN n k : Nat) := by
  unfold nxN
  rw [show ((k : Int) + 1) = ((k + 1 : Nat) : Int) by push_cast; rfl, ← Int.ofNat_tmod]
set_option maxHeartbeats 800000 in
theorem l05Next_any (A : Option Addr) (n c k : Nat) (cs : List Pnt) (w : World) (lo : Nat) (h : Arr Pnt.cs 2 w lo w.heap.size A n cs) (hn : n ≤ 1048576) (hk : k < n) :
    Calls Tryd.prog 163 #[.slice A n c, .int .i64 (k : Int)] w fun e w' => e = .returned (.agg #[.int .i64 (pt cs (nxN n k)).x, .int .i64 (pt cs (nxN n k)).y]) ∧ Below w.heap.size w w' := by
  have hx : nxN n k < n := nx_lt (by omega)
  obtain ⟨b, off, p, rfl, hp, _, _, c0, c1⟩ := Pnt.at h hx
  rw [pt_at hp]
  have hr := nx_rem hk
  generalize nxN n k = j at *
  have hj0 : (0 : Int) ≤ (j : Int) := by omega
  have hj1 : (j : Int) < (n : Int) := by omega
  have hn0 : ¬ (n : Int) = 0 := by omega
  clear h hp
  go_enter Tryd.func163, Tryd.ntmps163
  go_wp2
  exact bodyPost_ret (v := .agg #[.int .i64 p.x, .int .i64 p.y]) (by simp [results, Tryd.results163, go_sem]) rfl ⟨rfl, (Below.refl _ _).alloc (Nat.le_refl _) _⟩
theorem l00Min5_any (a b : Int) (w : World) : Calls Tryd.prog 266 #[.int .i64 a, .int .i64 b] w fun e w' => e = .returned (.int .i64 (mn a b)) ∧ w = w' := by
  by_cases h : a < b
  · have HO : Hid (mn a b = a) := by show _ = _; unfold mn; rw [if_pos h]
    go_enter Tryd.func266, Tryd.ntmps266
    go_wp2
    go_ret
    exact ⟨by rw [HO.out]; rfl, rfl⟩
  · have HO : Hid (mn a b = b) := by show _ = _; unfold mn; rw [if_neg h]
    go_enter Tryd.func266, Tryd.ntmps266
    go_wp2
    go_ret
    exact ⟨by rw [HO.out]; rfl, rfl⟩
theorem l00Max5_any (a b : Int) (w : World) : Calls Tryd.prog 267 #[.int .i64 a, .int .i64 b] w fun e w' => e = .returned (.int .i64 (mx a b)) ∧ w = w' := by
  by_cases h : b < a
  · have HO : Hid (mx a b = a) := by show _ = _; unfold mx; rw [if_neg (by omega)]
    go_enter Tryd.func267, Tryd.ntmps267
    go_wp2
    go_ret
    exact ⟨by rw [HO.out]; rfl, rfl⟩
  · have HO : Hid (mx a b = b) := by show _ = _; unfold mx; split <;> omega
    go_enter Tryd.func267, Tryd.ntmps267
    go_wp2
    go_ret
    exact ⟨by rw [HO.out]; rfl, rfl⟩
theorem in5_eq (n a b : Int) (w : World) {v : Bool} (h : inB n a b = v) : Calls Tryd.prog 146 #[.int .i64 n, .int .i64 a, .int .i64 b] w fun e w' => e = .returned (.bool v) ∧ w = w' := by subst h; exact l00In_any n a b w
set_option maxRecDepth 100000 in
set_option maxHeartbeats 1600000 in
theorem l05Box_any (a b c : Pnt) (w : World) :
    Calls Tryd.prog 231 #[.agg #[.int .i64 a.x, .int .i64 a.y], .agg #[.int .i64 b.x, .int .i64 b.y], .agg #[.int .i64 c.x, .int .i64 c.y]] w fun e w' => e = .returned (.bool (boxB a b c)) ∧ Below w.heap.size w w' := by
  obtain ⟨W, hW⟩ : ∃ W : World, W = ((w.alloc (.cells #[.int .i64 a.x, .int .i64 a.y] 41)).alloc (.cells #[.int .i64 b.x, .int .i64 b.y] 41)).alloc (.cells #[.int .i64 c.x, .int .i64 c.y] 41) := ⟨_, rfl⟩
  have B0 : Below w.heap.size w W := by rw [hW]; exact (((Below.refl _ _).alloc (Nat.le_refl _) _).alloc (by simp) _).alloc (by simp; omega) _
  have P0 : Blk W w.heap.size 41 #[.int .i64 a.x, .int .i64 a.y] := by rw [hW]; exact ((Blk.new _ _ _).alloc _).alloc _
  have P1 : Blk W (w.heap.size + 1) 41 #[.int .i64 b.x, .int .i64 b.y] := by rw [hW]; exact (Blk.new_at rfl (by simp)).alloc _
  have P2 : Blk W (w.heap.size + 1 + 1) 41 #[.int .i64 c.x, .int .i64 c.y] := by rw [hW]; exact Blk.new_at rfl (by simp)
  obtain ⟨a0, a1⟩ := Pnt.blk P0
  obtain ⟨b0, b1⟩ := Pnt.blk P1
  obtain ⟨c0, c1⟩ := Pnt.blk P2
  clear P0 P1 P2
  have a0' := cell_regrown a0
  have a1' := cell_regrown a1
  have b0' := cell_regrown b0
  have b1' := cell_regrown b1
  have c0' := cell_regrown c0
  have c1' := cell_regrown c1
  clear a0 a1 b0 b1 c0 c1
  cases h1 : inB c.x (mn a.x b.x) (mx a.x b.x)
  · have HT : Hid (boxB a b c = false) := by show _ = _; unfold boxB; rw [show inIv c.x (mn a.x b.x) (mx a.x b.x) = false from h1]; rfl
    go_enter Tryd.func231, Tryd.ntmps231
    go_wp2_with fail
    rw [← hW]
    clear hW
    refine wp_region_quiet_below (by kernel_rfl) (by kernel_rfl) ?_
    repeat (go_big_quiet_step (first | (go_at_call 266; exact Calls.regrown_of (same_bel (l00Min5_any _ _ _))) | (go_at_call 267; exact Calls.regrown_of (same_bel (l00Max5_any _ _ _))) | (go_at_call 146; exact Calls.regrown_of (same_bel (in5_eq _ _ _ _ (by assumption))))))
    refine wpQuiet_nil ?_
    intro _ hw9
    obtain ⟨⟨dq, osq⟩, hw9⟩ := hw9
    subst hw9
    have hb9 := below_regrown W dq osq
    dsimp only at hb9 ⊢
    generalize grow (redrawn W dq) osq = W2 at hb9 ⊢
    go_wp2
    go_ret
    exact ⟨by rw [HT.out]; rfl, B0.trans (hb9.mono B0.size)⟩
  · cases h2 : inB c.y (mn a.y b.y) (mx a.y b.y)
    all_goals
      have HT : Hid (boxB a b c = inB c.y (mn a.y b.y) (mx a.y b.y)) := by show _ = _; unfold boxB; rw [show inIv c.x (mn a.x b.x) (mx a.x b.x) = true from h1]; rfl
      rw [h2] at HT
      go_enter Tryd.func231, Tryd.ntmps231
      go_wp2_with fail
      rw [← hW]
      clear hW
      refine wp_region_quiet_below (by kernel_rfl) (by kernel_rfl) ?_
      repeat (go_big_quiet_step (first | (go_at_call 266; exact Calls.regrown_of (same_bel (l00Min5_any _ _ _))) | (go_at_call 267; exact Calls.regrown_of (same_bel (l00Max5_any _ _ _))) | (go_at_call 146; exact Calls.regrown_of (same_bel (in5_eq _ _ _ _ (by assumption))))))
      refine wpQuiet_nil ?_
      intro _ hw9
      obtain ⟨⟨dq, osq⟩, hw9⟩ := hw9
      subst hw9
      have hb9 := below_regrown W dq osq
      dsimp only at hb9 ⊢
      generalize grow (redrawn W dq) osq = W2 at hb9 ⊢
      go_wp2
      go_ret
      exact ⟨by rw [HT.out]; rfl, B0.trans (hb9.mono B0.size)⟩
end Go.Proofs.YtdhobglhjdgboaaDoor
/- XZone2: l05Turns of the reference: all corners lie on the left of all sides. -/
namespace Go.Proofs.YtdhobglhjdgboaaDoor
open Go.RowKit Go.Sort
set_option linter.unusedVariables false

theorem cornersTo_at {cs : List Pnt} {n : Nat} (h : cornersTo cs n = true) {k : Nat} (hk : k < n) : plcW (pt cs k).x (pt cs k).y = true := plcW_of (allTo_iff.1 h k hk)
theorem bad_no1 {cs : List Pnt} {k i : Nat} (h : i = k) : badN cs k i = false := by unfold badN; rw [decide_eq_true h]; rfl
theorem bad_no2 {cs : List Pnt} {k i : Nat} (h1 : ¬ i = k) (h : i = nxN cs.length k) : badN cs k i = false := by unfold badN; rw [decide_eq_false h1, decide_eq_true h]; rfl
theorem bad_at {cs : List Pnt} {k i : Nat} (h1 : ¬ i = k) (h2 : ¬ i = nxN cs.length k) : badN cs k i = decide (crs (pt cs k) (pt cs (nxN cs.length k)) (pt cs i) ≤ 0) := by unfold badN; rw [decide_eq_false h1, decide_eq_false h2]; rfl
theorem row_step {cs : List Pnt} {k i : Nat} (h : rowTo cs k i = true) (h2 : badN cs k i = false) : rowTo cs k (i + 1) = true := allTo_step h (by rw [h2]; rfl)
theorem row_bad {cs : List Pnt} {k i n : Nat} (hi : i < n) (h2 : badN cs k i = true) : rowTo cs k n = false := allTo_bad hi (by rw [h2]; rfl)
set_option maxRecDepth 100000 in
set_option maxHeartbeats 3200000 in
theorem l05Turns_any (A : Option Addr) (n c : Nat) (cs : List Pnt) (w : World) (lo : Nat) (h : Arr Pnt.cs 2 w lo w.heap.size A n cs) (hn : n ≤ 1048576) (hok : cornersTo cs n = true) :
    Calls Tryd.prog 228 #[.slice A n c] w fun e w' => e = .returned (.bool (turnsTo cs cs.length)) ∧ Below w.heap.size w w' := by
  have HOK := Lib.hid hok
  have HL : Hid (cs.length = n) := h.1
  have HA := Lib.hid h
  clear h hok
  go_enter Tryd.func228, Tryd.ntmps228
  go_wp2
  go_loopw [3, 4] (fun v3 v4 wr => ∃ k : Nat, k ≤ n ∧ v3 = .int .i64 k ∧ turnsTo cs k = true ∧ Below w.heap.size w wr) (fun v3 _ _ => n - (intOf v3).toNat)
  case atStart => exact ⟨0, Nat.zero_le _, rfl, rfl, Below.refl _ _⟩
  case round =>
    obtain ⟨k, hk, rfl, ht, hb⟩ := hrel
    have HT := Lib.hid ht
    clear ht
    by_cases hlt : k < n
    · have hk0 : (0 : Int) ≤ (k : Int) := by omega
      have hk1 : (k : Int) < (n : Int) := by omega
      obtain ⟨w0, hw0⟩ : ∃ W : World, W = wr := ⟨_, rfl⟩
      have HB0 : Hid (Below w.heap.size w w0) := by rw [hw0]; exact hb
      have hb0 : Below w0.heap.size w0 wr := by rw [hw0]; exact Below.refl _ _
      clear hw0
      go_wp2
      go_loopw [4] (fun v4 wr => ∃ i : Nat, i ≤ n ∧ v4 = .int .i64 i ∧ rowTo cs k i = true ∧ Below w.heap.size w wr) (fun v4 _ => n - (intOf v4).toNat)
      case atStart => exact ⟨0, Nat.zero_le _, rfl, rfl, hb⟩
      case round =>
        obtain ⟨i, hi, rfl, hr, hb2⟩ := hrel
        have HR := Lib.hid hr
        clear hr
        by_cases hlt2 : i < n
        · have hi0 : (0 : Int) ≤ (i : Int) := by omega
          have hi1 : (i : Int) < (n : Int) := by omega
          have hA2 := (HA.out.below hb2).more hb2.size
          have HN := Lib.hid (fun d os => l05Next_any A n c k cs (grow (redrawn wr d) os) lo ((hA2.below (below_regrown wr d os)).more (below_regrown wr d os).size) hn hlt)
          have HC := Lib.hid (fun W => l05Cross_any (pt cs k) (pt cs (nxN n k)) (pt cs i) W (cornersTo_at HOK.out hlt) (cornersTo_at HOK.out (nx_lt (by omega))) (cornersTo_at HOK.out hlt2))
          obtain ⟨b, off, p, eA, hp, _, hbl, c0, c1⟩ := Pnt.at hA2 hlt
          obtain ⟨b', off', q, eA', hq, _, hbl', d0, d1⟩ := Pnt.at hA2 hlt2
          rw [eA] at eA'
          cases eA'
          have hr := nx_rem hlt
          have HBk : Hid (pt cs k = p) := pt_at hp
          have HBi : Hid (pt cs i = q) := pt_at hq
          rw [HBk.out, HBi.out] at HC
          subst eA
          have c0' := cell_regrown c0
          have c1' := cell_regrown c1
          have d0' := cell_regrown d0
          have d1' := cell_regrown d1
          clear hp hq c0 c1 d0 d1 hA2
          by_cases e1 : i = k
          · have HBAD : Hid (badN cs k i = false) := bad_no1 e1
            go_wp2
            refine wp_region_quiet_below (by kernel_rfl) (by kernel_rfl) ?_
            repeat (go_big_quiet_step (first | fail))
            refine wpQuiet_nil ?_
            intro _ hw9
            obtain ⟨⟨dq, osq⟩, hw9⟩ := hw9
            subst hw9
            have hb5 := below_regrown wr dq osq
            dsimp only at hb5 ⊢
            generalize grow (redrawn wr dq) osq = w5 at hb5 ⊢
            go_wp2
            go_roundw
            case rel => exact ⟨i + 1, by omega, by go_num, row_step HR.out HBAD.out, hb2.trans (hb5.mono hb2.size)⟩
            case measure => simp [intOf]; omega
          · have E1 : Hid (((i : Int) != (k : Int)) = true) := bne_iff_ne.2 (by omega)
            by_cases e2 : i = nxN n k
            · have HBAD : Hid (badN cs k i = false) := bad_no2 e1 (by rw [HL.out]; exact e2)
              rw [← e2] at hr
              have E2 : Hid (((i : Int) != (i : Int)) = false) := by show _ = _; simp
              clear HN HC e1 e2
              go_wp2
              have e1' := E1.out
              have e2' := E2.out
              refine wp_region_quiet_below (by kernel_rfl) (by kernel_rfl) ?_
              repeat (go_big_quiet_step (first | fail))
              refine wpQuiet_nil ?_
              intro _ hw9
              obtain ⟨⟨dq, osq⟩, hw9⟩ := hw9
              subst hw9
              have hb5 := below_regrown wr dq osq
              dsimp only at hb5 ⊢
              generalize grow (redrawn wr dq) osq = w5 at hb5 ⊢
              go_wp2
              go_roundw
              case rel => exact ⟨i + 1, by omega, by go_num, row_step HR.out HBAD.out, hb2.trans (hb5.mono hb2.size)⟩
              case measure => simp [intOf]; omega
            · have E2 : Hid (((i : Int) != (nxN n k : Nat)) = true) := bne_iff_ne.2 (by omega)
              have HBAD : Hid (badN cs k i = decide (crs p (pt cs (nxN n k)) q ≤ 0)) := by
                have h9 := bad_at (cs := cs) e1 (by rw [HL.out]; exact e2)
                show _ = _
                rw [h9, HL.out, HBk.out, HBi.out]
              generalize crs p (pt cs (nxN n k)) q = X at *
              by_cases e3 : X ≤ 0
              · have HBAD2 : Hid (rowTo cs k cs.length = false) := row_bad (by rw [HL.out]; exact hlt2) (by rw [HBAD.out]; exact decide_eq_true e3)
                have HE : Hid (turnsTo cs cs.length = false) := allTo_bad (by rw [HL.out]; exact hlt) HBAD2.out
                clear e1 e2 HBAD
                go_wp2
                have e1' := E1.out
                have e2' := E2.out
                refine wp_region_quiet_below (by kernel_rfl) (by kernel_rfl) ?_
                repeat (go_big_quiet_step (first | (go_at_call 163; exact Calls.regrown_of (HN.out _ _)) | (go_at_call 229; exact Calls.regrown_of (HC.out _))))
                refine wpQuiet_nil ?_
                intro _ hw9
                obtain ⟨⟨dq, osq⟩, hw9⟩ := hw9
                subst hw9
                have hb5 := below_regrown wr dq osq
                dsimp only at hb5 ⊢
                generalize grow (redrawn wr dq) osq = w5 at hb5 ⊢
                go_wp2
                go_ret
                exact ⟨by rw [HE.out]; rfl, hb2.trans (hb5.mono hb2.size)⟩
              · have HBAD2 : Hid (badN cs k i = false) := HBAD.out.trans (decide_eq_false e3)
                clear e1 e2 HBAD
                go_wp2
                have e1' := E1.out
                have e2' := E2.out
                refine wp_region_quiet_below (by kernel_rfl) (by kernel_rfl) ?_
                repeat (go_big_quiet_step (first | (go_at_call 163; exact Calls.regrown_of (HN.out _ _)) | (go_at_call 229; exact Calls.regrown_of (HC.out _))))
                refine wpQuiet_nil ?_
                intro _ hw9
                obtain ⟨⟨dq, osq⟩, hw9⟩ := hw9
                subst hw9
                have hb5 := below_regrown wr dq osq
                dsimp only at hb5 ⊢
                generalize grow (redrawn wr dq) osq = w5 at hb5 ⊢
                go_wp2
                go_roundw
                case rel => exact ⟨i + 1, by omega, by go_num, row_step HR.out HBAD2.out, hb2.trans (hb5.mono hb2.size)⟩
                case measure => simp [intOf]; omega
        · obtain rfl : i = n := by omega
          go_wp2
          go_roundw
          case rel => exact ⟨k + 1, by omega, by go_num, allTo_step HT.out (by rw [HL.out]; exact HR.out), hb2⟩
          case measure => simp [intOf]; omega
    · obtain rfl : k = n := by omega
      have HE : Hid (turnsTo cs cs.length = true) := by show _ = _; rw [HL.out]; exact HT.out
      go_wp2
      go_ret
      exact ⟨by rw [HE.out]; rfl, hb⟩
end Go.Proofs.YtdhobglhjdgboaaDoor
