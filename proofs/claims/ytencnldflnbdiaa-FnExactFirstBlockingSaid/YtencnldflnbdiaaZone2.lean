/- l05Turns of the reference: all corners lie on the left of all sides. -/
import Derived.Test.YtencnldflnbdiaaZone1
namespace Go.Proofs.Ytencnldflnbdiaa
open Go.RowKit Go.Sort
set_option linter.unusedVariables false

theorem cornersTo_at {cs : List Pnt} {n : Nat} (h : cornersTo cs n = true) {k : Nat} (hk : k < n) : plcB (pt cs k).x (pt cs k).y = true := allTo_iff.1 h k hk
theorem bad_no1 {cs : List Pnt} {k i : Nat} (h : i = k) : badN cs k i = false := by unfold badN; rw [decide_eq_true h]; rfl
theorem bad_no2 {cs : List Pnt} {k i : Nat} (h1 : ¬ i = k) (h : i = nxN cs.length k) : badN cs k i = false := by unfold badN; rw [decide_eq_false h1, decide_eq_true h]; rfl
theorem bad_at {cs : List Pnt} {k i : Nat} (h1 : ¬ i = k) (h2 : ¬ i = nxN cs.length k) : badN cs k i = decide (crs (pt cs k) (pt cs (nxN cs.length k)) (pt cs i) ≤ 0) := by unfold badN; rw [decide_eq_false h1, decide_eq_false h2]; rfl
theorem row_step {cs : List Pnt} {k i : Nat} (h : rowTo cs k i = true) (h2 : badN cs k i = false) : rowTo cs k (i + 1) = true := allTo_step h (by rw [h2]; rfl)
theorem row_bad {cs : List Pnt} {k i n : Nat} (hi : i < n) (h2 : badN cs k i = true) : rowTo cs k n = false := allTo_bad hi (by rw [h2]; rfl)
set_option maxRecDepth 100000 in
set_option maxHeartbeats 3200000 in
theorem l05Turns_any (A : Option Addr) (n c : Nat) (cs : List Pnt) (w : World) (lo : Nat) (h : Arr Pnt.cs 2 w lo w.heap.size A n cs) (hn : n ≤ 1048576) (hok : cornersTo cs n = true) :
    Calls Try.prog 80 #[.slice A n c] w fun e w' => e = .returned (.bool (turnsTo cs cs.length)) ∧ Below w.heap.size w w' := by
  have HOK := Lib.hid hok
  have HL : Hid (cs.length = n) := h.1
  have HA := Lib.hid h
  clear h hok
  go_enter Try.func80, Try.ntmps80
  go_wp2
  go_loopw [3, 4] (fun v3 v4 wr => ∃ k : Nat, k ≤ n ∧ v3 = .int .i64 k ∧ turnsTo cs k = true ∧ Below w.heap.size w wr) (fun v3 _ _ => n - (intOf v3).toNat)
  case atStart => exact ⟨0, Nat.zero_le _, rfl, rfl, Below.refl _ _⟩
  case round =>
    obtain ⟨k, hk, rfl, ht, hb⟩ := hrel
    have HT := Lib.hid ht
    clear ht
    by_cases hlt : k < n
    · have hk0 : (0 : Int) ≤ (k : Int) := by omega
      have hk1 : (k : Int) < (n : Int) := by omega
      obtain ⟨w0, hw0⟩ : ∃ W : World, W = wr := ⟨_, rfl⟩
      have HB0 : Hid (Below w.heap.size w w0) := by rw [hw0]; exact hb
      have hb0 : Below w0.heap.size w0 wr := by rw [hw0]; exact Below.refl _ _
      clear hw0
      go_wp2
      go_loopw [4] (fun v4 wr => ∃ i : Nat, i ≤ n ∧ v4 = .int .i64 i ∧ rowTo cs k i = true ∧ Below w.heap.size w wr) (fun v4 _ => n - (intOf v4).toNat)
      case atStart => exact ⟨0, Nat.zero_le _, rfl, rfl, hb⟩
      case round =>
        obtain ⟨i, hi, rfl, hr, hb2⟩ := hrel
        have HR := Lib.hid hr
        clear hr
        by_cases hlt2 : i < n
        · have hi0 : (0 : Int) ≤ (i : Int) := by omega
          have hi1 : (i : Int) < (n : Int) := by omega
          have hA2 := (HA.out.below hb2).more hb2.size
          have HN := Lib.hid (fun d os => l05Next_any A n c k cs (grow (redrawn wr d) os) lo ((hA2.below (below_regrown wr d os)).more (below_regrown wr d os).size) hn hlt)
          have HC := Lib.hid (fun W => l05Cross_any (pt cs k) (pt cs (nxN n k)) (pt cs i) W (cornersTo_at HOK.out hlt) (cornersTo_at HOK.out (nx_lt (by omega))) (cornersTo_at HOK.out hlt2))
          obtain ⟨b, off, p, eA, hp, _, hbl, c0, c1⟩ := Pnt.at hA2 hlt
          obtain ⟨b', off', q, eA', hq, _, hbl', d0, d1⟩ := Pnt.at hA2 hlt2
          rw [eA] at eA'
          cases eA'
          have hr := nx_rem hlt
          have HBk : Hid (pt cs k = p) := pt_at hp
          have HBi : Hid (pt cs i = q) := pt_at hq
          rw [HBk.out, HBi.out] at HC
          subst eA
          have c0' := cell_regrown c0
          have c1' := cell_regrown c1
          have d0' := cell_regrown d0
          have d1' := cell_regrown d1
          clear hp hq c0 c1 d0 d1 hA2
          by_cases e1 : i = k
          · have HBAD : Hid (badN cs k i = false) := bad_no1 e1
            go_wp2
            refine wp_region_quiet_below (by kernel_rfl) (by kernel_rfl) ?_
            repeat (go_big_quiet_step (first | fail))
            refine wpQuiet_nil ?_
            intro _ hw9
            obtain ⟨⟨dq, osq⟩, hw9⟩ := hw9
            subst hw9
            have hb5 := below_regrown wr dq osq
            dsimp only at hb5 ⊢
            generalize grow (redrawn wr dq) osq = w5 at hb5 ⊢
            go_wp2
            go_roundw
            case rel => exact ⟨i + 1, by omega, by go_num, row_step HR.out HBAD.out, hb2.trans (hb5.mono hb2.size)⟩
            case measure => simp [intOf]; omega
          · have E1 : Hid (((i : Int) != (k : Int)) = true) := bne_iff_ne.2 (by omega)
            by_cases e2 : i = nxN n k
            · have HBAD : Hid (badN cs k i = false) := bad_no2 e1 (by rw [HL.out]; exact e2)
              rw [← e2] at hr
              have E2 : Hid (((i : Int) != (i : Int)) = false) := by show _ = _; simp
              clear HN HC e1 e2
              go_wp2
              have e1' := E1.out
              have e2' := E2.out
              refine wp_region_quiet_below (by kernel_rfl) (by kernel_rfl) ?_
              repeat (go_big_quiet_step (first | fail))
              refine wpQuiet_nil ?_
              intro _ hw9
              obtain ⟨⟨dq, osq⟩, hw9⟩ := hw9
              subst hw9
              have hb5 := below_regrown wr dq osq
              dsimp only at hb5 ⊢
              generalize grow (redrawn wr dq) osq = w5 at hb5 ⊢
              go_wp2
              go_roundw
              case rel => exact ⟨i + 1, by omega, by go_num, row_step HR.out HBAD.out, hb2.trans (hb5.mono hb2.size)⟩
              case measure => simp [intOf]; omega
            · have E2 : Hid (((i : Int) != (nxN n k : Nat)) = true) := bne_iff_ne.2 (by omega)
              have HBAD : Hid (badN cs k i = decide (crs p (pt cs (nxN n k)) q ≤ 0)) := by
                have h9 := bad_at (cs := cs) e1 (by rw [HL.out]; exact e2)
                show _ = _
                rw [h9, HL.out, HBk.out, HBi.out]
              generalize crs p (pt cs (nxN n k)) q = X at *
              by_cases e3 : X ≤ 0
              · have HBAD2 : Hid (rowTo cs k cs.length = false) := row_bad (by rw [HL.out]; exact hlt2) (by rw [HBAD.out]; exact decide_eq_true e3)
                have HE : Hid (turnsTo cs cs.length = false) := allTo_bad (by rw [HL.out]; exact hlt) HBAD2.out
                clear e1 e2 HBAD
                go_wp2
                have e1' := E1.out
                have e2' := E2.out
                refine wp_region_quiet_below (by kernel_rfl) (by kernel_rfl) ?_
                repeat (go_big_quiet_step (first | (go_at_call 83; exact Calls.regrown_of (HN.out _ _)) | (go_at_call 111; exact Calls.regrown_of (HC.out _))))
                refine wpQuiet_nil ?_
                intro _ hw9
                obtain ⟨⟨dq, osq⟩, hw9⟩ := hw9
                subst hw9
                have hb5 := below_regrown wr dq osq
                dsimp only at hb5 ⊢
                generalize grow (redrawn wr dq) osq = w5 at hb5 ⊢
                go_wp2
                go_ret
                exact ⟨by rw [HE.out]; rfl, hb2.trans (hb5.mono hb2.size)⟩
              · have HBAD2 : Hid (badN cs k i = false) := HBAD.out.trans (decide_eq_false e3)
                clear e1 e2 HBAD
                go_wp2
                have e1' := E1.out
                have e2' := E2.out
                refine wp_region_quiet_below (by kernel_rfl) (by kernel_rfl) ?_
                repeat (go_big_quiet_step (first | (go_at_call 83; exact Calls.regrown_of (HN.out _ _)) | (go_at_call 111; exact Calls.regrown_of (HC.out _))))
                refine wpQuiet_nil ?_
                intro _ hw9
                obtain ⟨⟨dq, osq⟩, hw9⟩ := hw9
                subst hw9
                have hb5 := below_regrown wr dq osq
                dsimp only at hb5 ⊢
                generalize grow (redrawn wr dq) osq = w5 at hb5 ⊢
                go_wp2
                go_roundw
                case rel => exact ⟨i + 1, by omega, by go_num, row_step HR.out HBAD2.out, hb2.trans (hb5.mono hb2.size)⟩
                case measure => simp [intOf]; omega
        · obtain rfl : i = n := by omega
          go_wp2
          go_roundw
          case rel => exact ⟨k + 1, by omega, by go_num, allTo_step HT.out (by rw [HL.out]; exact HR.out), hb2⟩
          case measure => simp [intOf]; omega
    · obtain rfl : k = n := by omega
      have HE : Hid (turnsTo cs cs.length = true) := by show _ = _; rw [HL.out]; exact HT.out
      go_wp2
      go_ret
      exact ⟨by rw [HE.out]; rfl, hb⟩
end Go.Proofs.Ytencnldflnbdiaa
