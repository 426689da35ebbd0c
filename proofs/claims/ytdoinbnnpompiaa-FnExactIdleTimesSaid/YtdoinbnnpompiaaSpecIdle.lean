/- IdleTimes of the reference: it hands back idXss and tcCode. -/
import Derived.Test.YtdoinbnnpompiaaIdle
import Derived.BigQuiet
namespace Go.Proofs.Ytdoinbnnpompiaa
open Go.RowKit
set_option linter.unusedVariables false

theorem l00Max2_any (a b : Int) (w : World) : Calls Try.prog 150 #[.int .i64 a, .int .i64 b] w fun e w' => e = .returned (.int .i64 (max a b)) ∧ w = w' := by
  by_cases h : b < a
  · go_enter Try.func150, Try.ntmps150
    go_wp2
    go_ret
    exact ⟨ret_int (by omega), rfl⟩
  · go_enter Try.func150, Try.ntmps150
    go_wp2
    go_ret
    exact ⟨ret_int (by omega), rfl⟩

set_option maxRecDepth 100000 in
set_option maxHeartbeats 800000 in
theorem l12End_any (A : Option Addr) (n c : Nat) (ps : List Task) (w : World) (lo hi : Nat) (h : Arr Task.cs 4 w lo hi A n ps) (hn : n ≤ 1048576) :
    Calls Try.prog 151 #[.slice A n c] w fun e w' => e = .returned (.int .i64 (endTo ps)) ∧ w = w' := by
  have HL := Lib.hid h.1
  go_enter Try.func151, Try.ntmps151
  go_wp2
  go_loop [3, 4] (fun m i => ∃ k : Nat, k ≤ n ∧ i = .int .i64 k ∧ m = .int .i64 (endTo (ps.take k))) (fun _ i => n - (intOf i).toNat)
  case atStart => exact ⟨0, Nat.zero_le _, rfl, rfl⟩
  case round =>
    obtain ⟨k, hk, rfl, rfl⟩ := hrel
    by_cases hlt : k < n
    · obtain ⟨b, off, p, rfl, hx, _, hbl, c0, c1, c2, c3⟩ := Task.at h hlt
      have HX := Lib.hid (endTo_take hx)
      have hk0 : (0 : Int) ≤ (k : Int) := by omega
      have hk1 : (k : Int) < (n : Int) := by omega
      clear hx
      generalize endTo (ps.take k) = m at *
      go_wp2_with (go_at_call 150; refine (l00Max2_any _ _ _).mono ?_; rintro _ _ ⟨rfl, rfl⟩)
      go_round
      case rel => exact ⟨k + 1, by omega, by go_num, by rw [HX.out]⟩
      case measure => simp [intOf]; omega
    · obtain rfl : k = n := by omega
      go_wp2
      go_ret
      exact ⟨by rw [List.take_of_length_le (by rw [HL.out]; exact Nat.le_refl _)]; rfl, rfl⟩

set_option maxRecDepth 100000 in
set_option maxHeartbeats 3200000 in
theorem specIdleTimes_any (A : Option Addr) (n c : Nat) (ps : List Task) (crane : Int) (w : World) (lo : Nat) (h : Arr Task.cs 4 w lo w.heap.size A n ps) (hn : n ≤ 1048576) :
    Calls Try.prog 73 #[.slice A n c, .int .i64 crane] w (RetNN (idXss ps crane) (tcCode ps crane) w) := by
  by_cases h0 : tcCode ps crane = 0
  · obtain ⟨h1, hc0, hc5⟩ := tcCode_ok h0
    have H : Hid (idXss ps crane = idEnd (idFold (ofCrane ps n crane)) (endTo ps) ∧ tcCode ps crane = 0) := by show _ ∧ _; unfold idXss; rw [if_pos h0, h.1]; exact ⟨rfl, h0⟩
    have hn40 : n ≤ 40 := by rw [← h.1]; exact tasksOk_len h1
    have hmem : ∀ p ∈ ps, tOk p = true := fun p hp => tasksOk_mem h1 hp
    have HME := Lib.hid hmem
    have hbe := endTo_bd hmem
    have HH := Lib.hid h
    have HPL := Lib.hid h.1
    clear h1 hmem
    go_enter Try.func73, Try.ntmps73
    go_wp2_with (go_at_call 149; refine (l11Crane_eq _ _ _ ps crane _ lo h hn h0).mono ?_; rintro e w1 ⟨rfl, hb⟩)
    clear h0 h
    have hs1 := hb.size
    have HIL : Hid (∀ k, k ≤ n → (idFold (ofCrane ps k crane)).1.length ≤ n) := fun k hk => Nat.le_trans (idFold_len _) (by have := ofCrane_len ps k crane; rw [HPL.out] at this; exact this)
    go_loopw [7, 8, 9] (fun v y i wr => ∃ (k : Nat) (rs : List (Row Int)), k ≤ n ∧ i = .int .i64 k ∧ y = .int .i64 (idFold (ofCrane ps k crane)).2 ∧ RowsGrow wr w.heap.size v rs ∧ vals rs = (idFold (ofCrane ps k crane)).1 ∧ Below w.heap.size w wr) (fun _ _ i _ => n - (intOf i).toNat)
    case atStart => exact ⟨0, [], Nat.zero_le _, rfl, rfl, RowsGrow.empty _ _ hs1, rfl, hb.alloc hs1 _⟩
    case round =>
      obtain ⟨k, rs, hk, rfl, rfl, hgr, hval, hbw⟩ := hrel
      have hsw := hbw.size
      have hrl : rs.length ≤ n := by have := HIL.out k hk; rw [← hval] at this; simpa [vals] using this
      have hbd := idFold_bd (ofCrane ps k crane) ([], 0) (by decide) (fun t ht => HME.out t (List.mem_of_mem_take (List.mem_filter.1 ht).1))
      obtain ⟨u, hu⟩ : ∃ u, idFold (ofCrane ps k crane) = u := ⟨_, rfl⟩
      have HU := Lib.hid hu
      rw [show (ofCrane ps k crane).foldl idStep ([], 0) = idFold (ofCrane ps k crane) from rfl, hu] at hbd
      rw [hu] at hval ⊢
      obtain ⟨xs, y⟩ := u
      dsimp only at hbd hval ⊢
      have HVAL := Lib.hid hval
      have HGR := Lib.hid hgr
      have HBW := Lib.hid hbw
      by_cases hlt : k < n
      · obtain ⟨b, off, p, eA, hx, _, hbl, c0, c1, c2, c3⟩ := Task.at (HH.out.below hbw) hlt
        have hpb := tOk_bounds (HME.out p (List.mem_of_getElem? hx))
        have HX := Lib.hid hx
        have hk0 : (0 : Int) ≤ (k : Int) := by omega
        have hk1 : (k : Int) < (n : Int) := by omega
        have HGQ := Lib.hid (hgr.bel ((Below.refl _ _).drew))
        have HBQ := Lib.hid (hbw.drew)
        clear hx hu hval hgr hbw
        by_cases hcr : p.crane = crane
        · have bcr : (p.crane != crane) = false := by simp [hcr]
          have HO : Hid (idFold (ofCrane ps (k + 1) crane) = idStep (xs, y) p) := by show _ = _; rw [← HU.out, ← hcr, ofCrane_yes HX.out, idFold_snoc]
          clear hcr
          by_cases hse : p.start = p.stop
          · have HN : Hid (idFold (ofCrane ps (k + 1) crane) = (xs, y)) := by show _ = _; rw [HO.out]; unfold idStep; rw [if_pos hse]
            have bse : (p.start == p.stop) = true := beq_iff_eq.2 hse
            clear hse
            go_wp2
            go_region
            go_wp2
            try rw [← eA]
            go_roundw
            case rel => exact ⟨k + 1, rs, by omega, by go_num, by rw [HN.out], HGQ.out, by rw [HN.out]; exact HVAL.out, HBQ.out⟩
            case measure => simp [intOf]; omega
          · have bse : (p.start == p.stop) = false := beq_eq_false_iff_ne.2 hse
            by_cases hys : y < p.start
            · have HN : Hid (idFold (ofCrane ps (k + 1) crane) = (xs ++ [[y, p.start]], max y p.stop)) := by show _ = _; rw [HO.out]; unfold idStep; rw [if_neg hse]; dsimp only; rw [if_pos hys]
              clear hse
              go_wp2
              go_region
              obtain ⟨wq, hwq⟩ : ∃ wq : World, wq = wr.drew := ⟨_, rfl⟩
              rw [← hwq] at HGQ HBQ ⊢
              have e2 : wq.cell? ⟨b, off + k * 4 + 2, none⟩ = some (.int .i64 p.start) := by rw [hwq]; exact c2
              have e3 : wq.cell? ⟨b, off + k * 4 + 3, none⟩ = some (.int .i64 p.stop) := by rw [hwq]; exact c3
              clear c0 c1 c2 c3 hwq
              have hsq := HBQ.out.size
              have HB2 := Lib.hid (((Below.refl wq.heap.size wq).alloc (Nat.le_refl _) (.cells #[.int .i64 y, .int .i64 p.start] 2)).alloc (by simp) (.cells #[.slice (some ⟨wq.heap.size, 0, none⟩) 2 2] 27))
              have HG2 := Lib.hid (HGQ.out.bel HB2.out)
              go_wp2_with (first | (at_builtin; refine wpList_snoc _ rfl _ _ 109 rfl w.heap.size 27 (.slice none 0 0) 24 Try.underlying109 infoRowInt rfl (by omega) _ rs (pairRow wq.heap.size y p.start) rfl HG2.out.1 _ _ rfl (heap_new_at _ _ (by simp)) rfl rfl (by intro u hu; simp [Row.cs] at hu; subst hu; rfl) (by omega) (by omega) (by simp; omega) ?_; intro v' w5 hg5 hgr5; have BQ5 : Below w.heap.size wq w5 := HG2.out.1.below (HB2.out.mono hsq) hgr5 (Nat.le_refl _) (by simp; omega); have d3 : w5.cell? ⟨b, off + k * 4 + 3, none⟩ = some (.int .i64 p.stop) := (BQ5.cell (p := ⟨b, off + k * 4 + 3, none⟩) hbl).trans e3) | (go_at_call 150; refine (l00Max2_any _ _ _).mono ?_; rintro _ _ ⟨rfl, rfl⟩))
              have RG : RowsGrow w5 w.heap.size v' (rs ++ [pairRow wq.heap.size y p.start]) := RowsGrow.pair HGQ.out hsq y p.start rfl hg5 hgr5
              have HRG := Lib.hid RG
              have HB5 := Lib.hid (HBQ.out.trans BQ5)
              clear RG BQ5 hg5 hgr5
              try rw [← eA]
              go_roundw
              case rel => exact ⟨k + 1, _, by omega, by go_num, by rw [HN.out], HRG.out, by rw [HN.out, vals_snoc, HVAL.out], HB5.out⟩
              case measure => simp [intOf]; omega
            · have HN : Hid (idFold (ofCrane ps (k + 1) crane) = (xs, max y p.stop)) := by show _ = _; rw [HO.out]; unfold idStep; rw [if_neg hse]; dsimp only; rw [if_neg hys]
              clear hse
              go_wp2
              go_region
              go_wp2_with (go_at_call 150; refine (l00Max2_any _ _ _).mono ?_; rintro _ _ ⟨rfl, rfl⟩)
              try rw [← eA]
              go_roundw
              case rel => exact ⟨k + 1, rs, by omega, by go_num, by rw [HN.out], HGQ.out, by rw [HN.out]; exact HVAL.out, HBQ.out⟩
              case measure => simp [intOf]; omega
        · have bcr : (p.crane != crane) = true := by simp [hcr]
          have HN : Hid (idFold (ofCrane ps (k + 1) crane) = (xs, y)) := by show _ = _; rw [← HU.out, ofCrane_no HX.out hcr]
          clear hcr
          go_wp2
          go_region
          go_wp2
          try rw [← eA]
          go_roundw
          case rel => exact ⟨k + 1, rs, by omega, by go_num, by rw [HN.out], HGQ.out, by rw [HN.out]; exact HVAL.out, HBQ.out⟩
          case measure => simp [intOf]; omega
      · obtain rfl : k = n := by omega
        rw [HU.out] at H
        have HA9 := Lib.hid (HH.out.below hbw)
        clear hu hval hgr hbw
        obtain ⟨e0, he0⟩ : ∃ e0, endTo ps = e0 := ⟨_, rfl⟩
        have HE := Lib.hid (l12End_any A k c ps wr lo w.heap.size HA9.out hn)
        rw [he0] at hbe H HE
        clear he0
        by_cases hlt2 : y < e0
        · have HX : Hid (idXss ps crane = xs ++ [[y, e0]] ∧ tcCode ps crane = 0) := by show _ ∧ _; rw [H.out.1]; unfold idEnd; rw [if_pos hlt2]; exact ⟨rfl, H.out.2⟩
          have HB2 := Lib.hid (((Below.refl wr.heap.size wr).alloc (Nat.le_refl _) (.cells #[.int .i64 y, .int .i64 e0] 2)).alloc (by simp) (.cells #[.slice (some ⟨wr.heap.size, 0, none⟩) 2 2] 27))
          have HG2 := Lib.hid (HGR.out.bel HB2.out)
          go_wp2_with (first | (go_at_call 151; refine HE.out.mono ?_; rintro _ _ ⟨rfl, rfl⟩) | (at_builtin; refine wpList_snoc _ rfl _ _ 109 rfl w.heap.size 27 (.slice none 0 0) 24 Try.underlying109 infoRowInt rfl (by omega) _ rs (pairRow wr.heap.size y e0) rfl HG2.out.1 _ _ rfl (heap_new_at _ _ (by simp)) rfl rfl (by intro u hu; simp [Row.cs] at hu; subst hu; rfl) (by omega) (by omega) (by simp; omega) ?_; intro v' w5 hg5 hgr5))
          have RG : RowsGrow w5 w.heap.size v' (rs ++ [pairRow wr.heap.size y e0]) := RowsGrow.pair HGR.out hsw y e0 rfl hg5 hgr5
          have BW5 : Below w.heap.size w w5 := HG2.out.1.below (HBW.out.trans (HB2.out.mono hsw)) hgr5 (Nat.le_refl _) (by simp; omega)
          go_ret2
          rw [HX.out.1, HX.out.2]
          exact RG.rets (by rw [vals_snoc, HVAL.out]) (Nat.le_refl _) BW5
        · have HX : Hid (idXss ps crane = xs ∧ tcCode ps crane = 0) := by show _ ∧ _; rw [H.out.1]; unfold idEnd; rw [if_neg hlt2]; exact ⟨rfl, H.out.2⟩
          go_wp2_with (go_at_call 151; refine HE.out.mono ?_; rintro _ _ ⟨rfl, rfl⟩)
          go_ret2
          rw [HX.out.1, HX.out.2]
          exact HGR.out.rets HVAL.out (Nat.le_refl _) HBW.out
  · have H : Hid (idXss ps crane = []) := by show _ = _; unfold idXss; rw [if_neg h0]
    have b0 : (tcCode ps crane != 0) = true := by simp [h0]
    clear h0
    go_enter Try.func73, Try.ntmps73
    go_wp2_with (go_at_call 149; refine (l11Crane_any _ _ _ ps crane _ lo h hn).mono ?_; rintro e w1 ⟨rfl, hb⟩)
    go_ret2
    rw [H.out]; exact RetNN.nil hb
end Go.Proofs.Ytdoinbnnpompiaa
