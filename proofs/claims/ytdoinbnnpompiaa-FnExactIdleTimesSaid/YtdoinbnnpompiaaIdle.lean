/- IdleTimes of the program: it hands back idXss and tcCode. -/
import Derived.Test.YtdoinbnnpompiaaIdleLaw
import Derived.Test.YtdoinbnnpompiaaSteps
namespace Go.Proofs.Ytdoinbnnpompiaa
open Go.RowKit
set_option linter.unusedVariables false

theorem RowsGrow.other {w : World} {lo : Nat} {v : Value} {rs : List (Row Int)} (h : RowsGrow w lo v rs) {B : Nat} {t : TypeId} {cs : Array Value} (hB : Blk w B t cs) (ht : t ≠ 27) : some B ≠ v.ownBlock := by
  rcases h.1.2 with ⟨rfl, _⟩ | ⟨g, cap, cur, rfl, _, hgb, _⟩
  · simp [Value.ownBlock]
  · intro e'
    obtain rfl : B = g := by simpa [Value.ownBlock] using e'
    have := (show w.heap[B]? = _ from hB).symm.trans hgb
    simp at this
    exact ht this.2
theorem max_if (a b : Int) : (if a < b then b else a) = max a b := by split <;> omega
set_option maxRecDepth 100000 in
set_option maxHeartbeats 800000 in
theorem endOf_any (A : Option Addr) (n c : Nat) (ps : List Task) (w : World) (lo : Nat) (h : Arr Task.cs 4 w lo w.heap.size A n ps) (hn : n ≤ 1048576) :
    Calls Try.prog 154 #[.slice A n c] w fun e w' => e = .returned (.int .i64 (endTo ps)) ∧ Below w.heap.size w w' := by
  have HL := Lib.hid h.1
  have HH := Lib.hid h
  clear h
  go_enter Try.func154, Try.ntmps154
  go_wp2
  go_loopw [3, 8] (fun m i wr => ∃ k : Nat, k ≤ n ∧ i = .int .i64 k ∧ m = .int .i64 (endTo (ps.take k)) ∧ Below w.heap.size w wr) (fun _ i _ => n - (intOf i).toNat)
  case atStart => exact ⟨0, Nat.zero_le _, rfl, rfl, Below.refl _ _⟩
  case round =>
    obtain ⟨k, hk, rfl, rfl, hb⟩ := hrel
    by_cases hlt : k < n
    · obtain ⟨b, off, p, eA, hx, _, hbl, c0, c1, c2, c3⟩ := Task.at (HH.out.below hb) hlt
      have HX := Lib.hid (endTo_take hx)
      have HB := Lib.hid hb
      have hsz := hb.size
      have hk0 : (0 : Int) ≤ (k : Int) := by omega
      have hk1 : (k : Int) < (n : Int) := by omega
      clear hb hx
      generalize endTo (ps.take k) = m at *
      go_wp2
      try rw [← eA]
      go_roundw
      case rel => exact ⟨k + 1, by omega, by go_num, by rw [HX.out, max_if], HB.out.alloc hsz _⟩
      case measure => simp [intOf]; omega
    · obtain rfl : k = n := by omega
      go_wp2
      go_ret
      exact ⟨by rw [List.take_of_length_le (by rw [HL.out]; exact Nat.le_refl _)]; rfl, hb⟩

set_option maxRecDepth 100000 in
set_option maxHeartbeats 3200000 in
theorem idleTimes_any (A : Option Addr) (n c : Nat) (ps : List Task) (crane : Int) (w : World) (lo : Nat) (h : Arr Task.cs 4 w lo w.heap.size A n ps) (hn : n ≤ 1048576) :
    Calls Try.prog 74 #[.slice A n c, .int .i64 crane] w (RetNN (idXss ps crane) (tcCode ps crane) w) := by
  by_cases h0 : tcCode ps crane = 0
  · obtain ⟨h1, hc0, hc5⟩ := tcCode_ok h0
    have H : Hid (idXss ps crane = idEnd (idFold (ofCrane ps n crane)) (endTo ps) ∧ tcCode ps crane = 0) := by show _ ∧ _; unfold idXss; rw [if_pos h0, h.1]; exact ⟨rfl, h0⟩
    have hn40 : n ≤ 40 := by rw [← h.1]; exact tasksOk_len h1
    have hcw : (Lit.int .i64 crane).wf = true := WalkArith.wf_i64 (by omega)
    have hmem : ∀ p ∈ ps, tOk p = true := fun p hp => tasksOk_mem h1 hp
    have HME := Lib.hid hmem
    have HCW := Lib.hid hcw
    have hbe := endTo_bd hmem
    have HBE := Lib.hid hbe
    clear h1 hmem hcw
    go_enter Try.func74, Try.ntmps74
    go_wp2_with fail
    refine (tasksCode_eq _ _ _ ps crane _ lo h hn h0).mono ?_
    rintro e w1 ⟨rfl, hb⟩
    have h2 := (h.below hb).more hb.size
    have hog := ofCrane_len ps n crane
    rw [h.1] at hog
    clear h h0
    go_wp2_with fail
    refine (byCranes_any _ _ _ ps _ lo h2 hn40 HME.out).mono ?_
    rintro e w2 ⟨b, V, rfl, hmap, hgr, hb2⟩
    have hlook := hmap.look (t := 207) Try.underlying207 Try.underlying2 (zeroTasks _) HCW.out
    have HB := Lib.hid (hb.trans (hb2.mono hb.size))
    have H2 := Lib.hid ((h2.below hb2).more hb2.size)
    have hrow := hgr.row crane
    have hsz := HB.out.size
    obtain ⟨A3, cap, hv3, ho3⟩ := hrow.own Task.cs_len
    have HO3 := Lib.hid ho3
    have HG : Hid (∀ p ∈ ofCrane ps n crane, tOk p = true) := fun p hp => HME.out p (List.mem_of_mem_take (List.mem_filter.1 hp).1)
    clear hb hb2 hgr hmap h2 hrow ho3
    rw [hv3] at hlook
    obtain ⟨gs, hgs⟩ : ∃ gs, ofCrane ps n crane = gs := ⟨_, rfl⟩
    rw [hgs] at hlook HO3 HG hog H
    clear hgs hv3
    obtain ⟨m, hm⟩ : ∃ m, gs.length = m := ⟨_, rfl⟩
    rw [hm] at hlook HO3 hog
    have HM := Lib.hid hm
    have HA := Lib.hid (HO3.out.arr Task.cs_len)
    clear hm
    go_wp2
    clear hlook
    have HIL := Lib.hid (fun k => Nat.le_trans (idFold_len (gs.take k)) (by rw [List.length_take]; exact Nat.min_le_left _ _))
    obtain ⟨G, hG⟩ : ∃ G, w2.heap.size = G := ⟨_, rfl⟩
    have hwG : w.heap.size ≤ G := by omega
    go_loopw [7, 8, 23] (fun v y i wr => ∃ (k : Nat) (rs : List (Row Int)), k ≤ m ∧ i = .int .i64 k ∧ y = .int .i64 (idFold (gs.take k)).2 ∧ RowsGrow wr G v rs ∧ vals rs = (idFold (gs.take k)).1 ∧ Below G w2 wr) (fun _ _ i _ => m - (intOf i).toNat)
    case atStart => exact ⟨0, [], Nat.zero_le _, rfl, rfl, RowsGrow.start _ _, rfl, Below.refl _ _⟩
    case round =>
      obtain ⟨k, rs, hk, rfl, rfl, hgr, hval, hbw⟩ := hrel
      have hsw := hbw.size
      have hrl : rs.length ≤ k := by have := HIL.out k; rw [← hval] at this; simpa [vals] using this
      have HVAL := Lib.hid hval
      have HGR := Lib.hid hgr
      have HBW := Lib.hid hbw
      by_cases hlt : k < m
      · obtain ⟨b, off, p, eA, hx, _, hbl, c0, c1, c2, c3⟩ := Task.at ((HA.out.more (hi' := G) (by omega)).below hbw) hlt
        have hpb := tOk_bounds (HG.out p (List.mem_of_getElem? hx))
        have hst := idFold_take hx
        have hbd := idFold_bd (gs.take k) ([], 0) (by decide) (fun t ht => HG.out t (List.mem_of_mem_take ht))
        obtain ⟨u, hu⟩ : ∃ u, idFold (gs.take k) = u := ⟨_, rfl⟩
        rw [show (gs.take k).foldl idStep ([], 0) = idFold (gs.take k) from rfl, hu] at hbd
        rw [hu] at hst HVAL ⊢
        obtain ⟨xs, y⟩ := u
        dsimp only at hbd HVAL ⊢
        have HST := Lib.hid hst
        have hk0 : (0 : Int) ≤ (k : Int) := by omega
        have hk1 : (k : Int) < (m : Int) := by omega
        have hsz2 : G ≤ wr.heap.size := by omega
        clear hx hst hu hval hgr hbw
        by_cases hse : p.start = p.stop
        · have HN : Hid (idFold (gs.take (k + 1)) = (xs, y)) := by show _ = _; rw [HST.out]; unfold idStep; rw [if_pos hse]
          have bse : (p.start == p.stop) = true := beq_iff_eq.2 hse
          clear hse
          go_wp2
          try rw [← eA]
          go_roundw
          case rel => exact ⟨k + 1, rs, by omega, by go_num, by rw [HN.out]; (try rw [max_if]), HGR.out.bel ((Below.refl _ _).alloc (Nat.le_refl _) _), by rw [HN.out]; exact HVAL.out, HBW.out.alloc hsz2 _⟩
          case measure => simp [intOf]; omega
        · have bse : (p.start == p.stop) = false := beq_eq_false_iff_ne.2 hse
          by_cases hys : y < p.start
          · have HN : Hid (idFold (gs.take (k + 1)) = (xs ++ [[y, p.start]], max y p.stop)) := by show _ = _; rw [HST.out]; unfold idStep; rw [if_neg hse]; dsimp only; rw [if_pos hys]
            clear hse
            have HBX : Hid (Blk (((wr.alloc (.cells #[.int .i64 p.lift, .int .i64 p.crane, .int .i64 p.start, .int .i64 p.stop] 143)).alloc (.cells #[.int .i64 y, .int .i64 p.start] 2)).alloc (.cells #[.slice (some ⟨wr.heap.size + 1, 0, none⟩) 2 2] 27)) wr.heap.size 143 #[.int .i64 p.lift, .int .i64 p.crane, .int .i64 p.start, .int .i64 p.stop]) := ((Blk.new _ _ _).alloc _).alloc _
            have HG2 := Lib.hid (HGR.out.bel ((((Below.refl _ _).alloc (Nat.le_refl _) (.cells #[.int .i64 p.lift, .int .i64 p.crane, .int .i64 p.start, .int .i64 p.stop] 143)).alloc (by simp) (.cells #[.int .i64 y, .int .i64 p.start] 2)).alloc (by simp; omega) (.cells #[.slice (some ⟨wr.heap.size + 1, 0, none⟩) 2 2] 27)))
            go_wp2_with (at_builtin; refine wpList_snoc _ rfl _ _ 109 rfl G 27 (.slice none 0 0) 24 Try.underlying109 infoRowInt rfl (by omega) _ rs (pairRow (wr.heap.size + 1) y p.start) rfl HG2.out.1 _ _ rfl (heap_new_at _ _ (by simp)) rfl rfl (by intro u hu; simp [Row.cs] at hu; subst hu; rfl) (by omega) (by omega) (by simp; omega) ?_; intro v' w5 hg5 hgr5; have d3 : w5.cell? ⟨wr.heap.size, 3, none⟩ = some (.int .i64 p.stop) := (Blk.grown HBX.out hgr5 (RowsGrow.other HG2.out HBX.out (by decide))).cell 3)
            have RG : RowsGrow w5 G v' (rs ++ [pairRow (wr.heap.size + 1) y p.start]) := RowsGrow.pair (HGR.out.bel ((Below.refl _ _).alloc (Nat.le_refl _) (.cells #[.int .i64 p.lift, .int .i64 p.crane, .int .i64 p.start, .int .i64 p.stop] 143))) (by simp; omega) y p.start (by simp) hg5 hgr5
            have HRG := Lib.hid RG
            have BW5 : Below G w2 w5 := HG2.out.1.below (((HBW.out.alloc hsz2 (.cells #[.int .i64 p.lift, .int .i64 p.crane, .int .i64 p.start, .int .i64 p.stop] 143)).alloc (by simp; omega) (.cells #[.int .i64 y, .int .i64 p.start] 2)).alloc (by simp; omega) (.cells #[.slice (some ⟨wr.heap.size + 1, 0, none⟩) 2 2] 27)) hgr5 (Nat.le_refl _) (by simp; omega)
            have HBW5 := Lib.hid BW5
            clear RG BW5 hg5 hgr5
            try rw [← eA]
            go_roundw
            case rel => exact ⟨k + 1, _, by omega, by go_num, by rw [HN.out]; first | rw [max_if] | (show Value.int _ _ = Value.int _ _; congr 1; omega), HRG.out, by rw [HN.out, vals_snoc, HVAL.out], HBW5.out⟩
            case measure => simp [intOf]; omega
          · have HN : Hid (idFold (gs.take (k + 1)) = (xs, max y p.stop)) := by show _ = _; rw [HST.out]; unfold idStep; rw [if_neg hse]; dsimp only; rw [if_neg hys]
            clear hse
            go_wp2
            try rw [← eA]
            go_roundw
            case rel => exact ⟨k + 1, rs, by omega, by go_num, by rw [HN.out]; (try rw [max_if]), HGR.out.bel ((Below.refl _ _).alloc (Nat.le_refl _) _), by rw [HN.out]; exact HVAL.out, HBW.out.alloc hsz2 _⟩
            case measure => simp [intOf]; omega
      · obtain rfl : k = m := by omega
        have ht : gs.take k = gs := List.take_of_length_le (by rw [HM.out]; exact Nat.le_refl _)
        have hbd := idFold_bd gs ([], 0) (by decide) HG.out
        rw [show gs.foldl idStep ([], 0) = idFold gs from rfl] at hbd
        obtain ⟨u, hu⟩ : ∃ u, idFold gs = u := ⟨_, rfl⟩
        rw [ht, hu] at HVAL ⊢
        rw [hu] at hbd H
        obtain ⟨xs, y⟩ := u
        dsimp only at hbd HVAL ⊢
        have hbw2 : Below w2.heap.size w2 wr := by rw [hG]; exact hbw
        have H4 := Lib.hid ((H2.out.below hbw2).more hbw2.size)
        clear ht hu hval hbw hgr hbw2
        go_wp2_with fail
        refine (endOf_any _ _ _ ps _ lo H4.out hn).mono ?_
        rintro e w3 ⟨rfl, hb3⟩
        have HG3 := Lib.hid (HGR.out.bel hb3)
        have hGr : G ≤ wr.heap.size := by omega
        have HB3 := Lib.hid (HBW.out.trans (hb3.mono hGr))
        have hs3 := HB3.out.size
        have hs4 := hb3.size
        clear hb3
        obtain ⟨e0, he0⟩ : ∃ e0, endTo ps = e0 := ⟨_, rfl⟩
        rw [he0] at hbe H ⊢
        clear he0
        have hGB : Below G w w2 → True := fun _ => trivial
        clear hGB
        by_cases hlt2 : y < e0
        · have HX : Hid (idXss ps crane = xs ++ [[y, e0]] ∧ tcCode ps crane = 0) := by show _ ∧ _; rw [H.out.1]; unfold idEnd; rw [if_pos hlt2]; exact ⟨rfl, H.out.2⟩
          have HG2 := Lib.hid (HG3.out.bel (((Below.refl _ _).alloc (Nat.le_refl _) (.cells #[.int .i64 y, .int .i64 e0] 2)).alloc (by simp) (.cells #[.slice (some ⟨w3.heap.size, 0, none⟩) 2 2] 27)))
          go_wp2_with (at_builtin; refine wpList_snoc _ rfl _ _ 109 rfl G 27 (.slice none 0 0) 24 Try.underlying109 infoRowInt rfl (by omega) _ rs (pairRow w3.heap.size y e0) rfl HG2.out.1 _ _ rfl (heap_new_at _ _ (by simp)) rfl rfl (by intro u hu; simp [Row.cs] at hu; subst hu; rfl) (by omega) (by omega) (by simp; omega) ?_; intro v' w5 hg5 hgr5)
          have RG : RowsGrow w5 G v' (rs ++ [pairRow w3.heap.size y e0]) := RowsGrow.pair HG3.out (by omega) y e0 rfl hg5 hgr5
          have BW5 : Below w.heap.size w w5 := (HG2.out.1.less hwG).below ((HB.out.trans (((HB3.out.mono hwG).alloc (by omega) (.cells #[.int .i64 y, .int .i64 e0] 2)).alloc (by simp; omega) (.cells #[.slice (some ⟨w3.heap.size, 0, none⟩) 2 2] 27)))) hgr5 (Nat.le_refl _) (by simp; omega)
          go_ret2
          rw [HX.out.1, HX.out.2]
          exact RG.rets (by rw [vals_snoc, HVAL.out]) hwG BW5
        · have HX : Hid (idXss ps crane = xs ∧ tcCode ps crane = 0) := by show _ ∧ _; rw [H.out.1]; unfold idEnd; rw [if_neg hlt2]; exact ⟨rfl, H.out.2⟩
          go_wp2
          go_ret2
          rw [HX.out.1, HX.out.2]
          exact HG3.out.rets HVAL.out hwG (HB.out.trans (HB3.out.mono hwG))
  · have H : Hid (idXss ps crane = []) := by show _ = _; unfold idXss; rw [if_neg h0]
    have b0 : (tcCode ps crane != 0) = true := by simp [h0]
    clear h0
    go_enter Try.func74, Try.ntmps74
    go_wp2_with (go_at_call 152; refine (tasksCode_any _ _ _ ps crane _ lo h hn).mono ?_; rintro e w1 ⟨rfl, hb⟩)
    go_ret2
    rw [H.out]; exact RetNN.nil hb
end Go.Proofs.Ytdoinbnnpompiaa
