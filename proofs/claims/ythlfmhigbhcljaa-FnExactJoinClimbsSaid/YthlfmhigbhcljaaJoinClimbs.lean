/- JoinClimbs, of the program and of the reference: both hand back joinXs and joinCode. -/
import Derived.Test.YthlfmhigbhcljaaClimbs
import Derived.Test.YthlfmhigbhcljaaGrow2
import Derived.Deep.DrawnRows
namespace Go.Proofs.Ythlfmhigbhcljaa
open Go.RowKit
set_option linter.unusedVariables false

theorem infoClimb : (Try.prog.info? 102).map (fun i => (i.zero, i.size, i.bytes)) = some (some (.agg #[.int .i64 0, .int .i64 0]), 2, 16) := by kernel_rfl

/-- the last one of a row that holds something, at its cells -/
theorem Grow.last {w : World} {lo : Nat} {v : Value} {xs : List Climb} (h : Grow Climb.cs 2 w lo 102 v xs) (hn : 0 < xs.length) :
    ∃ g cap l, v = .slice (some ⟨g, 0, none⟩) xs.length cap ∧ xs[xs.length - 1]? = some l ∧ lo ≤ g ∧ g < w.heap.size ∧ xs.length ≤ cap ∧ cap ≤ 9223372036854775807 ∧ w.cell? ⟨g, (xs.length - 1) * 2, none⟩ = some (.int .i64 l.crane) ∧ w.cell? ⟨g, (xs.length - 1) * 2 + 1, none⟩ = some (.int .i64 l.sections) ∧ w.frozen? ⟨g, (xs.length - 1) * 2 + 1, none⟩ = false := by
  obtain ⟨g, cap, cs, e1, h1, h2, h3, h4, h5, h6, h7⟩ := h.parts hn
  have hx : xs[xs.length - 1]? = some (xs[xs.length - 1]'(by omega)) := List.getElem?_eq_getElem _
  have hb : Blk w g 102 cs := h3
  have hc : ∀ j, j < 2 → cs[(xs.length - 1) * 2 + j]? = (Climb.cs (xs[xs.length - 1]'(by omega)))[j]? := by
    intro j hj
    have f := flat_at Climb.cs_len xs (xs.length - 1) _ hx j hj
    rw [← h7, List.getElem?_take, if_pos (by omega)] at f
    rw [← f]; simp
  refine ⟨g, cap, _, e1, hx, h1, h2, h4, by unfold maxLen at h5; omega, ?_, ?_, hb.frozen _⟩
  · rw [hb.cell]; exact hc 0 (by omega)
  · rw [hb.cell]; exact hc 1 (by omega)

set_option maxRecDepth 100000 in
set_option maxHeartbeats 4000000 in
theorem joinClimbs_any (A : Option Addr) (n c : Nat) (ps : List Climb) (w : World) (lo : Nat) (h : Arr Climb.cs 2 w lo w.heap.size A n ps) (hn : n ≤ 1048576) :
    Calls Try.prog 25 #[.slice A n c] w (RetS Climb.cs 2 102 (joinXs ps) (joinCode ps) w) := by
  cases h1 : climbsOk ps
  · have H : Hid (joinXs ps = [] ∧ joinCode ps = 1) := by show _ ∧ _; unfold joinXs joinCode; rw [h1]; exact ⟨rfl, rfl⟩
    go_enter Try.func25, Try.ntmps25
    go_wp2_with (go_at_call 68; refine (climbsOk_any _ _ _ ps _ lo h (by omega)).mono ?_; rintro e w1 ⟨rfl, hb⟩)
    go_ret2
    rw [H.out.1, H.out.2]; exact RetS.nil hb
  · have HO := Lib.hid h1
    have H60 : n ≤ 60 := by have := climbsOk_len h1; rw [h.1] at this; exact this
    go_enter Try.func25, Try.ntmps25
    go_wp2_with fail
    refine (climbsOk_any _ _ _ ps _ lo h (by omega)).mono ?_
    rintro e w1 ⟨rfl, hb⟩
    go_wp2
    clear h1
    go_loopw [4, 13] (fun v i wr => ∃ k : Nat, k ≤ n ∧ i = .int .i64 k ∧ Grow Climb.cs 2 wr w.heap.size 102 v (joinTo ps k) ∧ Below w.heap.size w wr) (fun _ i _ => n - (intOf i).toNat)
    case atStart => exact ⟨0, Nat.zero_le _, rfl, Grow.nil _ _ _, hb⟩
    case round =>
      obtain ⟨k, hk, rfl, hgr, hb2⟩ := hrel
      by_cases hlt : k < n
      · obtain ⟨b, off, p, rfl, hx, _, hbl, c0, c1⟩ := Climb.at (h.below hb2) hlt
        have hl := joinTo_len ps k
        have hpb := cOk_sec (climbsOk_mem HO.out (List.mem_of_getElem? hx))
        have hsm := joinTo_small HO.out k
        have HX := Lib.hid (joinTo_step hx)
        have hsz := hb2.size
        clear hx
        generalize joinTo ps k = out at *
        have hst : joinTo ps (k + 1) = joinOne out p := HX.out
        by_cases h0 : out.length = 0
        · obtain ⟨A1, cap1, rfl, _⟩ := hgr.own Climb.cs_len
          have hx0 := h0
          go_wp2
          go_quiet (fail)
          have hb3 : Below wr.heap.size wr ((wr.alloc (.cells #[.int .i64 p.crane, .int .i64 p.sections] 102)).drewN nq) := bel_drewN ((Below.refl _ _).alloc (Nat.le_refl _) _) nq
          have hgr3 := hgr.bel hb3
          have hb4 := hb2.trans (hb3.mono hsz)
          go_wp2_with (at_builtin; go_loud (refine wpList_snoc _ rfl _ _ 31 rfl w.heap.size 102 (.agg #[.int .i64 0, .int .i64 0]) 16 Try.underlying31 infoClimb rfl (by omega) _ out p rfl (hgr3.alloc _) _ _ rfl (heap_new_at _ _ (by simp)) rfl rfl (Climb.cs_one _) (by omega) (by omega) (by simp; omega) ?_); intro v' w5 hg5 hgr5)
          go_roundw
          case rel => exact ⟨k + 1, by omega, by go_num, by rw [hst, joinOne_nil h0]; exact hg5, (hgr3.alloc _).below (hb4.alloc (by simp; omega) _) hgr5 (Nat.le_refl _) (by simp; omega)⟩
          case measure => simp [intOf]; omega
        · obtain ⟨g, cap, l, rfl, hll, hg1, hg2, hc1, hc2, e0, e1, f1⟩ := hgr.last (by omega)
          obtain ⟨m, hm⟩ : ∃ m, out.length = m + 1 := ⟨out.length - 1, by omega⟩
          have hmm : out.length - 1 = m := by omega
          rw [hmm] at hll e0 e1 f1
          rw [hm] at hgr hc1
          have hm0 : (0 : Int) ≤ (m : Int) := by omega
          have hm1 : (m : Int) < (m : Int) + 1 := by omega
          have hm2 : (m : Int) + 1 ≤ 60 := by omega
          have n0 := World.new_ne wr _ e0
          have hb3 : ∀ nq : Nat, Below wr.heap.size wr ((wr.alloc (.cells #[.int .i64 p.crane, .int .i64 p.sections] 102)).drewN nq) := fun nq => bel_drewN ((Below.refl _ _).alloc (Nat.le_refl _) _) nq
          by_cases hcr : l.crane = p.crane
          · have bc : (l.crane != p.crane) = false := by rw [hcr]; simp
            have hls := hsm l (List.mem_of_getElem? hll)
            go_wp2
            go_quiet (fail)
            obtain ⟨W, hW⟩ : ∃ W : World, W = (wr.alloc (.cells #[.int .i64 p.crane, .int .i64 p.sections] 102)).drewN nq := ⟨_, rfl⟩
            have hbW : Below wr.heap.size wr W := by rw [hW]; exact hb3 nq
            have e1W := (hbW.cell (p := ⟨g, m * 2 + 1, none⟩) hg2).trans e1
            have f1W := (hbW.frozen (p := ⟨g, m * 2 + 1, none⟩) hg2).trans f1
            have x0W : W.cell? ⟨wr.heap.size, 0, none⟩ = some (.int .i64 p.crane) := by rw [hW]; simp
            have x1W : W.cell? ⟨wr.heap.size, 1, none⟩ = some (.int .i64 p.sections) := by rw [hW]; simp
            have hszW : wr.heap.size < W.heap.size := by rw [hW]; simp
            rw [← hW]
            clear hW e0 e1 f1 c0 c1
            have HSM := Lib.hid hsm
            have HB3 := Lib.hid hb3
            clear hsm hb3
            go_wp2
            have hput := (hgr.bel hbW).put (u := .int .i64 (l.sections + p.sections)) (y := ⟨l.crane, l.sections + p.sections⟩) Climb.cs_len rfl hll (j0 := 1) (by omega) rfl (fun j hj hne => by
              have h9 : j = 0 := by omega
              subst h9; rfl)
            have hBW : Below w.heap.size w ((W.setCell ⟨g, m * 2 + 1, none⟩ (.int .i64 (l.sections + p.sections))).drew) := ((hb2.trans (hbW.mono hsz)).setCell hg1 _).drew
            have hdr : ∀ X : World, Below X.heap.size X X.drew := fun X => (Below.refl _ _).drew
            have hG := hput.bel (hdr _)
            have hlen : (out.set m ⟨l.crane, l.sections + p.sections⟩).length = m + 1 := by rw [List.length_set]; exact hm
            have HG := Lib.hid hG
            have HBW := Lib.hid hBW
            clear hput hG hBW hdr
            by_cases hz : l.sections + p.sections = 0
            · have bz : (l.sections + p.sections == 0) = true := beq_iff_eq.2 hz
              have HZ := Lib.hid hz
              clear hz
              go_region
              all_goals go_wp2
              all_goals go_roundw
              case rel => exact ⟨k + 1, by omega, by go_num, by rw [hst, joinOne_gone (by rw [hmm]; exact hll) hcr HZ.out, hmm]; have h9 := HG.out.cut Climb.cs_len (m := m) (by omega) (by rw [hlen]) (by omega); rwa [List.take_set_of_le (Nat.le_refl _)] at h9, HBW.out⟩
              case measure => simp [intOf]; omega
            · have bz : (l.sections + p.sections == 0) = false := beq_eq_false_iff_ne.2 hz
              go_region
              all_goals go_wp2
              all_goals go_roundw
              case rel => exact ⟨k + 1, by omega, by go_num, by rw [hst, joinOne_sum (by rw [hmm]; exact hll) hcr hz, hmm]; have h9 := HG.out; rwa [show out.set m ⟨l.crane, l.sections + p.sections⟩ = out.take m ++ [⟨l.crane, l.sections + p.sections⟩] by rw [List.set_eq_take_append_cons_drop, if_pos (by omega), List.drop_eq_nil_of_le (by omega)]] at h9, HBW.out⟩
              case measure => simp [intOf]; omega
          · have bc : (l.crane != p.crane) = true := by simp [hcr]
            go_wp2
            go_quiet (fail)
            have hgr3 := hgr.bel (hb3 nq)
            have hb4 := hb2.trans ((hb3 nq).mono hsz)
            go_wp2_with (at_builtin; refine wpList_snoc _ rfl _ _ 31 rfl w.heap.size 102 (.agg #[.int .i64 0, .int .i64 0]) 16 Try.underlying31 infoClimb rfl (by omega) _ out p rfl (hgr3.alloc _) _ _ rfl (heap_new_at _ _ (by simp)) rfl rfl (Climb.cs_one _) (by omega) (by omega) (by simp; omega) ?_; intro v' w5 hg5 hgr5)
            go_roundw
            case rel => exact ⟨k + 1, by omega, by go_num, by rw [hst, joinOne_other (by rw [hmm]; exact hll) hcr]; exact hg5, (hgr3.alloc _).below (hb4.alloc (by simp; omega) _) hgr5 (Nat.le_refl _) (by simp; omega)⟩
            case measure => simp [intOf]; omega
      · obtain rfl : k = n := by omega
        have hl := joinTo_len ps k
        have hsz := hb2.size
        cases h2 : climbsOk (joinTo ps k)
        · have H : Hid (joinXs ps = [] ∧ joinCode ps = 5) := by show _ ∧ _; unfold joinXs joinCode; rw [HO.out, h.1, h2]; exact ⟨rfl, rfl⟩
          obtain ⟨A1, cap1, rfl, ho⟩ := hgr.own Climb.cs_len
          go_wp2_with (go_at_call 68; refine (climbsOk_any _ _ _ (joinTo ps k) _ _ (ho.arr Climb.cs_len) (by omega)).mono ?_; rintro e w2 ⟨rfl, hb3⟩)
          go_ret2
          rw [H.out.1, H.out.2]; exact RetS.nil (hb2.trans (hb3.mono hsz))
        · have H : Hid (joinXs ps = joinTo ps k ∧ joinCode ps = 0) := by show _ ∧ _; unfold joinXs joinCode; rw [HO.out, h.1, h2]; exact ⟨rfl, rfl⟩
          have hg2 := hgr
          obtain ⟨A1, cap1, rfl, ho⟩ := hgr.own Climb.cs_len
          go_wp2_with (go_at_call 68; refine (climbsOk_any _ _ _ (joinTo ps k) _ _ (ho.arr Climb.cs_len) (by omega)).mono ?_; rintro e w2 ⟨rfl, hb3⟩)
          go_ret2
          rw [H.out.1, H.out.2]; exact (hg2.bel hb3).rets Climb.cs_len (hb2.trans (hb3.mono hsz))

set_option maxRecDepth 100000 in
set_option maxHeartbeats 4000000 in
theorem specJoinClimbs_any (A : Option Addr) (n c : Nat) (ps : List Climb) (w : World) (lo : Nat) (h : Arr Climb.cs 2 w lo w.heap.size A n ps) (hn : n ≤ 1048576) :
    Calls Try.prog 24 #[.slice A n c] w (RetS Climb.cs 2 102 (joinXs ps) (joinCode ps) w) := by
  cases h1 : climbsOk ps
  · have H : Hid (joinXs ps = [] ∧ joinCode ps = 1) := by show _ ∧ _; unfold joinXs joinCode; rw [h1]; exact ⟨rfl, rfl⟩
    go_enter Try.func24, Try.ntmps24
    go_wp2_with (go_at_call 66; refine (l23Ok_any _ _ _ ps _ lo h (by omega)).mono ?_; rintro e w1 ⟨rfl, rfl⟩)
    go_ret2
    rw [H.out.1, H.out.2]; exact RetS.nil (Below.refl _ _)
  · have HO := Lib.hid h1
    have H60 : n ≤ 60 := by have := climbsOk_len h1; rw [h.1] at this; exact this
    go_enter Try.func24, Try.ntmps24
    go_wp2_with (go_at_call 66; refine (l23Ok_any _ _ _ ps _ lo h (by omega)).mono ?_; rintro e w1 ⟨rfl, rfl⟩)
    clear h1
    go_loopw [4, 5] (fun v i wr => ∃ k : Nat, k ≤ n ∧ i = .int .i64 k ∧ Grow Climb.cs 2 wr w.heap.size 102 v (joinTo ps k) ∧ Below w.heap.size w wr) (fun _ i _ => n - (intOf i).toNat)
    case atStart => exact ⟨0, Nat.zero_le _, rfl, Grow.empty _ _ _ (Nat.le_refl _), (Below.refl _ _).alloc (Nat.le_refl _) _⟩
    case round =>
      obtain ⟨k, hk, rfl, hgr, hb2⟩ := hrel
      by_cases hlt : k < n
      · obtain ⟨b, off, p, rfl, hx, _, hbl, c0, c1⟩ := Climb.at (h.below hb2) hlt
        have hl := joinTo_len ps k
        have hpb := cOk_sec (climbsOk_mem HO.out (List.mem_of_getElem? hx))
        have hsm := joinTo_small HO.out k
        have HX := Lib.hid (joinTo_step hx)
        have hsz := hb2.size
        have hk0 : (0 : Int) ≤ (k : Int) := by omega
        have hk1 : (k : Int) < (n : Int) := by omega
        clear hx
        generalize joinTo ps k = out at *
        have hst : joinTo ps (k + 1) = joinOne out p := HX.out
        by_cases h0 : out.length = 0
        · obtain ⟨A1, cap1, rfl, _⟩ := hgr.own Climb.cs_len
          go_wp2
          go_quiet (fail)
          have hb3 : Below wr.heap.size wr (wr.drewN nq) := bel_drewN (Below.refl _ _) nq
          have hgr3 := hgr.bel hb3
          have hb4 := hb2.trans (hb3.mono hsz)
          go_wp2_with (at_builtin; refine wpList_snoc _ rfl _ _ 31 rfl w.heap.size 102 (.agg #[.int .i64 0, .int .i64 0]) 16 Try.underlying31 infoClimb rfl (by omega) _ out p rfl (hgr3.alloc _) _ _ rfl (heap_new_at _ _ (by simp)) rfl rfl (Climb.cs_one _) (by simp; omega) (by omega) (by simp; omega) ?_; intro v' w5 hg5 hgr5)
          go_roundw
          case rel => exact ⟨k + 1, by omega, by go_num, by rw [hst, joinOne_nil h0]; exact hg5, (hgr3.alloc _).below (hb4.alloc (by simp; omega) _) hgr5 (Nat.le_refl _) (by simp; omega)⟩
          case measure => simp [intOf]; omega
        · obtain ⟨g, cap, l, rfl, hll, hg1, hg2, hc1, hc2, e0, e1, f1⟩ := hgr.last (by omega)
          obtain ⟨m, hm⟩ : ∃ m, out.length = m + 1 := ⟨out.length - 1, by omega⟩
          have hmm : out.length - 1 = m := by omega
          rw [hmm] at hll e0 e1 f1
          rw [hm] at hgr hc1 ⊢
          have hm0 : (0 : Int) ≤ (m : Int) := by omega
          have hm1 : (m : Int) < (m : Int) + 1 := by omega
          have hm2 : (m : Int) + 1 ≤ 60 := by omega
          have ez : ((m : Int) + 1 == 0) = false := beq_eq_false_iff_ne.2 (by omega)
          have ew : IntKind.i64.wrap (m : Int) = (m : Int) := IntWalk.i64_in _ ⟨by omega, by omega⟩
          have hb3 : ∀ nq : Nat, Below wr.heap.size wr (wr.drewN nq) := fun nq => bel_drewN (Below.refl _ _) nq
          by_cases hcr : l.crane = p.crane
          · have bc : (l.crane != p.crane) = false := by rw [hcr]; simp
            have hls := hsm l (List.mem_of_getElem? hll)
            have HSM := Lib.hid hsm
            clear hsm
            go_wp2
            go_quiet (fail)
            clear e0 bc
            go_wp2
            go_quiet (fail)
            by_cases hz : l.sections + p.sections = 0
            · have bz : (l.sections + p.sections != 0) = false := by rw [hz]; rfl
              have HZ := Lib.hid hz
              clear hz
              go_wp2
              go_roundw
              case rel => exact ⟨k + 1, by omega, by go_num, by rw [hst, joinOne_gone (by rw [hmm]; exact hll) hcr HZ.out, hmm]; exact (hgr.cut Climb.cs_len (m := m) (by omega) (by rw [hm]) (by omega)).bel (bel_drewN (Below.refl _ _) _), bel_drewN hb2 _⟩
              case measure => simp [intOf]; omega
            · have bz : (l.sections + p.sections != 0) = true := by simp [hz]
              have hgr3 := fun N => (hgr.cut Climb.cs_len (m := m) (by omega) (by rw [hm]) (by omega)).bel (hb3 N)
              have hb4 := fun N => hb2.trans ((hb3 N).mono hsz)
              have hlt2 : (out.take m).length ≤ 60 := by rw [List.length_take]; omega
              go_wp2_with (at_builtin; refine wpList_snoc _ rfl _ _ 31 rfl w.heap.size 102 (.agg #[.int .i64 0, .int .i64 0]) 16 Try.underlying31 infoClimb rfl (by omega) _ (out.take m) ⟨p.crane, l.sections + p.sections⟩ rfl ((hgr3 _).alloc _) _ _ rfl (heap_new_at _ _ (by simp)) rfl rfl (Climb.cs_one _) (by simp; omega) (by omega) (by simp; omega) ?_; intro v' w5 hg5 hgr5)
              go_roundw
              case rel => exact ⟨k + 1, by omega, by go_num, by rw [hst, joinOne_sum (by rw [hmm]; exact hll) hcr hz, hmm, hcr]; exact hg5, ((hgr3 _).alloc _).below ((hb4 _).alloc (by simp; omega) _) hgr5 (Nat.le_refl _) (by simp; omega)⟩
              case measure => simp [intOf]; omega
          · have bc : (l.crane != p.crane) = true := by simp [hcr]
            go_wp2
            go_quiet (fail)
            have hgr3 := hgr.bel (hb3 nq)
            have hb4 := hb2.trans ((hb3 nq).mono hsz)
            go_wp2_with (at_builtin; refine wpList_snoc _ rfl _ _ 31 rfl w.heap.size 102 (.agg #[.int .i64 0, .int .i64 0]) 16 Try.underlying31 infoClimb rfl (by omega) _ out p rfl (hgr3.alloc _) _ _ rfl (heap_new_at _ _ (by simp)) rfl rfl (Climb.cs_one _) (by simp; omega) (by omega) (by simp; omega) ?_; intro v' w5 hg5 hgr5)
            go_roundw
            case rel => exact ⟨k + 1, by omega, by go_num, by rw [hst, joinOne_other (by rw [hmm]; exact hll) hcr]; exact hg5, (hgr3.alloc _).below (hb4.alloc (by simp; omega) _) hgr5 (Nat.le_refl _) (by simp; omega)⟩
            case measure => simp [intOf]; omega
      · obtain rfl : k = n := by omega
        have hl := joinTo_len ps k
        have hsz := hb2.size
        cases h2 : climbsOk (joinTo ps k)
        · have H : Hid (joinXs ps = [] ∧ joinCode ps = 5) := by show _ ∧ _; unfold joinXs joinCode; rw [HO.out, h.1, h2]; exact ⟨rfl, rfl⟩
          obtain ⟨A1, cap1, rfl, ho⟩ := hgr.own Climb.cs_len
          go_wp2_with (go_at_call 66; refine (l23Ok_any _ _ _ (joinTo ps k) _ _ (ho.arr Climb.cs_len) (by omega)).mono ?_; rintro e w2 ⟨rfl, rfl⟩)
          go_ret2
          rw [H.out.1, H.out.2]; exact RetS.nil hb2
        · have H : Hid (joinXs ps = joinTo ps k ∧ joinCode ps = 0) := by show _ ∧ _; unfold joinXs joinCode; rw [HO.out, h.1, h2]; exact ⟨rfl, rfl⟩
          have hg2 := hgr
          obtain ⟨A1, cap1, rfl, ho⟩ := hgr.own Climb.cs_len
          go_wp2_with (go_at_call 66; refine (l23Ok_any _ _ _ (joinTo ps k) _ _ (ho.arr Climb.cs_len) (by omega)).mono ?_; rintro e w2 ⟨rfl, rfl⟩)
          go_ret2
          rw [H.out.1, H.out.2]; exact hg2.rets Climb.cs_len hb2
end Go.Proofs.Ythlfmhigbhcljaa
