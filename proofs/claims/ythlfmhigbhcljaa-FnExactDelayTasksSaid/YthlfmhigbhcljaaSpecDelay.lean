/- DelayTasks of the reference hands back delXs and delCode. -/
import Derived.Test.YthlfmhigbhcljaaDelayTasks
namespace Go.Proofs.Ythlfmhigbhcljaa
open Go.RowKit
set_option linter.unusedVariables false

set_option maxRecDepth 100000 in
set_option maxHeartbeats 1600000 in
theorem specDelayTasks_any (a : Addr) (n c : Nat) (ps : List Task) (start sh : Int) (w : World) (lo : Nat) (h : Arr Task.cs 4 w lo w.heap.size (some a) n ps) (hn : n ≤ 1048576) :
    Calls Try.prog 49 #[.slice (some a) n c, .int .i64 start, .int .i64 sh] w (RetS Task.cs 4 120 (delXs ps start sh) (delCode ps start sh) w) := by
  cases h1 : tasksOk ps
  · have H := Lib.hid (del_1 start sh h1)
    go_enter Try.func49, Try.ntmps49
    go_wp2_with (go_at_call 82; refine (quiet_bel (l11Ok_any _ _ _ ps _ lo h hn)).mono ?_; rintro e w1 ⟨rfl, hb⟩)
    go_ret2
    rw [H.out.1, H.out.2]; exact RetS.nil hb
  · cases h2 : inB sh 0 1000000
    · have H := Lib.hid (del_2 start h1 h2)
      go_enter Try.func49, Try.ntmps49
      go_wp2_with (first | (go_at_call 82; refine (quiet_bel (l11Ok_any _ _ _ ps _ lo h hn)).mono ?_; rintro e w1 ⟨rfl, hb⟩) | (go_at_call 99; refine (l00In_any _ _ _ _).mono ?_; rintro e w2 ⟨rfl, rfl⟩))
      go_ret2
      rw [H.out.1, H.out.2]; exact RetS.nil hb
    · have H1 := Lib.hid h1
      have H2 := Lib.hid h2
      have hsh := inB_true.1 h2
      have hlen := h.1
      go_enter Try.func49, Try.ntmps49
      go_wp2_with (first | (go_at_call 82; refine (quiet_bel (l11Ok_any _ _ _ ps _ lo h hn)).mono ?_; rintro e w1 ⟨rfl, hb⟩) | (go_at_call 99; refine (l00In_any _ _ _ _).mono ?_; rintro e w2 ⟨rfl, rfl⟩))
      clear h1 h2
      have hs1 := hb.size
      go_loopw [8, 9] (fun v i wr => ∃ k : Nat, k ≤ n ∧ i = .int .i64 k ∧ allTo (delAt ps start sh) k = true ∧ Grow Task.cs 4 wr w.heap.size 120 v ((ps.take k).map (del start sh)) ∧ Below w.heap.size w wr) (fun _ i _ => n - (intOf i).toNat)
      case atStart => exact ⟨0, Nat.zero_le _, rfl, rfl, Grow.empty _ _ _ hs1, hb.alloc hs1 _⟩
      case round =>
        obtain ⟨k, hk, rfl, hall, hgr, hb2⟩ := hrel
        have HA := Lib.hid hall
        clear hall
        by_cases hlt : k < n
        · obtain ⟨b, off, p, e1, hx, _, hbl, c0, c1, c2, c3⟩ := Task.at (h.below hb2) hlt
          cases e1
          have hpb := tOk_bounds (tasksOk_mem H1.out (List.mem_of_getElem? hx))
          have hp := tasksOk_mem H1.out (List.mem_of_getElem? hx)
          have HX := Lib.hid hx
          have hsz := hb2.size
          have hk0 : (0 : Int) ≤ (k : Int) := by omega
          have hk1 : (k : Int) < (n : Int) := by omega
          have hlt2 : ((ps.take k).map (del start sh)).length ≤ 1048576 := by simp; omega
          have hstep : ∀ t, ps[k]? = some t → (ps.take (k + 1)).map (del start sh) = (ps.take k).map (del start sh) ++ [del start sh t] := fun t ht => by
            obtain ⟨hkk, rfl⟩ := List.getElem?_eq_some_iff.1 ht
            rw [List.take_succ_eq_append_getElem hkk, List.map_append]; rfl
          have HS := Lib.hid (hstep p hx)
          clear hx hstep
          generalize (ps.take k).map (del start sh) = out at *
          by_cases hst : p.start < start
          · have hD : del start sh p = p := by unfold del; rw [if_pos hst]
            have HP := Lib.hid hp
            go_wp2_with fail
            refine (l11One_eq wr.heap.size 0 p _ hp (by simp) (by simp) (by simp) (by simp)).mono ?_
            rintro e w4 ⟨rfl, N, rfl⟩
            have hb3 : Below wr.heap.size wr ((wr.alloc (.cells #[.int .i64 p.lift, .int .i64 p.crane, .int .i64 p.start, .int .i64 p.stop] 120)).drewN N) := bel_drewN ((Below.refl _ _).alloc (Nat.le_refl _) _) N
            have hgr3 := hgr.bel hb3
            have hb4 := hb2.trans (hb3.mono hsz)
            go_wp2_with (at_builtin; refine wpList_snoc _ rfl _ _ 51 rfl w.heap.size 120 (.agg #[.int .i64 0, .int .i64 0, .int .i64 0, .int .i64 0]) 32 Try.underlying51 TaskInfo rfl (by omega) _ out p rfl (hgr3.alloc _) _ _ rfl (heap_new_at _ _ (by simp)) rfl rfl (Task.cs_one _) (by omega) (by omega) (by simp; omega) ?_; intro v' w5 hg5 hgr5)
            go_roundw
            case rel => exact ⟨k + 1, by omega, by go_num, allTo_step HA.out (by rw [delAt_of HX.out, hD]; exact HP.out), by rw [HS.out, hD]; exact hg5, (hgr3.alloc _).below (hb4.alloc (by simp; omega) _) hgr5 (Nat.le_refl _) (by simp; omega)⟩
            case measure => simp [intOf]; omega
          · have hD : del start sh p = del2 p sh := by unfold del; rw [if_neg hst]
            cases hv : tOk (del2 p sh)
            · have HV := Lib.hid hv
              go_wp2_with fail
              refine (l11One_eq wr.heap.size 0 (del2 p sh) _ hv (by simp [del2]) (by simp [del2]) (by simp [del2]) (by simp [del2])).mono ?_
              rintro e w4 ⟨rfl, N, rfl⟩
              go_wp2
              go_ret2
              have H := Lib.hid (del_5 H1.out H2.out (start := start) (allTo_bad (k := k) (by omega) (by rw [delAt_of HX.out, hD]; exact HV.out)))
              rw [H.out.1, H.out.2]; exact RetS.nil (bel_drewN (hb2.alloc hsz _) N)
            · have HV := Lib.hid hv
              go_wp2_with fail
              refine (l11One_eq wr.heap.size 0 (del2 p sh) _ hv (by simp [del2]) (by simp [del2]) (by simp [del2]) (by simp [del2])).mono ?_
              rintro e w4 ⟨rfl, N, rfl⟩
              have hb3 : Below wr.heap.size wr ((wr.alloc (.cells #[.int .i64 p.lift, .int .i64 p.crane, .int .i64 (p.start + sh), .int .i64 (p.stop + sh)] 120)).drewN N) := bel_drewN ((Below.refl _ _).alloc (Nat.le_refl _) _) N
              have hgr3 := hgr.bel hb3
              have hb4 := hb2.trans (hb3.mono hsz)
              go_wp2_with (at_builtin; refine wpList_snoc _ rfl _ _ 51 rfl w.heap.size 120 (.agg #[.int .i64 0, .int .i64 0, .int .i64 0, .int .i64 0]) 32 Try.underlying51 TaskInfo rfl (by omega) _ out (del2 p sh) rfl (hgr3.alloc _) _ _ rfl (heap_new_at _ _ (by simp)) rfl rfl (Task.cs_one _) (by omega) (by omega) (by simp; omega) ?_; intro v' w5 hg5 hgr5)
              go_roundw
              case rel => exact ⟨k + 1, by omega, by go_num, allTo_step HA.out (by rw [delAt_of HX.out, hD]; exact HV.out), by rw [HS.out, hD]; exact hg5, (hgr3.alloc _).below (hb4.alloc (by simp; omega) _) hgr5 (Nat.le_refl _) (by simp; omega)⟩
              case measure => simp [intOf]; omega
        · obtain rfl : k = n := by omega
          have H := Lib.hid (del_0 H1.out H2.out (start := start) (by rw [hlen]; exact HA.out))
          have ht : ps.take k = ps := List.take_of_length_le (by omega)
          rw [ht] at hgr
          go_wp2
          go_ret2
          rw [H.out.1, H.out.2]; exact hgr.rets Task.cs_len hb2
end Go.Proofs.Ythlfmhigbhcljaa
