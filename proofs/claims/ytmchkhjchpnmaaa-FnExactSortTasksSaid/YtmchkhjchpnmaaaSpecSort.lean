/- SortTasks of the reference hands back srtXs and srtCode. -/
import Derived.Test.YtmchkhjchpnmaaaSpecPut
namespace Go.Proofs.Ytmchkhjchpnmaaa
open Go.RowKit
set_option linter.unusedVariables false

theorem l11Ok_eq (A : Option Addr) (n c : Nat) (ps : List Task) (w : World) (lo : Nat) (h : Arr Task.cs 4 w lo w.heap.size A n ps) (hn : n ≤ 1048576) {v : Bool} (hv : tasksOk ps = v) :
    Calls Try.prog 13 #[.slice A n c] w (Quiet (.bool v) w) := by subst hv; exact l11Ok_any A n c ps w lo h hn
theorem all_step {ps : List Task} {k : Nat} {p : Task} (h : (ps.take k).all tOk = true) (hx : ps[k]? = some p) (hp : tOk p = true) : (ps.take (k + 1)).all tOk = true := by
  obtain ⟨hk, rfl⟩ := List.getElem?_eq_some_iff.1 hx
  rw [List.take_succ_eq_append_getElem hk, List.all_append, h]; simp [hp]
theorem all_bad {ps : List Task} {k : Nat} {p : Task} (hx : ps[k]? = some p) (hp : tOk p = false) : ps.all tOk = false := by
  cases h : ps.all tOk with
  | false => rfl
  | true => rw [List.all_eq_true] at h; rw [h p (List.mem_of_getElem? hx)] at hp; cases hp

set_option maxRecDepth 100000 in
set_option maxHeartbeats 3200000 in
theorem specSortTasks_any (a : Addr) (n c : Nat) (ps : List Task) (w : World) (lo : Nat) (h : Arr Task.cs 4 w lo w.heap.size (some a) n ps) (hn : n ≤ 1048576) :
    Calls Try.prog 5 #[.slice (some a) n c] w (RetS Task.cs 4 34 (srtXs ps) (srtCode ps) w) := by
  have hlen := Lib.hid h.1
  go_enter Try.func5, Try.ntmps5
  go_wp2
  go_loopw [4] (fun v wr => ∃ k N : Nat, k ≤ n ∧ v = .int .i64 k ∧ (ps.take k).all tOk = true ∧ wr = w.drewN N) (fun v _ => n - (intOf v).toNat)
  case atStart => exact ⟨0, 0, Nat.zero_le _, rfl, by simp, rfl⟩
  case round =>
    obtain ⟨k, N, hk, rfl, hall, hwr⟩ := hrel
    have HA := Lib.hid hall
    have hbN : Below w.heap.size w wr := by rw [hwr]; exact bel_drewN (Below.refl _ _) N
    have HW := Lib.hid hwr
    clear hall hwr
    by_cases hlt : k < n
    · obtain ⟨b, off, p, e1, hx, _, hbl, c0, c1, c2, c3⟩ := Task.at (h.below hbN) hlt
      cases e1
      have HX := Lib.hid hx
      have hk0 : (0 : Int) ≤ (k : Int) := by omega
      have hk1 : (k : Int) < (n : Int) := by omega
      clear hx
      cases hq : tOk p
      · have HQ := Lib.hid hq
        have H := Lib.hid (srt_2 (all_bad HX.out hq))
        go_wp2_with (go_at_call 11; refine (l11One_eq b _ p _ hq c0 c1 c2 c3).mono ?_; rintro e w4 ⟨rfl, N2, rfl⟩)
        go_ret2
        rw [H.out.1, H.out.2]; exact RetS.nil (bel_drewN hbN N2)
      · have HQ := Lib.hid hq
        go_wp2_with (go_at_call 11; refine (l11One_eq b _ p _ hq c0 c1 c2 c3).mono ?_; rintro e w4 ⟨rfl, N2, rfl⟩)
        go_roundw
        case rel => exact ⟨k + 1, N + N2, by omega, by go_num, all_step HA.out HX.out HQ.out, by rw [HW.out]; exact World.drewN_drewN _ _ _⟩
        case measure => simp [intOf]; omega
    · obtain rfl : k = n := by omega
      have HALL : Hid (ps.all tOk = true) := by have := HA.out; rw [List.take_of_length_le (by rw [hlen.out]; exact Nat.le_refl _)] at this; exact this
      by_cases h40 : k ≤ 40
      · have h40z : ¬ (40 : Int) < (k : Int) := by omega
        have hszN := hbN.size
        have hAN := Lib.hid (h.below hbN)
        have HBN := Lib.hid hbN
        have hadd : ∃ b off, a = ⟨b, off, none⟩ ∨ k = 0 := by
          rcases Nat.eq_zero_or_pos k with h0 | h0
          · exact ⟨0, 0, Or.inr h0⟩
          · obtain ⟨b, off, e, _⟩ := h.2 h0
            exact ⟨b, off, Or.inl (by injection e)⟩
        go_wp2
        go_loopw [5, 6] (fun s v wr2 => ∃ j g cap : Nat, j ≤ k ∧ v = .int .i64 j ∧ s = .slice (some ⟨g, 0, none⟩) j cap ∧ j ≤ cap ∧ cap ≤ 9223372036854775807 ∧ Grow Task.cs 4 wr2 w.heap.size 34 s (srt ps j) ∧ Below w.heap.size w wr2) (fun _ v _ => k - (intOf v).toNat)
        case atStart => exact ⟨0, _, 0, Nat.zero_le _, rfl, rfl, Nat.le_refl _, by omega, Grow.empty _ _ _ hszN, HBN.out.alloc hszN _⟩
        case round =>
          obtain ⟨j, g, cap, hj, rfl, rfl, hjc, hcm, hgr, hb2⟩ := hrel
          have hsl : (srt ps j).length = j := srt_len ps j (by have := hlen.out; omega)
          have harr : Arr Task.cs 4 wr w.heap.size wr.heap.size (some ⟨g, 0, none⟩) j (srt ps j) := by
            obtain ⟨A, cap', e1, ho⟩ := hgr.own Task.cs_len
            have ho2 := ho.arr Task.cs_len
            rw [hsl] at e1 ho2
            cases e1
            exact ho2
          have HARR := Lib.hid harr
          have HGR := Lib.hid hgr
          have HSL := Lib.hid hsl
          have HB2 := Lib.hid hb2
          have hs2 := hb2.size
          clear harr hsl hgr
          by_cases hlt2 : j < k
          · obtain ⟨b, off, p, e1, hx, _, hbl, c0, c1, c2, c3⟩ := Task.at (h.below hb2) hlt2
            cases e1
            have HX := Lib.hid hx
            have hk0 : (0 : Int) ≤ (j : Int) := by omega
            have hk1 : (j : Int) < (k : Int) := by omega
            clear hx hb2
            go_wp2_with fail
            refine (l12Put_any g 0 j cap (srt ps j) p _ w.heap.size HARR.out hjc (by omega) hcm).mono ?_
            rintro e w5 ⟨v5, rfl, hg5, hb5⟩
            have hl5 : (putT p (srt ps j)).length = j + 1 := by rw [putT_len, HSL.out]
            obtain ⟨g5, cap5, cs5, rfl, _, _, _, hm1, hm2, _, _⟩ := hg5.parts (by omega)
            rw [hl5] at hm1 hg5 ⊢
            have HG5 := Lib.hid hg5
            have HB5 := Lib.hid hb5
            have HM2 : Hid (cap5 ≤ 9223372036854775807) := hm2
            clear hg5 hb5 hm2 hl5
            go_wp2
            go_roundw
            case rel => exact ⟨j + 1, g5, cap5, by omega, by go_num, rfl, hm1, HM2.out, by rw [srt_succ HX.out]; exact HG5.out.less hs2, HB2.out.trans (HB5.out.mono hs2)⟩
            case measure => simp [intOf]; omega
          · obtain rfl : j = k := by omega
            have HSA : Hid (srt ps j = srtAll ps) := by show _ = _; unfold srtAll; rw [hlen.out]
            clear hb2
            cases hv : tasksOk (srt ps j)
            · have H := Lib.hid (srt_4 HALL.out (by rw [hlen.out]; exact h40) (by rw [← HSA.out]; exact hv))
              go_wp2_with (go_at_call 13; refine (quiet_bel (l11Ok_eq (some ⟨g, 0, none⟩) j cap (srt ps j) _ w.heap.size HARR.out (by omega) hv)).mono ?_; rintro e w5 ⟨rfl, hb5⟩)
              go_ret2
              rw [H.out.1, H.out.2]; exact RetS.nil (HB2.out.trans (hb5.mono hs2))
            · have H := Lib.hid (srt_0 HALL.out (by rw [hlen.out]; exact h40) (by rw [← HSA.out]; exact hv))
              go_wp2_with (go_at_call 13; refine (quiet_bel (l11Ok_eq (some ⟨g, 0, none⟩) j cap (srt ps j) _ w.heap.size HARR.out (by omega) hv)).mono ?_; rintro e w5 ⟨rfl, hb5⟩)
              go_ret2
              rw [H.out.1, H.out.2, ← HSA.out]
              exact (HGR.out.bel hb5).rets Task.cs_len (HB2.out.trans (hb5.mono hs2))
      · have h40z : (40 : Int) < (k : Int) := by omega
        have H := Lib.hid (srt_5 HALL.out (by rw [hlen.out]; exact h40))
        go_wp2
        go_ret2
        rw [H.out.1, H.out.2]; exact RetS.nil hbN
end Go.Proofs.Ytmchkhjchpnmaaa
