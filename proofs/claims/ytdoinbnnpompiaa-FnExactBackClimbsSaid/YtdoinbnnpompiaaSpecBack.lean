/- BackClimbs of the reference hands back backXs and backCode. -/
import Derived.Test.YtdoinbnnpompiaaJoinClimbs
import Derived.Deep.RegionHeld3
import Derived.Deep.AppendLies
import Derived.IntWalk
import Derived.Test.YtdoinbnnpompiaaSteps
namespace Go.Proofs.Ytdoinbnnpompiaa
open Go.RowKit
set_option linter.unusedVariables false

set_option maxRecDepth 100000 in
set_option maxHeartbeats 1600000 in
theorem specBackClimbs_any (A : Option Addr) (n c : Nat) (ps : List Climb) (w : World) (lo : Nat) (h : Arr Climb.cs 2 w lo w.heap.size A n ps) (hn : n ≤ 1048576) :
    Calls Try.prog 67 #[.slice A n c] w (RetS Climb.cs 2 197 (backXs ps) (backCode ps) w) := by
  cases h1 : climbsOk ps
  · have H : Hid (backXs ps = [] ∧ backCode ps = 1) := by show _ ∧ _; unfold backXs backCode; rw [h1]; exact ⟨rfl, rfl⟩
    go_enter Try.func67, Try.ntmps67
    go_wp2_with (go_at_call 144; refine (l23Ok_any _ _ _ ps _ lo h (by omega)).mono ?_; rintro e w1 ⟨rfl, rfl⟩)
    go_ret2
    rw [H.out.1, H.out.2]; exact RetS.nil (Below.refl _ _)
  · have HO := Lib.hid h1
    have hl := h.1
    have H60 : n ≤ 60 := by have := climbsOk_len h1; rw [h.1] at this; exact this
    have H : Hid (backXs ps = backTo ps n ∧ backCode ps = 0) := by show _ ∧ _; unfold backXs backCode; rw [h1, hl]; exact ⟨rfl, rfl⟩
    obtain ⟨i0, hi0, hz0, hz1, hz2⟩ := info_parts infoClimb
    have HI := Lib.hid (And.intro hi0 (And.intro hz0 (And.intro hz1 hz2)))
    clear hi0 hz0 hz1 hz2
    go_enter Try.func67, Try.ntmps67
    go_wp2_with (go_at_call 144; refine (l23Ok_any _ _ _ ps _ lo h (by omega)).mono ?_; rintro e w1 ⟨rfl, rfl⟩)
    clear h1
    go_loopw [4, 5] (fun v i wr => ∃ k : Nat, k ≤ n ∧ i = .int .i64 ((n : Int) - 1 - k) ∧ Grow Climb.cs 2 wr w.heap.size 197 v (backTo ps k) ∧ Below w.heap.size w wr) (fun _ i _ => (intOf i + 1).toNat)
    case atStart => exact ⟨0, Nat.zero_le _, by simp, Grow.empty _ _ _ (Nat.le_refl _), (Below.refl _ _).alloc (Nat.le_refl _) _⟩
    case round =>
      obtain ⟨k, hk, rfl, hgr, hb⟩ := hrel
      by_cases hlt : k < n
      · obtain ⟨m, hm⟩ : ∃ m : Nat, n - 1 - k = m := ⟨_, rfl⟩
        have hmI : (n : Int) - 1 - k = (m : Int) := by omega
        obtain ⟨b, off, p, rfl, hx, _, hbl, c0, c1⟩ := Climb.at (h.below hb) (show m < n by omega)
        have hst := backTo_step hl (by rw [hm]; exact hx)
        have hpb := cOk_sec (climbsOk_mem HO.out (List.mem_of_getElem? hx))
        have hlb := backTo_len ps k
        have HST := Lib.hid hst
        have hm0 : (0 : Int) ≤ (m : Int) := by omega
        have hml : (m : Int) < (n : Int) := by omega
        have hsz := hb.size
        clear hx hst hm
        obtain ⟨A1, cap1, rfl, _⟩ := hgr.own Climb.cs_len
        rw [hmI]
        generalize backTo ps k = out at *
        have HG := Lib.hid hgr
        have HB := Lib.hid hb
        have hbl2 : b < wr.heap.size := by omega
        have hne : ∀ g, (Value.slice A1 out.length cap1).ownBlock = some g → w.heap.size ≤ g := fun g hg => (hgr.lt g hg).1
        have hnb : some b ≠ (Value.slice A1 out.length cap1).ownBlock := fun hh => by have := hne b hh.symm; omega
        have HNB := Lib.hid hnb
        have HNE := Lib.hid hne
        clear hnb hne hgr hb
        have hwr : IntKind.i64.wrap (-p.sections) = -p.sections := IntWalk.i64_in _ ⟨by omega, by omega⟩
        go_wp2
        go_region_held3 (fun w' => w'.cell? ⟨b, off + m * 2, none⟩ = some (.int .i64 p.crane) ∧ w'.cell? ⟨b, off + m * 2 + 1, none⟩ = some (.int .i64 p.sections)) (first | go_keep | exact K1) ((refine step_snoc (by rfl) _ _ _ (by rfl) w.heap.size 197 (.agg #[.int .i64 0, .int .i64 0]) 16 Try.underlying102 infoClimb rfl (by omega) (.slice A1 out.length cap1) out (negC p) (by rfl) (show Grow Climb.cs 2 (wr.alloc (.cells #[.int .i64 p.crane, .int .i64 (-p.sections)] 197)).drew w.heap.size 197 (.slice A1 out.length cap1) out from (HG.out.alloc _).bel ((Below.refl _ _).drew)) wr.heap.size #[.int .i64 p.crane, .int .i64 (-p.sections)] (by rfl) (heap_alloc_new wr _) rfl rfl (Climb.cs_one _) (by omega) (by omega) (show w.heap.size ≤ (wr.alloc (.cells #[.int .i64 p.crane, .int .i64 (-p.sections)] 197)).heap.size from by simp; omega) (out.length + 1) rfl ?_; intro A6 cap6 w1 hg6 hgrow; have K1 := And.intro ((hgrow.cell_far ⟨b, off + m * 2, none⟩ (show b < (wr.alloc (.cells #[.int .i64 p.crane, .int .i64 (-p.sections)] 197)).drew.heap.size from by show b < (wr.alloc _).heap.size; simp; omega) HNB.out).trans (show (wr.alloc (.cells #[.int .i64 p.crane, .int .i64 (-p.sections)] 197)).cell? ⟨b, off + m * 2, none⟩ = _ from (World.cell?_alloc_lt wr _ ⟨b, off + m * 2, none⟩ hbl2).trans c0)) ((hgrow.cell_far ⟨b, off + m * 2 + 1, none⟩ (show b < (wr.alloc (.cells #[.int .i64 p.crane, .int .i64 (-p.sections)] 197)).drew.heap.size from by show b < (wr.alloc _).heap.size; simp; omega) HNB.out).trans (show (wr.alloc (.cells #[.int .i64 p.crane, .int .i64 (-p.sections)] 197)).cell? ⟨b, off + m * 2 + 1, none⟩ = _ from (World.cell?_alloc_lt wr _ ⟨b, off + m * 2 + 1, none⟩ hbl2).trans c1))))
        all_goals
          go_wp2
          go_roundw
          · exact ⟨k + 1, by omega, by go_num, by rw [HST.out]; exact hg6, ((HB.out.alloc hsz (.cells #[.int .i64 p.crane, .int .i64 (-p.sections)] 197)).drew).grown hgrow (by show w.heap.size ≤ (wr.alloc _).heap.size; simp; omega) HNE.out⟩
          · simp [intOf]
      · obtain rfl : k = n := by omega
        have hneg : ¬ (0 : Int) ≤ (k : Int) - 1 - k := by omega
        go_wp2
        go_ret2
        rw [H.out.1, H.out.2]; exact hgr.rets Climb.cs_len hb
end Go.Proofs.Ytdoinbnnpompiaa
