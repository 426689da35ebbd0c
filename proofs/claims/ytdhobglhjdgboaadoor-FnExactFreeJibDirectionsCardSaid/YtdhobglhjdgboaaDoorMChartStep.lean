/- markChartStepS and heldChartStepS: what they write, and that what was written is found again. -/
import Derived.Test.YtdhobglhjdgboaaDoorRChartStep
namespace Go.Proofs.YtdhobglhjdgboaaDoor
open Go.RowKit
set_option linter.unusedVariables false

/-- the record that markChartStepS writes at number q -/
def markChartStep (q : Int) : ChartStep := ⟨(q), (q + 1)⟩
def marksChartStep (q : Int) (n : Nat) : List ChartStep := (List.range n).map fun i => markChartStep (q + 2 * (i : Nat))
theorem marksChartStep_len (q : Int) (n : Nat) : (marksChartStep q n).length = n := by simp [marksChartStep]
theorem marksChartStep_at {q : Int} {n i : Nat} (h : i < n) : (marksChartStep q n)[i]? = some (markChartStep (q + 2 * (i : Nat))) := by simp [marksChartStep, h]
theorem marksChartStep_eq {q : Int} {n i : Nat} {p : ChartStep} (h : (marksChartStep q n)[i]? = some p) : p = markChartStep (q + 2 * (i : Nat)) := by
  have hl := (List.getElem?_eq_some_iff.1 h).1
  rw [marksChartStep_len] at hl
  rw [marksChartStep_at hl] at h; exact (Option.some.inj h).symm

set_option maxHeartbeats 1600000 in
theorem markChartStepS_any (A : Option Addr) (n c : Nat) (ps : List ChartStep) (q : Int) (w : World) (lo hi : Nat) (h : Own ChartStep.cs 2 w lo hi 220 A n ps) (hn : n ≤ 4194304) (hq : 0 ≤ q) (hq2 : q ≤ 1073741824) :
    Calls Tryd.prog 90 #[.slice A n c, .int .i64 q] w fun e w' => e = .returned (.int .i64 (q + 2 * (n : Nat))) ∧ Within lo hi w w' ∧ Own ChartStep.cs 2 w' lo hi 220 A n (marksChartStep q n) := by
  by_cases hn0 : n = 0
  · subst hn0
    go_enter Tryd.func90, Tryd.ntmps90
    go_wp2
    refine wp_loop_rounds 1 ?_
    rw [rounds_succ]
    go_wp2
    go_ret
    exact ⟨ret_int (by omega), Within.refl _ _ _, Own.nil _⟩
  · obtain ⟨g, cs0, rfl, hg1, hg2, hb0, hs0, _⟩ := h.2 (by omega)
    go_enter Tryd.func90, Tryd.ntmps90
    go_wp2
    go_loopw [1, 5] (fun m i wr => ∃ (k : Nat) (cs : Array Value), k ≤ n ∧ i = .int .i64 k ∧ m = .int .i64 (q + 2 * (k : Nat)) ∧ Blk wr g 220 cs ∧ n * 2 ≤ cs.size ∧ Filled ChartStep.cs 2 cs (marksChartStep q n) k ∧ Within lo hi w wr) (fun _ i _ => n - (intOf i).toNat)
    case atStart => exact ⟨0, cs0, Nat.zero_le _, rfl, by simp, hb0, hs0, Filled.start _ _, Within.refl _ _ _⟩
    case round =>
      obtain ⟨k, cs, hk, rfl, rfl, hblk, hsz, hfill, hw⟩ := hrel
      have HZ := Lib.hid hsz
      clear hsz
      by_cases hlt : k < n
      · have hm : (marksChartStep q n)[k]? = some (markChartStep (q + 2 * (k : Nat))) := marksChartStep_at hlt
        have HM := Lib.hid hm
        clear hm
        obtain ⟨Q, hQ⟩ : ∃ Q : Int, Q = q + 2 * (k : Nat) := ⟨_, rfl⟩
        have HQ := Lib.hid hQ
        have hQ0 : 0 ≤ Q := by omega
        have hQ1 : Q ≤ 2147483648 := by omega
        rw [← hQ] at HM ⊢
        clear hQ
        have hg := hblk.lt
        obtain ⟨u0, e0⟩ : ∃ u, wr.cell? ⟨g, k * 2, none⟩ = some u := hblk.there (by have := HZ.out; omega)
        obtain ⟨u1, e1⟩ : ∃ u, wr.cell? ⟨g, k * 2 + 1, none⟩ = some u := hblk.there (by have := HZ.out; omega)
        have f0 := hblk.frozen (k * 2)
        have f1 := hblk.frozen (k * 2 + 1)
        have HB := Lib.hid hblk
        clear hblk
        go_wp2
        go_roundw
        case rel => exact ⟨k + 1, _, by omega, by go_num, by rw [HQ.out]; go_num, (HB.out.set_ (k * 2) (.int .i64 (Q))).set_ (k * 2 + 1) (.int .i64 (Q + 1)), by have := HZ.out; simpa using this, hfill.put2 HM.out (by have := HZ.out; omega), ((hw).setCell hg1 hg2 _).setCell hg1 hg2 _⟩
        case measure => simp [intOf]; omega
      · obtain rfl : k = n := by omega
        go_wp2
        go_ret
        exact ⟨rfl, hw, marksChartStep_len _ _, fun _ => ⟨g, cs, rfl, hg1, hg2, hblk, HZ.out, fun i x hx j hj => hfill i x (by have := (List.getElem?_eq_some_iff.1 hx).1; rw [marksChartStep_len] at this; exact this) hx j hj⟩⟩

end Go.Proofs.YtdhobglhjdgboaaDoor
