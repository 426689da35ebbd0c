/- markTaskS and heldTaskS: what they write, and that what was written is found again. -/
import Derived.Test.YtkegncanmfmmmaaDoorRTask
namespace Go.Proofs.YtkegncanmfmmmaaDoor
open Go.RowKit
set_option linter.unusedVariables false

/-- the record that markTaskS writes at number q -/
def markTask (q : Int) : Task := ⟨(q), (q + 1), (q + 1 + 1), (q + 1 + 1 + 1)⟩
def marksTask (q : Int) (n : Nat) : List Task := (List.range n).map fun i => markTask (q + 4 * (i : Nat))
theorem marksTask_len (q : Int) (n : Nat) : (marksTask q n).length = n := by simp [marksTask]
theorem marksTask_at {q : Int} {n i : Nat} (h : i < n) : (marksTask q n)[i]? = some (markTask (q + 4 * (i : Nat))) := by simp [marksTask, h]
theorem marksTask_eq {q : Int} {n i : Nat} {p : Task} (h : (marksTask q n)[i]? = some p) : p = markTask (q + 4 * (i : Nat)) := by
  have hl := (List.getElem?_eq_some_iff.1 h).1
  rw [marksTask_len] at hl
  rw [marksTask_at hl] at h; exact (Option.some.inj h).symm

set_option maxHeartbeats 1600000 in
theorem markTaskS_any (A : Option Addr) (n c : Nat) (ps : List Task) (q : Int) (w : World) (lo hi : Nat) (h : Own Task.cs 4 w lo hi 102 A n ps) (hn : n ≤ 4194304) (hq : 0 ≤ q) (hq2 : q ≤ 1073741824) :
    Calls Tryd.prog 28 #[.slice A n c, .int .i64 q] w fun e w' => e = .returned (.int .i64 (q + 4 * (n : Nat))) ∧ Within lo hi w w' ∧ Own Task.cs 4 w' lo hi 102 A n (marksTask q n) := by
  by_cases hn0 : n = 0
  · subst hn0
    go_enter Tryd.func28, Tryd.ntmps28
    go_wp2
    refine wp_loop_rounds 1 ?_
    rw [rounds_succ]
    go_wp2
    go_ret
    exact ⟨ret_int (by omega), Within.refl _ _ _, Own.nil _⟩
  · obtain ⟨g, cs0, rfl, hg1, hg2, hb0, hs0, _⟩ := h.2 (by omega)
    go_enter Tryd.func28, Tryd.ntmps28
    go_wp2
    go_loopw [1, 5] (fun m i wr => ∃ (k : Nat) (cs : Array Value), k ≤ n ∧ i = .int .i64 k ∧ m = .int .i64 (q + 4 * (k : Nat)) ∧ Blk wr g 102 cs ∧ n * 4 ≤ cs.size ∧ Filled Task.cs 4 cs (marksTask q n) k ∧ Within lo hi w wr) (fun _ i _ => n - (intOf i).toNat)
    case atStart => exact ⟨0, cs0, Nat.zero_le _, rfl, by simp, hb0, hs0, Filled.start _ _, Within.refl _ _ _⟩
    case round =>
      obtain ⟨k, cs, hk, rfl, rfl, hblk, hsz, hfill, hw⟩ := hrel
      have HZ := Lib.hid hsz
      clear hsz
      by_cases hlt : k < n
      · have hm : (marksTask q n)[k]? = some (markTask (q + 4 * (k : Nat))) := marksTask_at hlt
        have HM := Lib.hid hm
        clear hm
        obtain ⟨Q, hQ⟩ : ∃ Q : Int, Q = q + 4 * (k : Nat) := ⟨_, rfl⟩
        have HQ := Lib.hid hQ
        have hQ0 : 0 ≤ Q := by omega
        have hQ1 : Q ≤ 2147483648 := by omega
        rw [← hQ] at HM ⊢
        clear hQ
        have hg := hblk.lt
        obtain ⟨u0, e0⟩ : ∃ u, wr.cell? ⟨g, k * 4, none⟩ = some u := hblk.there (by have := HZ.out; omega)
        obtain ⟨u1, e1⟩ : ∃ u, wr.cell? ⟨g, k * 4 + 1, none⟩ = some u := hblk.there (by have := HZ.out; omega)
        obtain ⟨u2, e2⟩ : ∃ u, wr.cell? ⟨g, k * 4 + 2, none⟩ = some u := hblk.there (by have := HZ.out; omega)
        obtain ⟨u3, e3⟩ : ∃ u, wr.cell? ⟨g, k * 4 + 3, none⟩ = some u := hblk.there (by have := HZ.out; omega)
        have f0 := hblk.frozen (k * 4)
        have f1 := hblk.frozen (k * 4 + 1)
        have f2 := hblk.frozen (k * 4 + 2)
        have f3 := hblk.frozen (k * 4 + 3)
        have HB := Lib.hid hblk
        clear hblk
        go_wp2
        go_roundw
        case rel => exact ⟨k + 1, _, by omega, by go_num, by rw [HQ.out]; go_num, (((HB.out.set_ (k * 4) (.int .i64 (Q))).set_ (k * 4 + 1) (.int .i64 (Q + 1))).set_ (k * 4 + 2) (.int .i64 (Q + 1 + 1))).set_ (k * 4 + 3) (.int .i64 (Q + 1 + 1 + 1)), by have := HZ.out; simpa using this, hfill.put4 HM.out (by have := HZ.out; omega), ((((hw).setCell hg1 hg2 _).setCell hg1 hg2 _).setCell hg1 hg2 _).setCell hg1 hg2 _⟩
        case measure => simp [intOf]; omega
      · obtain rfl : k = n := by omega
        go_wp2
        go_ret
        exact ⟨rfl, hw, marksTask_len _ _, fun _ => ⟨g, cs, rfl, hg1, hg2, hblk, HZ.out, fun i x hx j hj => hfill i x (by have := (List.getElem?_eq_some_iff.1 hx).1; rw [marksTask_len] at this; exact this) hx j hj⟩⟩

set_option maxHeartbeats 1600000 in
theorem heldTaskS_same (A : Option Addr) (n c : Nat) (q : Int) (w : World) (lo : Nat) (h : Arr Task.cs 4 w lo w.heap.size A n (marksTask q n)) (hn : n ≤ 4194304) (hq : 0 ≤ q) (hq2 : q ≤ 1073741824) :
    Calls Tryd.prog 29 #[.slice A n c, .int .i64 q] w fun e w' => e = .returned (.int .i64 (q + 4 * (n : Nat))) ∧ Below w.heap.size w w' := by
  go_enter Tryd.func29, Tryd.ntmps29
  go_wp2
  go_loopw [1, 5] (fun m i wr => ∃ (k : Nat), k ≤ n ∧ i = .int .i64 k ∧ m = .int .i64 (q + 4 * (k : Nat)) ∧ Below w.heap.size w wr) (fun _ i _ => n - (intOf i).toNat)
  case atStart => exact ⟨0, Nat.zero_le _, rfl, by simp, Below.refl _ _⟩
  case round =>
    obtain ⟨k, hk, rfl, rfl, hb⟩ := hrel
    by_cases hlt : k < n
    · obtain ⟨b, off, p, rfl, hx, _, hbl, c0, c1, c2, c3⟩ := Task.at (h.below hb) hlt
      obtain ⟨Q, hQ⟩ : ∃ Q : Int, Q = q + 4 * (k : Nat) := ⟨_, rfl⟩
      have HQ := Lib.hid hQ
      have hQ0 : 0 ≤ Q := by omega
      have hQ1 : Q ≤ 2147483648 := by omega
      have hp := marksTask_eq hx
      rw [← hQ] at hp ⊢
      subst hp
      clear hQ hx
      simp only [markTask] at c0 c1 c2 c3
      have hk0 : (0 : Int) ≤ (k : Int) := by omega
      have hk1 : (k : Int) < (n : Int) := by omega
      go_wp2
      go_roundw
      case rel => exact ⟨k + 1, by omega, by go_num, by rw [HQ.out]; go_num, hb⟩
      case measure => simp [intOf]; omega
    · obtain rfl : k = n := by omega
      go_wp2
      go_ret
      exact ⟨rfl, hb⟩
end Go.Proofs.YtkegncanmfmmmaaDoor
