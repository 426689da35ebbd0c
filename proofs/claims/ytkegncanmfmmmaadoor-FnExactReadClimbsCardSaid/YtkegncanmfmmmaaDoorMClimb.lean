/- markClimbS and heldClimbS: what they write, and that what was written is found again. -/
import Derived.Test.YtkegncanmfmmmaaDoorRClimb
namespace Go.Proofs.YtkegncanmfmmmaaDoor
open Go.RowKit
set_option linter.unusedVariables false

/-- the record that markClimbS writes at number q -/
def markClimb (q : Int) : Climb := ⟨(q), (q + 1)⟩
def marksClimb (q : Int) (n : Nat) : List Climb := (List.range n).map fun i => markClimb (q + 2 * (i : Nat))
theorem marksClimb_len (q : Int) (n : Nat) : (marksClimb q n).length = n := by simp [marksClimb]
theorem marksClimb_at {q : Int} {n i : Nat} (h : i < n) : (marksClimb q n)[i]? = some (markClimb (q + 2 * (i : Nat))) := by simp [marksClimb, h]
theorem marksClimb_eq {q : Int} {n i : Nat} {p : Climb} (h : (marksClimb q n)[i]? = some p) : p = markClimb (q + 2 * (i : Nat)) := by
  have hl := (List.getElem?_eq_some_iff.1 h).1
  rw [marksClimb_len] at hl
  rw [marksClimb_at hl] at h; exact (Option.some.inj h).symm

set_option maxHeartbeats 1600000 in
theorem markClimbS_any (A : Option Addr) (n c : Nat) (ps : List Climb) (q : Int) (w : World) (lo hi : Nat) (h : Own Climb.cs 2 w lo hi 78 A n ps) (hn : n ≤ 4194304) (hq : 0 ≤ q) (hq2 : q ≤ 1073741824) :
    Calls Tryd.prog 18 #[.slice A n c, .int .i64 q] w fun e w' => e = .returned (.int .i64 (q + 2 * (n : Nat))) ∧ Within lo hi w w' ∧ Own Climb.cs 2 w' lo hi 78 A n (marksClimb q n) := by
  by_cases hn0 : n = 0
  · subst hn0
    go_enter Tryd.func18, Tryd.ntmps18
    go_wp2
    refine wp_loop_rounds 1 ?_
    rw [rounds_succ]
    go_wp2
    go_ret
    exact ⟨ret_int (by omega), Within.refl _ _ _, Own.nil _⟩
  · obtain ⟨g, cs0, rfl, hg1, hg2, hb0, hs0, _⟩ := h.2 (by omega)
    go_enter Tryd.func18, Tryd.ntmps18
    go_wp2
    go_loopw [1, 5] (fun m i wr => ∃ (k : Nat) (cs : Array Value), k ≤ n ∧ i = .int .i64 k ∧ m = .int .i64 (q + 2 * (k : Nat)) ∧ Blk wr g 78 cs ∧ n * 2 ≤ cs.size ∧ Filled Climb.cs 2 cs (marksClimb q n) k ∧ Within lo hi w wr) (fun _ i _ => n - (intOf i).toNat)
    case atStart => exact ⟨0, cs0, Nat.zero_le _, rfl, by simp, hb0, hs0, Filled.start _ _, Within.refl _ _ _⟩
    case round =>
      obtain ⟨k, cs, hk, rfl, rfl, hblk, hsz, hfill, hw⟩ := hrel
      have HZ := Lib.hid hsz
      clear hsz
      by_cases hlt : k < n
      · have hm : (marksClimb q n)[k]? = some (markClimb (q + 2 * (k : Nat))) := marksClimb_at hlt
        have HM := Lib.hid hm
        clear hm
        obtain ⟨Q, hQ⟩ : ∃ Q : Int, Q = q + 2 * (k : Nat) := ⟨_, rfl⟩
        have HQ := Lib.hid hQ
        have hQ0 : 0 ≤ Q := by omega
        have hQ1 : Q ≤ 2147483648 := by omega
        rw [← hQ] at HM ⊢
        clear hQ
        have hg := hblk.lt
        obtain ⟨u0, e0⟩ : ∃ u, wr.cell? ⟨g, k * 2, none⟩ = some u := hblk.there (by have := HZ.out; omega)
        obtain ⟨u1, e1⟩ : ∃ u, wr.cell? ⟨g, k * 2 + 1, none⟩ = some u := hblk.there (by have := HZ.out; omega)
        have f0 := hblk.frozen (k * 2)
        have f1 := hblk.frozen (k * 2 + 1)
        have HB := Lib.hid hblk
        clear hblk
        go_wp2
        go_roundw
        case rel => exact ⟨k + 1, _, by omega, by go_num, by rw [HQ.out]; go_num, (HB.out.set_ (k * 2) (.int .i64 (Q))).set_ (k * 2 + 1) (.int .i64 (Q + 1)), by have := HZ.out; simpa using this, hfill.put2 HM.out (by have := HZ.out; omega), ((hw).setCell hg1 hg2 _).setCell hg1 hg2 _⟩
        case measure => simp [intOf]; omega
      · obtain rfl : k = n := by omega
        go_wp2
        go_ret
        exact ⟨rfl, hw, marksClimb_len _ _, fun _ => ⟨g, cs, rfl, hg1, hg2, hblk, HZ.out, fun i x hx j hj => hfill i x (by have := (List.getElem?_eq_some_iff.1 hx).1; rw [marksClimb_len] at this; exact this) hx j hj⟩⟩

set_option maxHeartbeats 1600000 in
theorem heldClimbS_same (A : Option Addr) (n c : Nat) (q : Int) (w : World) (lo : Nat) (h : Arr Climb.cs 2 w lo w.heap.size A n (marksClimb q n)) (hn : n ≤ 4194304) (hq : 0 ≤ q) (hq2 : q ≤ 1073741824) :
    Calls Tryd.prog 19 #[.slice A n c, .int .i64 q] w fun e w' => e = .returned (.int .i64 (q + 2 * (n : Nat))) ∧ Below w.heap.size w w' := by
  go_enter Tryd.func19, Tryd.ntmps19
  go_wp2
  go_loopw [1, 5] (fun m i wr => ∃ (k : Nat), k ≤ n ∧ i = .int .i64 k ∧ m = .int .i64 (q + 2 * (k : Nat)) ∧ Below w.heap.size w wr) (fun _ i _ => n - (intOf i).toNat)
  case atStart => exact ⟨0, Nat.zero_le _, rfl, by simp, Below.refl _ _⟩
  case round =>
    obtain ⟨k, hk, rfl, rfl, hb⟩ := hrel
    by_cases hlt : k < n
    · obtain ⟨b, off, p, rfl, hx, _, hbl, c0, c1⟩ := Climb.at (h.below hb) hlt
      obtain ⟨Q, hQ⟩ : ∃ Q : Int, Q = q + 2 * (k : Nat) := ⟨_, rfl⟩
      have HQ := Lib.hid hQ
      have hQ0 : 0 ≤ Q := by omega
      have hQ1 : Q ≤ 2147483648 := by omega
      have hp := marksClimb_eq hx
      rw [← hQ] at hp ⊢
      subst hp
      clear hQ hx
      simp only [markClimb] at c0 c1
      have hk0 : (0 : Int) ≤ (k : Int) := by omega
      have hk1 : (k : Int) < (n : Int) := by omega
      go_wp2
      go_roundw
      case rel => exact ⟨k + 1, by omega, by go_num, by rw [HQ.out]; go_num, hb⟩
      case measure => simp [intOf]; omega
    · obtain rfl : k = n := by omega
      go_wp2
      go_ret
      exact ⟨rfl, hb⟩
end Go.Proofs.YtkegncanmfmmmaaDoor
