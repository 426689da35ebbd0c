/- markActS and heldActS (an Act has two numbers and two bools): what they write, and that what was written is found again. -/
import Derived.Test.YtomifedaiabapaaRDact
namespace Go.Proofs.Ytomifedaiabapaa
open Go.RowKit
set_option linter.unusedVariables false

/-- the record that markActS writes at number q -/
def markAct (q : Int) : Dact := ⟨q, q + 1, (q + 1 + 1) % 3 == 0, (q + 1 + 1 + 1) % 3 == 0⟩
def marksAct (q : Int) (n : Nat) : List Dact := (List.range n).map fun i => markAct (q + 4 * (i : Nat))
theorem marksAct_len (q : Int) (n : Nat) : (marksAct q n).length = n := by simp [marksAct]
theorem marksAct_at {q : Int} {n i : Nat} (h : i < n) : (marksAct q n)[i]? = some (markAct (q + 4 * (i : Nat))) := by simp [marksAct, h]
theorem marksAct_eq {q : Int} {n i : Nat} {p : Dact} (h : (marksAct q n)[i]? = some p) : p = markAct (q + 4 * (i : Nat)) := by
  have hl := (List.getElem?_eq_some_iff.1 h).1
  rw [marksAct_len] at hl
  rw [marksAct_at hl] at h; exact (Option.some.inj h).symm

set_option maxHeartbeats 1600000 in
theorem markActS_any (A : Option Addr) (n c : Nat) (ps : List Dact) (q : Int) (w : World) (lo hi : Nat) (h : Own Dact.cs 4 w lo hi 115 A n ps) (hn : n ≤ 4194304) (hq : 0 ≤ q) (hq2 : q ≤ 1073741824) :
    Calls Try.prog 18 #[.slice A n c, .int .i64 q] w fun e w' => e = .returned (.int .i64 (q + 4 * (n : Nat))) ∧ Within lo hi w w' ∧ Own Dact.cs 4 w' lo hi 115 A n (marksAct q n) := by
  by_cases hn0 : n = 0
  · subst hn0
    go_enter Try.func18, Try.ntmps18
    go_wp2
    refine wp_loop_rounds 1 ?_
    rw [rounds_succ]
    go_wp2
    go_ret
    exact ⟨ret_int (by omega), Within.refl _ _ _, Own.nil _⟩
  · obtain ⟨g, cs0, rfl, hg1, hg2, hb0, hs0, _⟩ := h.2 (by omega)
    go_enter Try.func18, Try.ntmps18
    go_wp2
    go_loopw [1, 5] (fun m i wr => ∃ (k : Nat) (cs : Array Value), k ≤ n ∧ i = .int .i64 k ∧ m = .int .i64 (q + 4 * (k : Nat)) ∧ Blk wr g 115 cs ∧ n * 4 ≤ cs.size ∧ Filled Dact.cs 4 cs (marksAct q n) k ∧ Within lo hi w wr) (fun _ i _ => n - (intOf i).toNat)
    case atStart => exact ⟨0, cs0, Nat.zero_le _, rfl, by simp, hb0, hs0, Filled.start _ _, Within.refl _ _ _⟩
    case round =>
      obtain ⟨k, cs, hk, rfl, rfl, hblk, hsz, hfill, hw⟩ := hrel
      have HZ := Lib.hid hsz
      clear hsz
      by_cases hlt : k < n
      · have hm : (marksAct q n)[k]? = some (markAct (q + 4 * (k : Nat))) := marksAct_at hlt
        have HM := Lib.hid hm
        clear hm
        obtain ⟨Q, hQ⟩ : ∃ Q : Int, Q = q + 4 * (k : Nat) := ⟨_, rfl⟩
        have HQ := Lib.hid hQ
        have hQ0 : 0 ≤ Q := by omega
        have hQ1 : Q ≤ 2147483648 := by omega
        rw [← hQ] at HM ⊢
        clear hQ
        have hg := hblk.lt
        obtain ⟨u0, e0⟩ : ∃ u, wr.cell? ⟨g, k * 4, none⟩ = some u := hblk.there (by have := HZ.out; omega)
        obtain ⟨u1, e1⟩ : ∃ u, wr.cell? ⟨g, k * 4 + 1, none⟩ = some u := hblk.there (by have := HZ.out; omega)
        obtain ⟨u2, e2⟩ : ∃ u, wr.cell? ⟨g, k * 4 + 2, none⟩ = some u := hblk.there (by have := HZ.out; omega)
        obtain ⟨u3, e3⟩ : ∃ u, wr.cell? ⟨g, k * 4 + 3, none⟩ = some u := hblk.there (by have := HZ.out; omega)
        have f0 := hblk.frozen (k * 4)
        have f1 := hblk.frozen (k * 4 + 1)
        have f2 := hblk.frozen (k * 4 + 2)
        have f3 := hblk.frozen (k * 4 + 3)
        have HB := Lib.hid hblk
        clear hblk
        go_wp2
        go_roundw
        case rel => exact ⟨k + 1, _, by omega, by go_num, by rw [HQ.out]; go_num, (((HB.out.set_ (k * 4) (.int .i64 (Q))).set_ (k * 4 + 1) (.int .i64 (Q + 1))).set_ (k * 4 + 2) (.bool ((Q + 1 + 1) % 3 == 0))).set_ (k * 4 + 3) (.bool ((Q + 1 + 1 + 1) % 3 == 0)), by have := HZ.out; simpa using this, hfill.put4 HM.out (by have := HZ.out; omega), ((((hw).setCell hg1 hg2 _).setCell hg1 hg2 _).setCell hg1 hg2 _).setCell hg1 hg2 _⟩
        case measure => simp [intOf]; omega
      · obtain rfl : k = n := by omega
        go_wp2
        go_ret
        exact ⟨rfl, hw, marksAct_len _ _, fun _ => ⟨g, cs, rfl, hg1, hg2, hblk, HZ.out, fun i x hx j hj => hfill i x (by have := (List.getElem?_eq_some_iff.1 hx).1; rw [marksAct_len] at this; exact this) hx j hj⟩⟩

set_option maxHeartbeats 1600000 in
theorem heldActS_same (A : Option Addr) (n c : Nat) (q : Int) (w : World) (lo : Nat) (h : Arr Dact.cs 4 w lo w.heap.size A n (marksAct q n)) (hn : n ≤ 4194304) (hq : 0 ≤ q) (hq2 : q ≤ 1073741824) :
    Calls Try.prog 19 #[.slice A n c, .int .i64 q] w fun e w' => e = .returned (.int .i64 (q + 4 * (n : Nat))) ∧ Below w.heap.size w w' := by
  go_enter Try.func19, Try.ntmps19
  go_wp2
  go_loopw [1, 5] (fun m i wr => ∃ (k : Nat), k ≤ n ∧ i = .int .i64 k ∧ m = .int .i64 (q + 4 * (k : Nat)) ∧ Below w.heap.size w wr) (fun _ i _ => n - (intOf i).toNat)
  case atStart => exact ⟨0, Nat.zero_le _, rfl, by simp, Below.refl _ _⟩
  case round =>
    obtain ⟨k, hk, rfl, rfl, hb⟩ := hrel
    by_cases hlt : k < n
    · obtain ⟨b, off, p, rfl, hx, _, hbl, c0, c1, c2, c3⟩ := Dact.at (h.below hb) hlt
      obtain ⟨Q, hQ⟩ : ∃ Q : Int, Q = q + 4 * (k : Nat) := ⟨_, rfl⟩
      have HQ := Lib.hid hQ
      have hQ0 : 0 ≤ Q := by omega
      have hQ1 : Q ≤ 2147483648 := by omega
      have hp := marksAct_eq hx
      rw [← hQ] at hp ⊢
      subst hp
      clear hQ hx
      simp only [markAct] at c0 c1 c2 c3
      have hk0 : (0 : Int) ≤ (k : Int) := by omega
      have hk1 : (k : Int) < (n : Int) := by omega
      go_wp2
      go_roundw
      case rel => exact ⟨k + 1, by omega, by go_num, by rw [HQ.out]; go_num, hb⟩
      case measure => simp [intOf]; omega
    · obtain rfl : k = n := by omega
      go_wp2
      go_ret
      exact ⟨rfl, hb⟩
end Go.Proofs.Ytomifedaiabapaa
