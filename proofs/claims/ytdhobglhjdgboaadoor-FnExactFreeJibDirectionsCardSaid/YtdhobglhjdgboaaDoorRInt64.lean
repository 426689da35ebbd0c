/- []int64: the contracts of the laws' own functions over it: equality, marks, and, where the seat has them, size and copy. -/
import Derived.Test.YtdhobglhjdgboaaDoorProg
import Derived.Test.YtdhobglhjdgboaaDoorWords2
import Derived.Deep.QuietTactic
import Derived.BigQuiet
import Derived.KernelRfl
namespace Go.Proofs.YtdhobglhjdgboaaDoor
open Go.RowKit
set_option linter.unusedVariables false

def ic (n : Int) : List Value := [.int .i64 n]
theorem ic_len (n : Int) : (ic n).length = 1 := rfl
theorem ic_one (n : Int) : ∀ u ∈ ic n, u.oneCell' = true := by intro u hu; simp [ic] at hu; subst hu; rfl
theorem Ints.at {w : World} {lo hi : Nat} {A : Option Addr} {n : Nat} {xs : List Int} (h : Arr ic 1 w lo hi A n xs) {i : Nat} (hi' : i < n) :
    ∃ b off p, A = some ⟨b, off, none⟩ ∧ xs[i]? = some p ∧ lo ≤ b ∧ b < hi ∧ w.cell? ⟨b, off + i, none⟩ = some (.int .i64 p) := by
  obtain ⟨b, off, p, h1, h2, h3, h4, hc⟩ := h.cells hi'
  exact ⟨b, off, p, h1, h2, h3, h4, by have := hc 0 _ rfl; rwa [Nat.mul_one] at this⟩

theorem infoInt : (Tryd.prog.info? 2).map (fun i => (i.zero, i.size, i.bytes)) = some (some (.int .i64 0), 1, 8) := by kernel_rfl

set_option maxHeartbeats 800000 in
theorem eqInt64S_same (A A2 : Option Addr) (n c c2 : Nat) (ps : List Int) (w : World) (lo lo2 : Nat) (h : Arr ic 1 w lo w.heap.size A n ps) (h2 : Arr ic 1 w lo2 w.heap.size A2 n ps) (hn : n ≤ 9223372036854775807) :
    Calls Tryd.prog 21 #[.slice A n c, .slice A2 n c2] w fun e w' => e = .returned (.bool true) ∧ Below w.heap.size w w' := by
  go_enter Tryd.func21, Tryd.ntmps21
  go_wp2
  go_loopw [5] (fun i wr => ∃ k : Nat, k ≤ n ∧ i = .int .i64 k ∧ Below w.heap.size w wr) (fun i _ => n - (intOf i).toNat)
  case atStart => exact ⟨0, Nat.zero_le _, rfl, Below.refl _ _⟩
  case round =>
    obtain ⟨k, hk, rfl, hb⟩ := hrel
    by_cases hlt : k < n
    · obtain ⟨b, off, p, rfl, hx, _, hbl, c0⟩ := Ints.at (h.below hb) hlt
      obtain ⟨b2, off2, p2, rfl, hx2, _, hbl2, d0⟩ := Ints.at (h2.below hb) hlt
      obtain rfl : p = p2 := by rw [hx] at hx2; exact Option.some.inj hx2
      have hlt0 : (0 : Int) ≤ (k : Int) := by omega
      have hlt1 : (k : Int) < (n : Int) := by omega
      clear h h2 hx hx2
      go_wp2
      go_quiet (fail)
      go_wp2
      go_roundw
      case rel => exact ⟨k + 1, by omega, by go_num, bel_drewN hb _⟩
      case measure => simp [intOf]; omega
    · obtain rfl : k = n := by omega
      go_wp2
      go_ret
      exact ⟨rfl, hb⟩

def marksInt (q : Int) (n : Nat) : List Int := (List.range n).map fun i => q + (i : Nat)
theorem marksInt_len (q : Int) (n : Nat) : (marksInt q n).length = n := by simp [marksInt]
theorem marksInt_at {q : Int} {n i : Nat} (h : i < n) : (marksInt q n)[i]? = some (q + (i : Nat)) := by simp [marksInt, h]

set_option maxHeartbeats 800000 in
theorem markInt64S_any (A : Option Addr) (n c : Nat) (ps : List Int) (q : Int) (w : World) (lo hi : Nat) (h : Own ic 1 w lo hi 2 A n ps) (hn : n ≤ 4194304) (hq : 0 ≤ q) (hq2 : q ≤ 1073741824) :
    Calls Tryd.prog 26 #[.slice A n c, .int .i64 q] w fun e w' => e = .returned (.int .i64 (q + 1 * (n : Nat))) ∧ Within lo hi w w' ∧ Own ic 1 w' lo hi 2 A n (marksInt q n) := by
  by_cases hn0 : n = 0
  · subst hn0
    go_enter Tryd.func26, Tryd.ntmps26
    go_wp2
    refine wp_loop_rounds 1 ?_
    rw [rounds_succ]
    go_wp2
    go_ret
    exact ⟨ret_int (by omega), Within.refl _ _ _, Own.nil _⟩
  · obtain ⟨g, cs0, rfl, hg1, hg2, hb0, hs0, _⟩ := h.2 (by omega)
    go_enter Tryd.func26, Tryd.ntmps26
    go_wp2
    go_loopw [1, 5] (fun m i wr => ∃ (k : Nat) (cs : Array Value), k ≤ n ∧ i = .int .i64 k ∧ m = .int .i64 (q + (k : Nat)) ∧ Blk wr g 2 cs ∧ n * 1 ≤ cs.size ∧ Filled ic 1 cs (marksInt q n) k ∧ Within lo hi w wr) (fun _ i _ => n - (intOf i).toNat)
    case atStart => exact ⟨0, cs0, Nat.zero_le _, rfl, by simp, hb0, hs0, Filled.start _ _, Within.refl _ _ _⟩
    case round =>
      obtain ⟨k, cs, hk, rfl, rfl, hblk, hsz, hfill, hw⟩ := hrel
      have HZ := Lib.hid hsz
      clear hsz
      by_cases hlt : k < n
      · have HM := Lib.hid (marksInt_at (q := q) hlt)
        have hg := hblk.lt
        obtain ⟨u0, e0⟩ : ∃ u, wr.cell? ⟨g, k, none⟩ = some u := hblk.there (by have := HZ.out; omega)
        have f0 := hblk.frozen k
        have HB := Lib.hid hblk
        clear hblk
        have hk0 : (0 : Int) ≤ (k : Int) := by omega
        have hk1 : (k : Int) < (n : Int) := by omega
        go_wp2
        go_roundw
        case rel => exact ⟨k + 1, _, by omega, by go_num, by go_num, HB.out.set_ k (.int .i64 (q + (k : Nat))), by have := HZ.out; simpa using this, (show Filled ic 1 (cs.setIfInBounds k (.int .i64 (q + (k : Nat)))) (marksInt q n) (k + 1) from by have := hfill.put1 HM.out (by have := HZ.out; omega); rwa [Nat.mul_one] at this), hw.setCell hg1 hg2 _⟩
        case measure => simp [intOf]; omega
      · obtain rfl : k = n := by omega
        go_wp2
        go_ret
        exact ⟨ret_int (by omega), hw, marksInt_len _ _, fun _ => ⟨g, cs, rfl, hg1, hg2, hblk, HZ.out, fun i x hx j hj => hfill i x (by have := (List.getElem?_eq_some_iff.1 hx).1; rw [marksInt_len] at this; exact this) hx j hj⟩⟩

set_option maxHeartbeats 800000 in
theorem heldInt64S_same (A : Option Addr) (n c : Nat) (q : Int) (w : World) (lo : Nat) (h : Arr ic 1 w lo w.heap.size A n (marksInt q n)) (hn : n ≤ 4194304) (hq : 0 ≤ q) (hq2 : q ≤ 1073741824) :
    Calls Tryd.prog 27 #[.slice A n c, .int .i64 q] w fun e w' => e = .returned (.int .i64 (q + 1 * (n : Nat))) ∧ Below w.heap.size w w' := by
  go_enter Tryd.func27, Tryd.ntmps27
  go_wp2
  go_loopw [1, 5] (fun m i wr => ∃ (k : Nat), k ≤ n ∧ i = .int .i64 k ∧ m = .int .i64 (q + (k : Nat)) ∧ Below w.heap.size w wr) (fun _ i _ => n - (intOf i).toNat)
  case atStart => exact ⟨0, Nat.zero_le _, rfl, by simp, Below.refl _ _⟩
  case round =>
    obtain ⟨k, hk, rfl, rfl, hb⟩ := hrel
    by_cases hlt : k < n
    · obtain ⟨b, off, p, rfl, hx, _, hbl, c0⟩ := Ints.at (h.below hb) hlt
      rw [marksInt_at hlt] at hx
      obtain rfl := Option.some.inj hx
      have hk0 : (0 : Int) ≤ (k : Int) := by omega
      have hk1 : (k : Int) < (n : Int) := by omega
      clear hx
      go_wp2
      go_roundw
      case rel => exact ⟨k + 1, by omega, by go_num, by go_num, hb⟩
      case measure => simp [intOf]; omega
    · obtain rfl : k = n := by omega
      go_wp2
      go_ret
      exact ⟨ret_int (by omega), hb⟩
end Go.Proofs.YtdhobglhjdgboaaDoor
