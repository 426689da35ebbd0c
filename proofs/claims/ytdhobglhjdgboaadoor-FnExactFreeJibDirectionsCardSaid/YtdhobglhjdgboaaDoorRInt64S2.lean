/- []int64: the contracts of the laws' own functions over it: size, copy, equality. -/
import Derived.Test.YtdhobglhjdgboaaDoorProg
import Derived.Test.YtdhobglhjdgboaaDoorNest
import Derived.Test.YtdhobglhjdgboaaDoorQuiet
import Derived.Test.YtdhobglhjdgboaaDoorRInt64
import Derived.Deep.RegionHeld3
import Derived.KernelRfl
namespace Go.Proofs.YtdhobglhjdgboaaDoor
open Go.RowKit
set_option linter.unusedVariables false

theorem szInt64S_ok (A : Option Addr) (n c : Nat) (left : Int) (w : World) (hn : n ≤ 9223372036854775807) (h0 : 0 ≤ left) (h1 : left ≤ 1048576) (hs : (n : Int) ≤ left) :
    Calls Tryd.prog 144 #[.slice A n c, .int .i64 left] w fun e w' => e = .returned (.int .i64 (left - n)) ∧ Below w.heap.size w w' := by
  go_enter Tryd.func144, Tryd.ntmps144
  go_wp2
  go_ret
  exact ⟨rfl, Below.refl _ _⟩
theorem szInt64S_no (A : Option Addr) (n c : Nat) (left : Int) (w : World) (hn : n ≤ 9223372036854775807) (h0 : 0 ≤ left) (h1 : left ≤ 1048576) (hs : left < (n : Int)) :
    Calls Tryd.prog 144 #[.slice A n c, .int .i64 left] w fun e w' => e = .returned (.int .i64 (-1)) ∧ Below w.heap.size w w' := by
  go_enter Tryd.func144, Tryd.ntmps144
  go_wp2
  go_ret
  exact ⟨rfl, Below.refl _ _⟩

/-- a call that hands back a copy -/
def ToInt64S (w : World) (n : Nat) (ps : List Int) (e : Ending) (w' : World) : Prop :=
  ∃ g, e = .returned (.slice (some ⟨g, 0, none⟩) n n) ∧ Own ic 1 w' w.heap.size w'.heap.size 2 (some ⟨g, 0, none⟩) n ps ∧ Below w.heap.size w w'
set_option maxHeartbeats 800000 in
theorem toInt64S_any (A : Option Addr) (n c : Nat) (ps : List Int) (w : World) (lo : Nat) (h : Arr ic 1 w lo w.heap.size A n ps) (hn : n ≤ 1048576) :
    Calls Tryd.prog 149 #[.slice A n c] w (ToInt64S w n ps) := by
  obtain ⟨i0, hi, hz0, hz1, hz2⟩ := info_parts infoInt
  have hmk := fun W => run_make_rowN (P := Tryd.prog) 38 2 i0 _ Tryd.underlying38 hi hz0 .i64 .i64 n n (Nat.le_refl _) (by rw [hz2]; omega) (by omega) W
  rw [hz1] at hmk
  go_enter Tryd.func149, Tryd.ntmps149
  go_wp2
  clear hmk
  go_loopw [4] (fun i wr => ∃ (k : Nat) (cs : Array Value), k ≤ n ∧ i = .int .i64 k ∧ Blk wr w.heap.size 2 cs ∧ cs.size = n * 1 ∧ Filled ic 1 cs ps k ∧ Below w.heap.size w wr) (fun i _ => n - (intOf i).toNat)
  case atStart => exact ⟨0, _, Nat.zero_le _, rfl, Blk.new _ _ _, by simp [size_madeCells], Filled.start _ _, (Below.refl _ _).alloc (Nat.le_refl _) _⟩
  case round =>
    obtain ⟨k, cs, hk, rfl, hblk, hsz, hfill, hb⟩ := hrel
    have HZ := Lib.hid hsz
    clear hsz
    by_cases hlt : k < n
    · obtain ⟨b, off, p, rfl, hx, _, hbl, c0⟩ := Ints.at (h.below hb) hlt
      have hg := hblk.lt
      obtain ⟨u0, e0⟩ : ∃ u, wr.cell? ⟨w.heap.size, k, none⟩ = some u := hblk.there (by have := HZ.out; omega)
      have f0 := hblk.frozen k
      have HB := Lib.hid hblk
      clear hblk
      have HX := Lib.hid hx
      clear hx
      have hk0 : (0 : Int) ≤ (k : Int) := by omega
      have hk1 : (k : Int) < (n : Int) := by omega
      go_wp2
      go_roundw
      case rel => exact ⟨k + 1, _, by omega, by go_num, HB.out.set_ k (.int .i64 p), by simp [HZ.out], (show Filled ic 1 (cs.setIfInBounds k (.int .i64 p)) ps (k + 1) from by have := hfill.put1 HX.out (by have := HZ.out; omega); rwa [Nat.mul_one] at this), hb.setCell (Nat.le_refl _) _⟩
      case measure => simp [intOf]; omega
    · obtain rfl : k = n := by omega
      go_wp2
      go_ret
      exact ⟨w.heap.size, rfl, hfill.own h.1 (by rw [HZ.out]; exact Nat.le_refl _) hblk (Nat.le_refl _), hb⟩
end Go.Proofs.YtdhobglhjdgboaaDoor
