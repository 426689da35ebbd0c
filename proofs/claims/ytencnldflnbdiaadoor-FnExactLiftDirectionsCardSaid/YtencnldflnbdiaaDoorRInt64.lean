/- []int64: the contracts of the laws' own functions over it: equality, marks, and, where the seat has them, size and copy. -/
import Derived.Test.YtencnldflnbdiaaDoorProg
import Derived.Test.YtencnldflnbdiaaDoorWords2
import Derived.Deep.QuietTactic
import Derived.BigQuiet
import Derived.KernelRfl
namespace Go.Proofs.YtencnldflnbdiaaDoor
open Go.RowKit
set_option linter.unusedVariables false

def ic (n : Int) : List Value := [.int .i64 n]
theorem ic_len (n : Int) : (ic n).length = 1 := rfl
theorem ic_one (n : Int) : ∀ u ∈ ic n, u.oneCell' = true := by intro u hu; simp [ic] at hu; subst hu; rfl
theorem Ints.at {w : World} {lo hi : Nat} {A : Option Addr} {n : Nat} {xs : List Int} (h : Arr ic 1 w lo hi A n xs) {i : Nat} (hi' : i < n) :
    ∃ b off p, A = some ⟨b, off, none⟩ ∧ xs[i]? = some p ∧ lo ≤ b ∧ b < hi ∧ w.cell? ⟨b, off + i, none⟩ = some (.int .i64 p) := by
  obtain ⟨b, off, p, h1, h2, h3, h4, hc⟩ := h.cells hi'
  exact ⟨b, off, p, h1, h2, h3, h4, by have := hc 0 _ rfl; rwa [Nat.mul_one] at this⟩

theorem infoInt : (Tryd.prog.info? 2).map (fun i => (i.zero, i.size, i.bytes)) = some (some (.int .i64 0), 1, 8) := by kernel_rfl

set_option maxHeartbeats 800000 in
theorem eqInt64S_same (A A2 : Option Addr) (n c c2 : Nat) (ps : List Int) (w : World) (lo lo2 : Nat) (h : Arr ic 1 w lo w.heap.size A n ps) (h2 : Arr ic 1 w lo2 w.heap.size A2 n ps) (hn : n ≤ 9223372036854775807) :
    Calls Tryd.prog 100 #[.slice A n c, .slice A2 n c2] w fun e w' => e = .returned (.bool true) ∧ Below w.heap.size w w' := by
  go_enter Tryd.func100, Tryd.ntmps100
  go_wp2
  go_loopw [5] (fun i wr => ∃ k : Nat, k ≤ n ∧ i = .int .i64 k ∧ Below w.heap.size w wr) (fun i _ => n - (intOf i).toNat)
  case atStart => exact ⟨0, Nat.zero_le _, rfl, Below.refl _ _⟩
  case round =>
    obtain ⟨k, hk, rfl, hb⟩ := hrel
    by_cases hlt : k < n
    · obtain ⟨b, off, p, rfl, hx, _, hbl, c0⟩ := Ints.at (h.below hb) hlt
      obtain ⟨b2, off2, p2, rfl, hx2, _, hbl2, d0⟩ := Ints.at (h2.below hb) hlt
      obtain rfl : p = p2 := by rw [hx] at hx2; exact Option.some.inj hx2
      have hlt0 : (0 : Int) ≤ (k : Int) := by omega
      have hlt1 : (k : Int) < (n : Int) := by omega
      clear h h2 hx hx2
      go_wp2
      go_quiet (fail)
      go_wp2
      go_roundw
      case rel => exact ⟨k + 1, by omega, by go_num, bel_drewN hb _⟩
      case measure => simp [intOf]; omega
    · obtain rfl : k = n := by omega
      go_wp2
      go_ret
      exact ⟨rfl, hb⟩

def marksInt (q : Int) (n : Nat) : List Int := (List.range n).map fun i => q + (i : Nat)
theorem marksInt_len (q : Int) (n : Nat) : (marksInt q n).length = n := by simp [marksInt]
theorem marksInt_at {q : Int} {n i : Nat} (h : i < n) : (marksInt q n)[i]? = some (q + (i : Nat)) := by simp [marksInt, h]

end Go.Proofs.YtencnldflnbdiaaDoor
