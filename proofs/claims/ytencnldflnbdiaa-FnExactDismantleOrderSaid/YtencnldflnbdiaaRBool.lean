/- []bool and [][]bool: the contracts of the laws' own functions over it: size, copy, equality. -/
import Derived.Test.YtencnldflnbdiaaProg
import Derived.Test.YtencnldflnbdiaaNest
import Derived.Test.YtencnldflnbdiaaQuiet
import Derived.Deep.RegionHeld3
import Derived.KernelRfl
namespace Go.Proofs.Ytencnldflnbdiaa
open Go.RowKit
set_option linter.unusedVariables false

def bc (p : Bool) : List Value := [.bool p]
theorem bc_len (p : Bool) : (bc p).length = 1 := rfl
theorem Bools.at {w : World} {lo hi : Nat} {A : Option Addr} {n : Nat} {xs : List Bool} (h : Arr bc 1 w lo hi A n xs) {i : Nat} (hi' : i < n) :
    ∃ b off p, A = some ⟨b, off, none⟩ ∧ xs[i]? = some p ∧ lo ≤ b ∧ b < hi ∧ w.cell? ⟨b, off + i, none⟩ = some (.bool p) := by
  obtain ⟨b, off, p, h1, h2, h3, h4, hc⟩ := h.cells hi'
  exact ⟨b, off, p, h1, h2, h3, h4, by have := hc 0 _ rfl; rwa [Nat.mul_one] at this⟩
theorem infoBool : (Try.prog.info? 4).map (fun i => (i.zero, i.size, i.bytes)) = some (some (.bool false), 1, 1) := by kernel_rfl

/-- a call that hands back a copy -/
def ToBoolS (w : World) (n : Nat) (ps : List Bool) (e : Ending) (w' : World) : Prop :=
  ∃ g, e = .returned (.slice (some ⟨g, 0, none⟩) n n) ∧ Own bc 1 w' w.heap.size w'.heap.size 4 (some ⟨g, 0, none⟩) n ps ∧ Below w.heap.size w w'
def szBoolSS (n : Nat) (rs : List (Row Bool)) : Int := n + (tot Row.n rs : Nat)
theorem infoRowBool : (Try.prog.info? 73).map (fun i => (i.zero, i.size, i.bytes)) = some (some (.slice none 0 0), 1, 24) := by kernel_rfl
/-- a call that hands back a copy of a slice of slices -/
def ToBoolSS (w : World) (n : Nat) (rs : List (Row Bool)) (e : Ending) (w' : World) : Prop :=
  ∃ A rs', e = .returned (.slice A n n) ∧ vals rs' = vals rs ∧ Arr2 bc 1 w' w.heap.size w'.heap.size A n rs' ∧ Below w.heap.size w w'
end Go.Proofs.Ytencnldflnbdiaa
