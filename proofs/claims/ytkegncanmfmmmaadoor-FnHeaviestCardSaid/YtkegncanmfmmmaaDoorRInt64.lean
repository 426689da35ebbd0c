/- []int64: the contracts of the laws' own functions over it: equality, marks, and, where the seat has them, size and copy. -/
import Derived.Test.YtkegncanmfmmmaaDoorProg
import Derived.Test.YtkegncanmfmmmaaDoorWords2
import Derived.Deep.QuietTactic
import Derived.BigQuiet
import Derived.KernelRfl
namespace Go.Proofs.YtkegncanmfmmmaaDoor
open Go.RowKit
set_option linter.unusedVariables false

def ic (n : Int) : List Value := [.int .i64 n]
theorem ic_len (n : Int) : (ic n).length = 1 := rfl
theorem ic_one (n : Int) : ∀ u ∈ ic n, u.oneCell' = true := by intro u hu; simp [ic] at hu; subst hu; rfl
theorem Ints.at {w : World} {lo hi : Nat} {A : Option Addr} {n : Nat} {xs : List Int} (h : Arr ic 1 w lo hi A n xs) {i : Nat} (hi' : i < n) :
    ∃ b off p, A = some ⟨b, off, none⟩ ∧ xs[i]? = some p ∧ lo ≤ b ∧ b < hi ∧ w.cell? ⟨b, off + i, none⟩ = some (.int .i64 p) := by
  obtain ⟨b, off, p, h1, h2, h3, h4, hc⟩ := h.cells hi'
  exact ⟨b, off, p, h1, h2, h3, h4, by have := hc 0 _ rfl; rwa [Nat.mul_one] at this⟩

theorem infoInt : (Tryd.prog.info? 2).map (fun i => (i.zero, i.size, i.bytes)) = some (some (.int .i64 0), 1, 8) := by kernel_rfl

def marksInt (q : Int) (n : Nat) : List Int := (List.range n).map fun i => q + (i : Nat)
theorem marksInt_len (q : Int) (n : Nat) : (marksInt q n).length = n := by simp [marksInt]
theorem marksInt_at {q : Int} {n i : Nat} (h : i < n) : (marksInt q n)[i]? = some (q + (i : Nat)) := by simp [marksInt, h]

end Go.Proofs.YtkegncanmfmmmaaDoor
