/- Fraction: the record, and the contracts of the laws' own functions over it: size, copy, equality, marks. The copies are of lists of at most 1048576. -/
import Derived.Test.YtkegncanmfmmmaaDoorProg
import Derived.Test.YtkegncanmfmmmaaDoorWords2
import Derived.Deep.RegionHeld3
import Derived.Deep.QuietTactic
import Derived.BigQuiet
import Derived.KernelRfl
namespace Go.Proofs.YtkegncanmfmmmaaDoor
open Go.RowKit
set_option linter.unusedVariables false

structure Fraction where
  num : Int
  den : Int

def Fraction.cs (p : Fraction) : List Value := [.int .i64 p.num, .int .i64 p.den]
theorem Fraction.cs_len (p : Fraction) : p.cs.length = 2 := rfl
theorem Fraction.cs_one (p : Fraction) : ∀ u ∈ p.cs, u.oneCell' = true := by intro u hu; simp [Fraction.cs] at hu; rcases hu with rfl | rfl <;> rfl
structure Fraction.wf (p : Fraction) : Prop where
  num : -9223372036854775808 ≤ p.num ∧ p.num ≤ 9223372036854775807
  den : -9223372036854775808 ≤ p.den ∧ p.den ≤ 9223372036854775807

theorem Fraction.at {w : World} {lo hi : Nat} {A : Option Addr} {n : Nat} {xs : List Fraction} (h : Arr Fraction.cs 2 w lo hi A n xs) {i : Nat} (hi' : i < n) :
    ∃ b off p, A = some ⟨b, off, none⟩ ∧ xs[i]? = some p ∧ lo ≤ b ∧ b < hi ∧ w.cell? ⟨b, off + i * 2, none⟩ = some (.int .i64 p.num) ∧ w.cell? ⟨b, off + i * 2 + 1, none⟩ = some (.int .i64 p.den) := by
  obtain ⟨b, off, p, h1, h2, h3, h4, hc⟩ := h.cells hi'
  exact ⟨b, off, p, h1, h2, h3, h4, hc 0 _ rfl, hc 1 _ rfl⟩

end Go.Proofs.YtkegncanmfmmmaaDoor
