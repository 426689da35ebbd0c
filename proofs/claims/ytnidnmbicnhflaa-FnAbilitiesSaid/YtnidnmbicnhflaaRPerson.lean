/- Person: the record, and the contracts of the laws' own functions over it: size, copy, equality, marks. The copies are of lists of at most 1048576. -/
import Derived.Test.YtnidnmbicnhflaaProg
import Derived.Test.YtnidnmbicnhflaaWords2
import Derived.Deep.RegionHeld3
import Derived.Deep.QuietTactic
import Derived.BigQuiet
import Derived.KernelRfl
namespace Go.Proofs.Ytnidnmbicnhflaa
open Go.RowKit
set_option linter.unusedVariables false

structure Person where
  name : ByteArray
  roles : Int
  till : Int

def Person.cs (p : Person) : List Value := [.string p.name, .int .i64 p.roles, .int .i64 p.till]
theorem Person.cs_len (p : Person) : p.cs.length = 3 := rfl
theorem Person.cs_one (p : Person) : ∀ u ∈ p.cs, u.oneCell' = true := by intro u hu; simp [Person.cs] at hu; rcases hu with rfl | rfl | rfl <;> rfl
structure Person.wf (p : Person) : Prop where
  name : p.name.size ≤ 9223372036854775807
  roles : -9223372036854775808 ≤ p.roles ∧ p.roles ≤ 9223372036854775807
  till : -9223372036854775808 ≤ p.till ∧ p.till ≤ 9223372036854775807

theorem Person.at {w : World} {lo hi : Nat} {A : Option Addr} {n : Nat} {xs : List Person} (h : Arr Person.cs 3 w lo hi A n xs) {i : Nat} (hi' : i < n) :
    ∃ b off p, A = some ⟨b, off, none⟩ ∧ xs[i]? = some p ∧ lo ≤ b ∧ b < hi ∧ w.cell? ⟨b, off + i * 3, none⟩ = some (.string p.name) ∧ w.cell? ⟨b, off + i * 3 + 1, none⟩ = some (.int .i64 p.roles) ∧ w.cell? ⟨b, off + i * 3 + 2, none⟩ = some (.int .i64 p.till) := by
  obtain ⟨b, off, p, h1, h2, h3, h4, hc⟩ := h.cells hi'
  exact ⟨b, off, p, h1, h2, h3, h4, hc 0 _ rfl, hc 1 _ rfl, hc 2 _ rfl⟩

def Person.sz (p : Person) : Nat := p.name.size
def szPersonS (n : Nat) (ps : List Person) : Int := (n : Int) + (tot Person.sz ps : Nat)
end Go.Proofs.Ytnidnmbicnhflaa
