/- Pnt: the record, and the contracts of the laws' own functions over it: size, copy, equality, marks. The copies are of lists of at most 1048576. -/
import Derived.Test.YtkegncanmfmmmaaDoorProg
import Derived.Test.YtkegncanmfmmmaaDoorWords2
import Derived.Deep.RegionHeld3
import Derived.Deep.QuietTactic
import Derived.BigQuiet
import Derived.KernelRfl
namespace Go.Proofs.YtkegncanmfmmmaaDoor
open Go.RowKit
set_option linter.unusedVariables false

structure Pnt where
  x : Int
  y : Int

def Pnt.cs (p : Pnt) : List Value := [.int .i64 p.x, .int .i64 p.y]
theorem Pnt.cs_len (p : Pnt) : p.cs.length = 2 := rfl
theorem Pnt.cs_one (p : Pnt) : ∀ u ∈ p.cs, u.oneCell' = true := by intro u hu; simp [Pnt.cs] at hu; rcases hu with rfl | rfl <;> rfl
structure Pnt.wf (p : Pnt) : Prop where
  x : -9223372036854775808 ≤ p.x ∧ p.x ≤ 9223372036854775807
  y : -9223372036854775808 ≤ p.y ∧ p.y ≤ 9223372036854775807

theorem Pnt.at {w : World} {lo hi : Nat} {A : Option Addr} {n : Nat} {xs : List Pnt} (h : Arr Pnt.cs 2 w lo hi A n xs) {i : Nat} (hi' : i < n) :
    ∃ b off p, A = some ⟨b, off, none⟩ ∧ xs[i]? = some p ∧ lo ≤ b ∧ b < hi ∧ w.cell? ⟨b, off + i * 2, none⟩ = some (.int .i64 p.x) ∧ w.cell? ⟨b, off + i * 2 + 1, none⟩ = some (.int .i64 p.y) := by
  obtain ⟨b, off, p, h1, h2, h3, h4, hc⟩ := h.cells hi'
  exact ⟨b, off, p, h1, h2, h3, h4, hc 0 _ rfl, hc 1 _ rfl⟩

def szPntS (n : Nat) (_ps : List Pnt) : Int := n
theorem PntInfo : (Tryd.prog.info? 29).map (fun i => (i.zero, i.size, i.bytes)) = some (some (.agg #[.int .i64 0, .int .i64 0]), 2, 16) := by kernel_rfl
def ToPntS (w : World) (n : Nat) (ps : List Pnt) (e : Ending) (w' : World) : Prop :=
  ∃ g, e = .returned (.slice (some ⟨g, 0, none⟩) n n) ∧ Own Pnt.cs 2 w' w.heap.size w'.heap.size 29 (some ⟨g, 0, none⟩) n ps ∧ Below w.heap.size w w'
end Go.Proofs.YtkegncanmfmmmaaDoor
