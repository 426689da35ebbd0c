/- Fraction: the record, and the contracts of the laws' own functions over it: size, copy, equality, marks. The copies are of lists of at most 1048576. -/
import Derived.Test.YtencnldflnbdiaaDoorProg
import Derived.Test.YtencnldflnbdiaaDoorWords2
import Derived.Deep.RegionHeld3
import Derived.Deep.QuietTactic
import Derived.BigQuiet
import Derived.KernelRfl
namespace Go.Proofs.YtencnldflnbdiaaDoor
open Go.RowKit
set_option linter.unusedVariables false

structure Fraction where
  num : Int
  den : Int

def Fraction.cs (p : Fraction) : List Value := [.int .i64 p.num, .int .i64 p.den]
theorem Fraction.cs_len (p : Fraction) : p.cs.length = 2 := rfl
theorem Fraction.cs_one (p : Fraction) : ∀ u ∈ p.cs, u.oneCell' = true := by intro u hu; simp [Fraction.cs] at hu; rcases hu with rfl | rfl <;> rfl
structure Fraction.wf (p : Fraction) : Prop where
  num : -9223372036854775808 ≤ p.num ∧ p.num ≤ 9223372036854775807
  den : -9223372036854775808 ≤ p.den ∧ p.den ≤ 9223372036854775807

theorem Fraction.at {w : World} {lo hi : Nat} {A : Option Addr} {n : Nat} {xs : List Fraction} (h : Arr Fraction.cs 2 w lo hi A n xs) {i : Nat} (hi' : i < n) :
    ∃ b off p, A = some ⟨b, off, none⟩ ∧ xs[i]? = some p ∧ lo ≤ b ∧ b < hi ∧ w.cell? ⟨b, off + i * 2, none⟩ = some (.int .i64 p.num) ∧ w.cell? ⟨b, off + i * 2 + 1, none⟩ = some (.int .i64 p.den) := by
  obtain ⟨b, off, p, h1, h2, h3, h4, hc⟩ := h.cells hi'
  exact ⟨b, off, p, h1, h2, h3, h4, hc 0 _ rfl, hc 1 _ rfl⟩

set_option maxHeartbeats 400000 in
theorem toFraction_any (p : Fraction) (w : World) :
    Calls Tryd.prog 34 #[.agg #[.int .i64 p.num, .int .i64 p.den]] w fun e w' => e = .returned (.agg #[.int .i64 p.num, .int .i64 p.den]) ∧ Below w.heap.size w w' := by
  go_enter Tryd.func34, Tryd.ntmps34
  go_wp2
  exact bodyPost_ret (v := .agg #[.int .i64 p.num, .int .i64 p.den]) (by simp [results, Tryd.results34, go_sem]) rfl ⟨rfl, by repeat (first | exact Below.refl _ _ | (refine Below.setCell ?_ (by first | (simp; done) | (simp; omega)) _) | (refine Below.alloc ?_ (by first | (simp; done) | (simp; omega)) _) | refine Below.drew ?_)⟩
end Go.Proofs.YtencnldflnbdiaaDoor
