/- Watch: the record, and the contracts of the laws' own functions over it: size, copy, equality, marks. The copies are of lists of at most 1048576. -/
import Derived.Test.YtomifedaiabapaaProg
import Derived.Test.YtomifedaiabapaaWords2
import Derived.Deep.RegionHeld3
import Derived.Deep.QuietTactic
import Derived.BigQuiet
import Derived.KernelRfl
namespace Go.Proofs.Ytomifedaiabapaa
open Go.RowKit
set_option linter.unusedVariables false

structure Watch where
  margin : Int
  lost : Int

def Watch.cs (p : Watch) : List Value := [.int .i64 p.margin, .int .i64 p.lost]
theorem Watch.cs_len (p : Watch) : p.cs.length = 2 := rfl
theorem Watch.cs_one (p : Watch) : ∀ u ∈ p.cs, u.oneCell' = true := by intro u hu; simp [Watch.cs] at hu; rcases hu with rfl | rfl <;> rfl
structure Watch.wf (p : Watch) : Prop where
  margin : -9223372036854775808 ≤ p.margin ∧ p.margin ≤ 9223372036854775807
  lost : -9223372036854775808 ≤ p.lost ∧ p.lost ≤ 9223372036854775807

theorem Watch.at {w : World} {lo hi : Nat} {A : Option Addr} {n : Nat} {xs : List Watch} (h : Arr Watch.cs 2 w lo hi A n xs) {i : Nat} (hi' : i < n) :
    ∃ b off p, A = some ⟨b, off, none⟩ ∧ xs[i]? = some p ∧ lo ≤ b ∧ b < hi ∧ w.cell? ⟨b, off + i * 2, none⟩ = some (.int .i64 p.margin) ∧ w.cell? ⟨b, off + i * 2 + 1, none⟩ = some (.int .i64 p.lost) := by
  obtain ⟨b, off, p, h1, h2, h3, h4, hc⟩ := h.cells hi'
  exact ⟨b, off, p, h1, h2, h3, h4, hc 0 _ rfl, hc 1 _ rfl⟩

set_option maxHeartbeats 400000 in
theorem toWatch_any (p : Watch) (w : World) :
    Calls Try.prog 12 #[.agg #[.int .i64 p.margin, .int .i64 p.lost]] w fun e w' => e = .returned (.agg #[.int .i64 p.margin, .int .i64 p.lost]) ∧ Below w.heap.size w w' := by
  go_enter Try.func12, Try.ntmps12
  go_wp2
  exact bodyPost_ret (v := .agg #[.int .i64 p.margin, .int .i64 p.lost]) (by simp [results, Try.results12, go_sem]) rfl ⟨rfl, by repeat (first | exact Below.refl _ _ | (refine Below.setCell ?_ (by first | (simp; done) | (simp; omega)) _) | (refine Below.alloc ?_ (by first | (simp; done) | (simp; omega)) _) | refine Below.drew ?_)⟩
end Go.Proofs.Ytomifedaiabapaa
