/- World: the record, and its copy. -/
import Derived.Test.YtomifedaiabapaaProg
import Derived.Test.YtomifedaiabapaaWords2
import Derived.Test.YtomifedaiabapaaPut
import Derived.Deep.RegionHeld3
import Derived.Deep.QuietTactic
import Derived.BigQuiet
import Derived.KernelRfl
namespace Go.Proofs.Ytomifedaiabapaa
open Go.RowKit
set_option linter.unusedVariables false

structure Wld where
  a : Int
  b : Int
  sa : Int
  sb : Int
  ga : Int
  gb : Int

def Wld.cs (p : Wld) : List Value := [.int .i64 p.a, .int .i64 p.b, .int .i64 p.sa, .int .i64 p.sb, .int .i64 p.ga, .int .i64 p.gb]
theorem Wld.cs_len (p : Wld) : p.cs.length = 6 := rfl
theorem Wld.cs_one (p : Wld) : ∀ u ∈ p.cs, u.oneCell' = true := by intro u hu; simp [Wld.cs] at hu; rcases hu with rfl | rfl | rfl | rfl | rfl | rfl <;> rfl
structure Wld.wf (p : Wld) : Prop where
  a : -9223372036854775808 ≤ p.a ∧ p.a ≤ 9223372036854775807
  b : -9223372036854775808 ≤ p.b ∧ p.b ≤ 9223372036854775807
  sa : -9223372036854775808 ≤ p.sa ∧ p.sa ≤ 9223372036854775807
  sb : -9223372036854775808 ≤ p.sb ∧ p.sb ≤ 9223372036854775807
  ga : -9223372036854775808 ≤ p.ga ∧ p.ga ≤ 9223372036854775807
  gb : -9223372036854775808 ≤ p.gb ∧ p.gb ≤ 9223372036854775807

theorem Wld.at {w : World} {lo hi : Nat} {A : Option Addr} {n : Nat} {xs : List Wld} (h : Arr Wld.cs 6 w lo hi A n xs) {i : Nat} (hi' : i < n) :
    ∃ b off p, A = some ⟨b, off, none⟩ ∧ xs[i]? = some p ∧ lo ≤ b ∧ b < hi ∧ w.cell? ⟨b, off + i * 6, none⟩ = some (.int .i64 p.a) ∧ w.cell? ⟨b, off + i * 6 + 1, none⟩ = some (.int .i64 p.b) ∧ w.cell? ⟨b, off + i * 6 + 2, none⟩ = some (.int .i64 p.sa) ∧ w.cell? ⟨b, off + i * 6 + 3, none⟩ = some (.int .i64 p.sb) ∧ w.cell? ⟨b, off + i * 6 + 4, none⟩ = some (.int .i64 p.ga) ∧ w.cell? ⟨b, off + i * 6 + 5, none⟩ = some (.int .i64 p.gb) := by
  obtain ⟨b, off, p, h1, h2, h3, h4, hc⟩ := h.cells hi'
  exact ⟨b, off, p, h1, h2, h3, h4, hc 0 _ rfl, hc 1 _ rfl, hc 2 _ rfl, hc 3 _ rfl, hc 4 _ rfl, hc 5 _ rfl⟩

set_option maxHeartbeats 400000 in
theorem toWorld_any (p : Wld) (w : World) :
    Calls Try.prog 13 #[.agg #[.int .i64 p.a, .int .i64 p.b, .int .i64 p.sa, .int .i64 p.sb, .int .i64 p.ga, .int .i64 p.gb]] w fun e w' => e = .returned (.agg #[.int .i64 p.a, .int .i64 p.b, .int .i64 p.sa, .int .i64 p.sb, .int .i64 p.ga, .int .i64 p.gb]) ∧ Below w.heap.size w w' := by
  go_enter Try.func13, Try.ntmps13
  go_wp2
  exact bodyPost_ret (v := .agg #[.int .i64 p.a, .int .i64 p.b, .int .i64 p.sa, .int .i64 p.sb, .int .i64 p.ga, .int .i64 p.gb]) (by simp [results, Try.results13, go_sem]) rfl ⟨rfl, by repeat (first | exact Below.refl _ _ | (refine Below.setCell ?_ (by first | (simp; done) | (simp; omega)) _) | (refine Below.alloc ?_ (by first | (simp; done) | (simp; omega)) _) | refine Below.drew ?_)⟩
end Go.Proofs.Ytomifedaiabapaa
