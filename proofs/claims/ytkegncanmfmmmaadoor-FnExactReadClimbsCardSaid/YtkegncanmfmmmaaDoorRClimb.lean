/- Climb: the record, and the contracts of the laws' own functions over it: size, copy, equality, marks. The copies are of lists of at most 1048576. -/
import Derived.Test.YtkegncanmfmmmaaDoorProg
import Derived.Test.YtkegncanmfmmmaaDoorWords2
import Derived.Deep.RegionHeld3
import Derived.Deep.QuietTactic
import Derived.BigQuiet
import Derived.KernelRfl
namespace Go.Proofs.YtkegncanmfmmmaaDoor
open Go.RowKit
set_option linter.unusedVariables false

structure Climb where
  crane : Int
  sections : Int

def Climb.cs (p : Climb) : List Value := [.int .i64 p.crane, .int .i64 p.sections]
theorem Climb.cs_len (p : Climb) : p.cs.length = 2 := rfl
theorem Climb.cs_one (p : Climb) : ∀ u ∈ p.cs, u.oneCell' = true := by intro u hu; simp [Climb.cs] at hu; rcases hu with rfl | rfl <;> rfl
structure Climb.wf (p : Climb) : Prop where
  crane : -9223372036854775808 ≤ p.crane ∧ p.crane ≤ 9223372036854775807
  sections : -9223372036854775808 ≤ p.sections ∧ p.sections ≤ 9223372036854775807

theorem Climb.at {w : World} {lo hi : Nat} {A : Option Addr} {n : Nat} {xs : List Climb} (h : Arr Climb.cs 2 w lo hi A n xs) {i : Nat} (hi' : i < n) :
    ∃ b off p, A = some ⟨b, off, none⟩ ∧ xs[i]? = some p ∧ lo ≤ b ∧ b < hi ∧ w.cell? ⟨b, off + i * 2, none⟩ = some (.int .i64 p.crane) ∧ w.cell? ⟨b, off + i * 2 + 1, none⟩ = some (.int .i64 p.sections) := by
  obtain ⟨b, off, p, h1, h2, h3, h4, hc⟩ := h.cells hi'
  exact ⟨b, off, p, h1, h2, h3, h4, hc 0 _ rfl, hc 1 _ rfl⟩

def szClimbS (n : Nat) (_ps : List Climb) : Int := n
theorem ClimbInfo : (Tryd.prog.info? 78).map (fun i => (i.zero, i.size, i.bytes)) = some (some (.agg #[.int .i64 0, .int .i64 0]), 2, 16) := by kernel_rfl
def ToClimbS (w : World) (n : Nat) (ps : List Climb) (e : Ending) (w' : World) : Prop :=
  ∃ g, e = .returned (.slice (some ⟨g, 0, none⟩) n n) ∧ Own Climb.cs 2 w' w.heap.size w'.heap.size 78 (some ⟨g, 0, none⟩) n ps ∧ Below w.heap.size w w'
set_option maxHeartbeats 400000 in
theorem eqClimb_same (p : Climb) (w : World) :
    Calls Tryd.prog 53 #[.agg #[.int .i64 p.crane, .int .i64 p.sections], .agg #[.int .i64 p.crane, .int .i64 p.sections]] w fun e w' => e = .returned (.bool true) ∧ Below w.heap.size w w' := by
  go_enter Tryd.func53, Tryd.ntmps53
  go_wp2
  go_ret
  exact ⟨rfl, by repeat (first | exact Below.refl _ _ | (refine Below.setCell ?_ (by first | (simp; done) | (simp; omega)) _) | (refine Below.alloc ?_ (by first | (simp; done) | (simp; omega)) _) | refine Below.drew ?_)⟩

set_option maxHeartbeats 1600000 in
theorem eqClimbS_same (A A2 : Option Addr) (n c c2 : Nat) (ps : List Climb) (w : World) (lo lo2 : Nat) (h : Arr Climb.cs 2 w lo w.heap.size A n ps) (h2 : Arr Climb.cs 2 w lo2 w.heap.size A2 n ps) (hn : n ≤ 9223372036854775807) :
    Calls Tryd.prog 17 #[.slice A n c, .slice A2 n c2] w fun e w' => e = .returned (.bool true) ∧ Below w.heap.size w w' := by
  go_enter Tryd.func17, Tryd.ntmps17
  go_wp2
  go_loopw [5] (fun i wr => ∃ k : Nat, k ≤ n ∧ i = .int .i64 k ∧ Below w.heap.size w wr) (fun i _ => n - (intOf i).toNat)
  case atStart => exact ⟨0, Nat.zero_le _, rfl, Below.refl _ _⟩
  case round =>
    obtain ⟨k, hk, rfl, hb⟩ := hrel
    by_cases hlt : k < n
    · obtain ⟨b, off, p, rfl, hx, _, hbl, c0, c1⟩ := Climb.at (h.below hb) hlt
      obtain ⟨b2, off2, p2, rfl, hx2, _, hbl2, d0, d1⟩ := Climb.at (h2.below hb) hlt
      obtain rfl : p = p2 := by rw [hx] at hx2; exact Option.some.inj hx2
      have hlt0 : (0 : Int) ≤ (k : Int) := by omega
      have hlt1 : (k : Int) < (n : Int) := by omega
      have hx1 := hbl; have hx3 := hbl2; have hx4 := hb.size
      clear h h2 hx hx2
      go_wp2_with fail
      go_region_held3 (fun w' => w'.cell? ⟨b, off + k * 2, none⟩ = some (.int .i64 p.crane) ∧ w'.cell? ⟨b, off + k * 2 + 1, none⟩ = some (.int .i64 p.sections) ∧ w'.cell? ⟨b2, off2 + k * 2, none⟩ = some (.int .i64 p.crane) ∧ w'.cell? ⟨b2, off2 + k * 2 + 1, none⟩ = some (.int .i64 p.sections)) (first | go_keep | exact ⟨(hb1.cell (by simp; omega)).trans c0, (hb1.cell (by simp; omega)).trans c1, (hb1.cell (by simp; omega)).trans d0, (hb1.cell (by simp; omega)).trans d1⟩) (first | (go_at_call 53; refine (eqClimb_same p _).mono ?_; rintro e w1 ⟨rfl, hb1⟩))
      go_wp2
      go_roundw
      case rel => exact ⟨k + 1, by omega, by go_num, hb.trans ((Below.drew (Below.refl _ _)).trans (hb1.mono hb.size))⟩
      case measure => simp [intOf]; omega
    · obtain rfl : k = n := by omega
      go_wp2
      go_ret
      exact ⟨rfl, hb⟩
end Go.Proofs.YtkegncanmfmmmaaDoor
