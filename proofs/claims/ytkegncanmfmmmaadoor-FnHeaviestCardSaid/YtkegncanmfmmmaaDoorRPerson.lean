/- Person: the record, and the contracts of the laws' own functions over it: size, copy, equality, marks. The copies are of lists of at most 1048576. -/
import Derived.Test.YtkegncanmfmmmaaDoorProg
import Derived.Test.YtkegncanmfmmmaaDoorWords2
import Derived.Deep.RegionHeld3
import Derived.Deep.QuietTactic
import Derived.BigQuiet
import Derived.KernelRfl
namespace Go.Proofs.YtkegncanmfmmmaaDoor
open Go.RowKit
set_option linter.unusedVariables false

structure Person where
  name : ByteArray
  roles : Int
  till : Int

def Person.cs (p : Person) : List Value := [.string p.name, .int .i64 p.roles, .int .i64 p.till]
theorem Person.cs_len (p : Person) : p.cs.length = 3 := rfl
theorem Person.cs_one (p : Person) : ∀ u ∈ p.cs, u.oneCell' = true := by intro u hu; simp [Person.cs] at hu; rcases hu with rfl | rfl | rfl <;> rfl
structure Person.wf (p : Person) : Prop where
  name : p.name.size ≤ 9223372036854775807
  roles : -9223372036854775808 ≤ p.roles ∧ p.roles ≤ 9223372036854775807
  till : -9223372036854775808 ≤ p.till ∧ p.till ≤ 9223372036854775807

theorem Person.at {w : World} {lo hi : Nat} {A : Option Addr} {n : Nat} {xs : List Person} (h : Arr Person.cs 3 w lo hi A n xs) {i : Nat} (hi' : i < n) :
    ∃ b off p, A = some ⟨b, off, none⟩ ∧ xs[i]? = some p ∧ lo ≤ b ∧ b < hi ∧ w.cell? ⟨b, off + i * 3, none⟩ = some (.string p.name) ∧ w.cell? ⟨b, off + i * 3 + 1, none⟩ = some (.int .i64 p.roles) ∧ w.cell? ⟨b, off + i * 3 + 2, none⟩ = some (.int .i64 p.till) := by
  obtain ⟨b, off, p, h1, h2, h3, h4, hc⟩ := h.cells hi'
  exact ⟨b, off, p, h1, h2, h3, h4, hc 0 _ rfl, hc 1 _ rfl, hc 2 _ rfl⟩

def Person.sz (p : Person) : Nat := p.name.size
def szPersonS (n : Nat) (ps : List Person) : Int := (n : Int) + (tot Person.sz ps : Nat)
theorem PersonInfo : (Tryd.prog.info? 92).map (fun i => (i.zero, i.size, i.bytes)) = some (some (.agg #[.string ⟨#[]⟩, .int .i64 0, .int .i64 0]), 3, 32) := by kernel_rfl
def ToPersonS (w : World) (n : Nat) (ps : List Person) (e : Ending) (w' : World) : Prop :=
  ∃ g, e = .returned (.slice (some ⟨g, 0, none⟩) n n) ∧ Own Person.cs 3 w' w.heap.size w'.heap.size 92 (some ⟨g, 0, none⟩) n ps ∧ Below w.heap.size w w'
set_option maxHeartbeats 400000 in
theorem eqPerson_same (p : Person) (w : World) :
    Calls Tryd.prog 63 #[.agg #[.string p.name, .int .i64 p.roles, .int .i64 p.till], .agg #[.string p.name, .int .i64 p.roles, .int .i64 p.till]] w fun e w' => e = .returned (.bool true) ∧ Below w.heap.size w w' := by
  go_enter Tryd.func63, Tryd.ntmps63
  go_wp2
  go_ret
  exact ⟨rfl, by repeat (first | exact Below.refl _ _ | (refine Below.setCell ?_ (by first | (simp; done) | (simp; omega)) _) | (refine Below.alloc ?_ (by first | (simp; done) | (simp; omega)) _) | refine Below.drew ?_)⟩

set_option maxHeartbeats 1600000 in
theorem eqPersonS_same (A A2 : Option Addr) (n c c2 : Nat) (ps : List Person) (w : World) (lo lo2 : Nat) (h : Arr Person.cs 3 w lo w.heap.size A n ps) (h2 : Arr Person.cs 3 w lo2 w.heap.size A2 n ps) (hn : n ≤ 9223372036854775807) :
    Calls Tryd.prog 22 #[.slice A n c, .slice A2 n c2] w fun e w' => e = .returned (.bool true) ∧ Below w.heap.size w w' := by
  go_enter Tryd.func22, Tryd.ntmps22
  go_wp2
  go_loopw [5] (fun i wr => ∃ k : Nat, k ≤ n ∧ i = .int .i64 k ∧ Below w.heap.size w wr) (fun i _ => n - (intOf i).toNat)
  case atStart => exact ⟨0, Nat.zero_le _, rfl, Below.refl _ _⟩
  case round =>
    obtain ⟨k, hk, rfl, hb⟩ := hrel
    by_cases hlt : k < n
    · obtain ⟨b, off, p, rfl, hx, _, hbl, c0, c1, c2⟩ := Person.at (h.below hb) hlt
      obtain ⟨b2, off2, p2, rfl, hx2, _, hbl2, d0, d1, d2⟩ := Person.at (h2.below hb) hlt
      obtain rfl : p = p2 := by rw [hx] at hx2; exact Option.some.inj hx2
      have hlt0 : (0 : Int) ≤ (k : Int) := by omega
      have hlt1 : (k : Int) < (n : Int) := by omega
      have hx1 := hbl; have hx3 := hbl2; have hx4 := hb.size
      clear h h2 hx hx2
      go_wp2_with fail
      go_region_held3 (fun w' => w'.cell? ⟨b, off + k * 3, none⟩ = some (.string p.name) ∧ w'.cell? ⟨b, off + k * 3 + 1, none⟩ = some (.int .i64 p.roles) ∧ w'.cell? ⟨b, off + k * 3 + 2, none⟩ = some (.int .i64 p.till) ∧ w'.cell? ⟨b2, off2 + k * 3, none⟩ = some (.string p.name) ∧ w'.cell? ⟨b2, off2 + k * 3 + 1, none⟩ = some (.int .i64 p.roles) ∧ w'.cell? ⟨b2, off2 + k * 3 + 2, none⟩ = some (.int .i64 p.till)) (first | go_keep | exact ⟨(hb1.cell (by simp; omega)).trans c0, (hb1.cell (by simp; omega)).trans c1, (hb1.cell (by simp; omega)).trans c2, (hb1.cell (by simp; omega)).trans d0, (hb1.cell (by simp; omega)).trans d1, (hb1.cell (by simp; omega)).trans d2⟩) (first | (go_at_call 63; refine (eqPerson_same p _).mono ?_; rintro e w1 ⟨rfl, hb1⟩))
      go_wp2
      go_roundw
      case rel => exact ⟨k + 1, by omega, by go_num, hb.trans ((Below.drew (Below.refl _ _)).trans (hb1.mono hb.size))⟩
      case measure => simp [intOf]; omega
    · obtain rfl : k = n := by omega
      go_wp2
      go_ret
      exact ⟨rfl, hb⟩
end Go.Proofs.YtkegncanmfmmmaaDoor
