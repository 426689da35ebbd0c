/- Lift: the record (points in it, a slice at its end), and the contracts of the laws' own functions over it: size, copy, equality. -/
import Derived.Test.YtkegncanmfmmmaaDoorProg
import Derived.Test.YtkegncanmfmmmaaDoorNest2
import Derived.Test.YtkegncanmfmmmaaDoorPoint
import Derived.Test.YtkegncanmfmmmaaDoorPut
import Derived.Test.YtkegncanmfmmmaaDoorRInt64S2
import Derived.Deep.RegionHeld3
import Derived.Deep.QuietTactic
import Derived.BigQuiet
import Derived.KernelRfl
namespace Go.Proofs.YtkegncanmfmmmaaDoor
open Go.RowKit
set_option linter.unusedVariables false

structure LiftV where
  name : ByteArray
  weight : Int
  fx : Int
  fy : Int
  tx : Int
  ty : Int
  height : Int
  deadline : Int
/-- the record and where its slice lies -/
structure Lift where
  v : LiftV
  r : Row Int
def Lift.val (p : Lift) : LiftV × List Int := (p.v, p.r.xs)
def Lift.cs (p : Lift) : List Value := [.string p.v.name, .int .i64 p.v.weight, .int .i64 p.v.fx, .int .i64 p.v.fy, .int .i64 p.v.tx, .int .i64 p.v.ty, .int .i64 p.v.height, .int .i64 p.v.deadline, .slice p.r.a p.r.n p.r.cap]
theorem Lift.cs_len (p : Lift) : p.cs.length = 9 := rfl
theorem Lift.cs_one (p : Lift) : ∀ u ∈ p.cs, u.oneCell' = true := by intro u hu; simp [Lift.cs] at hu; rcases hu with rfl | rfl | rfl | rfl | rfl | rfl | rfl | rfl | rfl <;> rfl
structure LiftV.wf (p : LiftV) : Prop where
  name : p.name.size ≤ 9223372036854775807
  weight : -9223372036854775808 ≤ p.weight ∧ p.weight ≤ 9223372036854775807
  fx : -9223372036854775808 ≤ p.fx ∧ p.fx ≤ 9223372036854775807
  fy : -9223372036854775808 ≤ p.fy ∧ p.fy ≤ 9223372036854775807
  tx : -9223372036854775808 ≤ p.tx ∧ p.tx ≤ 9223372036854775807
  ty : -9223372036854775808 ≤ p.ty ∧ p.ty ≤ 9223372036854775807
  height : -9223372036854775808 ≤ p.height ∧ p.height ≤ 9223372036854775807
  deadline : -9223372036854775808 ≤ p.deadline ∧ p.deadline ≤ 9223372036854775807
structure Lift.wf (p : Lift) : Prop where
  v : p.v.wf
  n : p.r.n ≤ 9223372036854775807
  xs : True
abbrev Lifts (w : World) (lo hi : Nat) (A : Option Addr) (n : Nat) (ps : List Lift) : Prop := NArr Lift.cs 9 ic 1 Lift.r w lo hi A n ps
abbrev LiftsOwn (w : World) (lo hi : Nat) (A : Option Addr) (n : Nat) (ps : List Lift) : Prop := NOwn Lift.cs 9 41 ic 1 2 Lift.r w lo hi A n ps
theorem Lift.at {w : World} {lo hi : Nat} {A : Option Addr} {n : Nat} {xs : List Lift} (h : Lifts w lo hi A n xs) {i : Nat} (hi' : i < n) :
    ∃ b off p, A = some ⟨b, off, none⟩ ∧ xs[i]? = some p ∧ lo ≤ b ∧ b < hi ∧ Arr ic 1 w lo hi p.r.a p.r.n p.r.xs ∧ w.cell? ⟨b, off + i * 9, none⟩ = some (.string p.v.name) ∧ w.cell? ⟨b, off + i * 9 + 1, none⟩ = some (.int .i64 p.v.weight) ∧ w.cell? ⟨b, off + i * 9 + 2, none⟩ = some (.int .i64 p.v.fx) ∧ w.cell? ⟨b, off + i * 9 + 3, none⟩ = some (.int .i64 p.v.fy) ∧ w.cell? ⟨b, off + i * 9 + 4, none⟩ = some (.int .i64 p.v.tx) ∧ w.cell? ⟨b, off + i * 9 + 5, none⟩ = some (.int .i64 p.v.ty) ∧ w.cell? ⟨b, off + i * 9 + 6, none⟩ = some (.int .i64 p.v.height) ∧ w.cell? ⟨b, off + i * 9 + 7, none⟩ = some (.int .i64 p.v.deadline) ∧ w.cell? ⟨b, off + i * 9 + 8, none⟩ = some (.slice p.r.a p.r.n p.r.cap) := by
  obtain ⟨b, off, p, h1, h2, h3, h4, hc⟩ := h.1.cells hi'
  exact ⟨b, off, p, h1, h2, h3, h4, h.2 p (List.mem_of_getElem? h2), hc 0 _ rfl, hc 1 _ rfl, hc 2 _ rfl, hc 3 _ rfl, hc 4 _ rfl, hc 5 _ rfl, hc 6 _ rfl, hc 7 _ rfl, hc 8 _ rfl⟩
theorem Lift.blk {w : World} {g : Nat} {t : TypeId} {v0 v1 v2 v3 v4 v5 v6 v7 v8 : Value} (h : Blk w g t #[v0, v1, v2, v3, v4, v5, v6, v7, v8]) : w.cell? ⟨g, 0, none⟩ = some v0 ∧ w.cell? ⟨g, 1, none⟩ = some v1 ∧ w.cell? ⟨g, 2, none⟩ = some v2 ∧ w.cell? ⟨g, 3, none⟩ = some v3 ∧ w.cell? ⟨g, 4, none⟩ = some v4 ∧ w.cell? ⟨g, 5, none⟩ = some v5 ∧ w.cell? ⟨g, 6, none⟩ = some v6 ∧ w.cell? ⟨g, 7, none⟩ = some v7 ∧ w.cell? ⟨g, 8, none⟩ = some v8 := ⟨(h.cell 0).trans rfl, (h.cell 1).trans rfl, (h.cell 2).trans rfl, (h.cell 3).trans rfl, (h.cell 4).trans rfl, (h.cell 5).trans rfl, (h.cell 6).trans rfl, (h.cell 7).trans rfl, (h.cell 8).trans rfl⟩
theorem Lift.fro {w : World} {g : Nat} {t : TypeId} {cs : Array Value} (h : Blk w g t cs) : w.frozen? ⟨g, 0, none⟩ = false ∧ w.frozen? ⟨g, 1, none⟩ = false ∧ w.frozen? ⟨g, 2, none⟩ = false ∧ w.frozen? ⟨g, 3, none⟩ = false ∧ w.frozen? ⟨g, 4, none⟩ = false ∧ w.frozen? ⟨g, 5, none⟩ = false ∧ w.frozen? ⟨g, 6, none⟩ = false ∧ w.frozen? ⟨g, 7, none⟩ = false ∧ w.frozen? ⟨g, 8, none⟩ = false := ⟨h.frozen 0, h.frozen 1, h.frozen 2, h.frozen 3, h.frozen 4, h.frozen 5, h.frozen 6, h.frozen 7, h.frozen 8⟩
def Lift.sz (p : Lift) : Nat := p.v.name.size + p.r.n
def szLiftS (n : Nat) (ps : List Lift) : Int := (n : Int) + (tot Lift.sz ps : Nat)
/-- a call that hands back a copy with a row of its own -/
def ToLift (w : World) (p : Lift) (e : Ending) (w' : World) : Prop :=
  ∃ g, e = .returned (.agg #[.string p.v.name, .int .i64 p.v.weight, .int .i64 p.v.fx, .int .i64 p.v.fy, .int .i64 p.v.tx, .int .i64 p.v.ty, .int .i64 p.v.height, .int .i64 p.v.deadline, .slice (some ⟨g, 0, none⟩) p.r.n p.r.n]) ∧ Own ic 1 w' w.heap.size w'.heap.size 2 (some ⟨g, 0, none⟩) p.r.n p.r.xs ∧ Below w.heap.size w w'
theorem LiftInfo : (Tryd.prog.info? 41).map (fun i => (i.zero, i.size, i.bytes)) = some (some (.agg #[.string ⟨#[]⟩, .int .i64 0, .int .i64 0, .int .i64 0, .int .i64 0, .int .i64 0, .int .i64 0, .int .i64 0, .slice none 0 0]), 9, 96) := by kernel_rfl
def ToLiftS (w : World) (n : Nat) (ps : List Lift) (e : Ending) (w' : World) : Prop :=
  ∃ g ps', e = .returned (.slice (some ⟨g, 0, none⟩) n n) ∧ ps'.map Lift.val = ps.map Lift.val ∧ LiftsOwn w' w.heap.size w'.heap.size (some ⟨g, 0, none⟩) n ps' ∧ Below w.heap.size w w'
end Go.Proofs.YtkegncanmfmmmaaDoor
