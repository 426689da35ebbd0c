/- Crane: the record (points in it, a slice at its end), and the contracts of the laws' own functions over it: size, copy, equality. -/
import Derived.Test.YtkegncanmfmmmaaDoorProg
import Derived.Test.YtkegncanmfmmmaaDoorNest2
import Derived.Test.YtkegncanmfmmmaaDoorPoint
import Derived.Test.YtkegncanmfmmmaaDoorPut
import Derived.Test.YtkegncanmfmmmaaDoorRChartStep
import Derived.Deep.RegionHeld3
import Derived.Deep.QuietTactic
import Derived.BigQuiet
import Derived.KernelRfl
namespace Go.Proofs.YtkegncanmfmmmaaDoor
open Go.RowKit
set_option linter.unusedVariables false

structure CraneV where
  name : ByteArray
  ax : Int
  ay : Int
  height : Int
  jib : Int
  back : Int
/-- the record and where its slice lies -/
structure Crane where
  v : CraneV
  r : Row ChartStep
def Crane.val (p : Crane) : CraneV × List ChartStep := (p.v, p.r.xs)
def Crane.cs (p : Crane) : List Value := [.string p.v.name, .int .i64 p.v.ax, .int .i64 p.v.ay, .int .i64 p.v.height, .int .i64 p.v.jib, .int .i64 p.v.back, .slice p.r.a p.r.n p.r.cap]
theorem Crane.cs_len (p : Crane) : p.cs.length = 7 := rfl
theorem Crane.cs_one (p : Crane) : ∀ u ∈ p.cs, u.oneCell' = true := by intro u hu; simp [Crane.cs] at hu; rcases hu with rfl | rfl | rfl | rfl | rfl | rfl | rfl <;> rfl
structure CraneV.wf (p : CraneV) : Prop where
  name : p.name.size ≤ 9223372036854775807
  ax : -9223372036854775808 ≤ p.ax ∧ p.ax ≤ 9223372036854775807
  ay : -9223372036854775808 ≤ p.ay ∧ p.ay ≤ 9223372036854775807
  height : -9223372036854775808 ≤ p.height ∧ p.height ≤ 9223372036854775807
  jib : -9223372036854775808 ≤ p.jib ∧ p.jib ≤ 9223372036854775807
  back : -9223372036854775808 ≤ p.back ∧ p.back ≤ 9223372036854775807
structure Crane.wf (p : Crane) : Prop where
  v : p.v.wf
  n : p.r.n ≤ 9223372036854775807
  xs : ∀ x ∈ p.r.xs, ChartStep.wf x
abbrev Cranes (w : World) (lo hi : Nat) (A : Option Addr) (n : Nat) (ps : List Crane) : Prop := NArr Crane.cs 7 ChartStep.cs 2 Crane.r w lo hi A n ps
abbrev CranesOwn (w : World) (lo hi : Nat) (A : Option Addr) (n : Nat) (ps : List Crane) : Prop := NOwn Crane.cs 7 38 ChartStep.cs 2 162 Crane.r w lo hi A n ps
theorem Crane.at {w : World} {lo hi : Nat} {A : Option Addr} {n : Nat} {xs : List Crane} (h : Cranes w lo hi A n xs) {i : Nat} (hi' : i < n) :
    ∃ b off p, A = some ⟨b, off, none⟩ ∧ xs[i]? = some p ∧ lo ≤ b ∧ b < hi ∧ Arr ChartStep.cs 2 w lo hi p.r.a p.r.n p.r.xs ∧ w.cell? ⟨b, off + i * 7, none⟩ = some (.string p.v.name) ∧ w.cell? ⟨b, off + i * 7 + 1, none⟩ = some (.int .i64 p.v.ax) ∧ w.cell? ⟨b, off + i * 7 + 2, none⟩ = some (.int .i64 p.v.ay) ∧ w.cell? ⟨b, off + i * 7 + 3, none⟩ = some (.int .i64 p.v.height) ∧ w.cell? ⟨b, off + i * 7 + 4, none⟩ = some (.int .i64 p.v.jib) ∧ w.cell? ⟨b, off + i * 7 + 5, none⟩ = some (.int .i64 p.v.back) ∧ w.cell? ⟨b, off + i * 7 + 6, none⟩ = some (.slice p.r.a p.r.n p.r.cap) := by
  obtain ⟨b, off, p, h1, h2, h3, h4, hc⟩ := h.1.cells hi'
  exact ⟨b, off, p, h1, h2, h3, h4, h.2 p (List.mem_of_getElem? h2), hc 0 _ rfl, hc 1 _ rfl, hc 2 _ rfl, hc 3 _ rfl, hc 4 _ rfl, hc 5 _ rfl, hc 6 _ rfl⟩
theorem Crane.blk {w : World} {g : Nat} {t : TypeId} {v0 v1 v2 v3 v4 v5 v6 : Value} (h : Blk w g t #[v0, v1, v2, v3, v4, v5, v6]) : w.cell? ⟨g, 0, none⟩ = some v0 ∧ w.cell? ⟨g, 1, none⟩ = some v1 ∧ w.cell? ⟨g, 2, none⟩ = some v2 ∧ w.cell? ⟨g, 3, none⟩ = some v3 ∧ w.cell? ⟨g, 4, none⟩ = some v4 ∧ w.cell? ⟨g, 5, none⟩ = some v5 ∧ w.cell? ⟨g, 6, none⟩ = some v6 := ⟨(h.cell 0).trans rfl, (h.cell 1).trans rfl, (h.cell 2).trans rfl, (h.cell 3).trans rfl, (h.cell 4).trans rfl, (h.cell 5).trans rfl, (h.cell 6).trans rfl⟩
theorem Crane.fro {w : World} {g : Nat} {t : TypeId} {cs : Array Value} (h : Blk w g t cs) : w.frozen? ⟨g, 0, none⟩ = false ∧ w.frozen? ⟨g, 1, none⟩ = false ∧ w.frozen? ⟨g, 2, none⟩ = false ∧ w.frozen? ⟨g, 3, none⟩ = false ∧ w.frozen? ⟨g, 4, none⟩ = false ∧ w.frozen? ⟨g, 5, none⟩ = false ∧ w.frozen? ⟨g, 6, none⟩ = false := ⟨h.frozen 0, h.frozen 1, h.frozen 2, h.frozen 3, h.frozen 4, h.frozen 5, h.frozen 6⟩
def Crane.sz (p : Crane) : Nat := p.v.name.size + p.r.n
def szCraneS (n : Nat) (ps : List Crane) : Int := (n : Int) + (tot Crane.sz ps : Nat)
/-- a call that hands back a copy with a row of its own -/
def ToCrane (w : World) (p : Crane) (e : Ending) (w' : World) : Prop :=
  ∃ g, e = .returned (.agg #[.string p.v.name, .int .i64 p.v.ax, .int .i64 p.v.ay, .int .i64 p.v.height, .int .i64 p.v.jib, .int .i64 p.v.back, .slice (some ⟨g, 0, none⟩) p.r.n p.r.n]) ∧ Own ChartStep.cs 2 w' w.heap.size w'.heap.size 162 (some ⟨g, 0, none⟩) p.r.n p.r.xs ∧ Below w.heap.size w w'
theorem CraneInfo : (Tryd.prog.info? 38).map (fun i => (i.zero, i.size, i.bytes)) = some (some (.agg #[.string ⟨#[]⟩, .int .i64 0, .int .i64 0, .int .i64 0, .int .i64 0, .int .i64 0, .slice none 0 0]), 7, 80) := by kernel_rfl
def ToCraneS (w : World) (n : Nat) (ps : List Crane) (e : Ending) (w' : World) : Prop :=
  ∃ g ps', e = .returned (.slice (some ⟨g, 0, none⟩) n n) ∧ ps'.map Crane.val = ps.map Crane.val ∧ CranesOwn w' w.heap.size w'.heap.size (some ⟨g, 0, none⟩) n ps' ∧ Below w.heap.size w w'
end Go.Proofs.YtkegncanmfmmmaaDoor
