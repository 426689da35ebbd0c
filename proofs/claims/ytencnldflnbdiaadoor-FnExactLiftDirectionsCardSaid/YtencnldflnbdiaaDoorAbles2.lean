/- The load of a crane for a lift: loadFor, liftOk, can of the program; l09Load, l09Plain, l09Code, l09Can of the reference. -/
import Derived.Test.YtencnldflnbdiaaDoorAbles
namespace Go.Proofs.YtencnldflnbdiaaDoor
open Go.RowKit Go.Sort
set_option linter.unusedVariables false

/-- a record of that type lies at that place -/
def CraneAt (w : World) (b off : Nat) (p : Crane) : Prop := w.cell? ⟨b, off, none⟩ = some (.string p.v.name) ∧ w.cell? ⟨b, off + 1, none⟩ = some (.int .i64 p.v.ax) ∧ w.cell? ⟨b, off + 2, none⟩ = some (.int .i64 p.v.ay) ∧ w.cell? ⟨b, off + 3, none⟩ = some (.int .i64 p.v.height) ∧ w.cell? ⟨b, off + 4, none⟩ = some (.int .i64 p.v.jib) ∧ w.cell? ⟨b, off + 5, none⟩ = some (.int .i64 p.v.back) ∧ w.cell? ⟨b, off + 6, none⟩ = some (.slice p.r.a p.r.n p.r.cap)
theorem CraneAt.below {w w' : World} {b off B : Nat} {p : Crane} (h : CraneAt w b off p) (hb : Below B w w') (hB : b < B) : CraneAt w' b off p := by
  obtain ⟨c0, c1, c2, c3, c4, c5, c6⟩ := h
  exact ⟨(hb.cell (p := ⟨b, off, none⟩) hB).trans c0, (hb.cell (p := ⟨b, off + 1, none⟩) hB).trans c1, (hb.cell (p := ⟨b, off + 2, none⟩) hB).trans c2, (hb.cell (p := ⟨b, off + 3, none⟩) hB).trans c3, (hb.cell (p := ⟨b, off + 4, none⟩) hB).trans c4, (hb.cell (p := ⟨b, off + 5, none⟩) hB).trans c5, (hb.cell (p := ⟨b, off + 6, none⟩) hB).trans c6⟩
theorem CraneAt.blk {w : World} {g : Nat} {t : TypeId} {p : Crane} (h : Blk w g t #[.string p.v.name, .int .i64 p.v.ax, .int .i64 p.v.ay, .int .i64 p.v.height, .int .i64 p.v.jib, .int .i64 p.v.back, .slice p.r.a p.r.n p.r.cap]) : CraneAt w g 0 p := ⟨h.cell 0, h.cell 1, h.cell 2, h.cell 3, h.cell 4, h.cell 5, h.cell 6⟩
/-- a record of that type lies at that place -/
def LiftAt (w : World) (b off : Nat) (l : Lift) : Prop := w.cell? ⟨b, off, none⟩ = some (.string l.v.name) ∧ w.cell? ⟨b, off + 1, none⟩ = some (.int .i64 l.v.weight) ∧ w.cell? ⟨b, off + 2, none⟩ = some (.int .i64 l.v.fx) ∧ w.cell? ⟨b, off + 3, none⟩ = some (.int .i64 l.v.fy) ∧ w.cell? ⟨b, off + 4, none⟩ = some (.int .i64 l.v.tx) ∧ w.cell? ⟨b, off + 5, none⟩ = some (.int .i64 l.v.ty) ∧ w.cell? ⟨b, off + 6, none⟩ = some (.int .i64 l.v.height) ∧ w.cell? ⟨b, off + 7, none⟩ = some (.int .i64 l.v.deadline) ∧ w.cell? ⟨b, off + 8, none⟩ = some (.slice l.r.a l.r.n l.r.cap)
theorem LiftAt.below {w w' : World} {b off B : Nat} {l : Lift} (h : LiftAt w b off l) (hb : Below B w w') (hB : b < B) : LiftAt w' b off l := by
  obtain ⟨c0, c1, c2, c3, c4, c5, c6, c7, c8⟩ := h
  exact ⟨(hb.cell (p := ⟨b, off, none⟩) hB).trans c0, (hb.cell (p := ⟨b, off + 1, none⟩) hB).trans c1, (hb.cell (p := ⟨b, off + 2, none⟩) hB).trans c2, (hb.cell (p := ⟨b, off + 3, none⟩) hB).trans c3, (hb.cell (p := ⟨b, off + 4, none⟩) hB).trans c4, (hb.cell (p := ⟨b, off + 5, none⟩) hB).trans c5, (hb.cell (p := ⟨b, off + 6, none⟩) hB).trans c6, (hb.cell (p := ⟨b, off + 7, none⟩) hB).trans c7, (hb.cell (p := ⟨b, off + 8, none⟩) hB).trans c8⟩
theorem LiftAt.blk {w : World} {g : Nat} {t : TypeId} {l : Lift} (h : Blk w g t #[.string l.v.name, .int .i64 l.v.weight, .int .i64 l.v.fx, .int .i64 l.v.fy, .int .i64 l.v.tx, .int .i64 l.v.ty, .int .i64 l.v.height, .int .i64 l.v.deadline, .slice l.r.a l.r.n l.r.cap]) : LiftAt w g 0 l := ⟨h.cell 0, h.cell 1, h.cell 2, h.cell 3, h.cell 4, h.cell 5, h.cell 6, h.cell 7, h.cell 8⟩

/-- the load of a crane for a lift, -1 for none -/
def ldF (c : CV) (v : LiftV) : Int := if ldP c v.fx v.fy < ldP c v.tx v.ty then ldP c v.fx v.fy else ldP c v.tx v.ty
theorem ldF_range {c : CV} (h : craneOk c = true) (v : LiftV) : -1 ≤ ldF c v ∧ ldF c v ≤ 50000 := by
  have h1 := ldP_range h v.fx v.fy; have h2 := ldP_range h v.tx v.ty
  unfold ldF; split <;> omega
theorem ret2_int {x y : Int} {v : Value} (h : x = y) : Ending.returned (.tuple #[.int .i64 x, v]) = .returned (.tuple #[.int .i64 y, v]) := by rw [h]
theorem PlainV.fp {v : LiftV} (h : PlainV v) : Plc v.fx v.fy := ⟨h.fx, h.fy⟩
theorem PlainV.tp {v : LiftV} (h : PlainV v) : Plc v.tx v.ty := ⟨h.tx, h.ty⟩

end Go.Proofs.YtencnldflnbdiaaDoor
