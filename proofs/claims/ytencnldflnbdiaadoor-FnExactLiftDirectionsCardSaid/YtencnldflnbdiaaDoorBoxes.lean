/- Boxes of records that the laws make: how they are kept. No program in sight. -/
import Derived.Test.YtencnldflnbdiaaDoorRCrane
import Derived.Test.YtencnldflnbdiaaDoorRLift
namespace Go.Proofs.YtencnldflnbdiaaDoor
open Go.RowKit
set_option linter.unusedVariables false
def BoxCrane (u : World) (g : Nat) (v : CraneV) (A : Option Addr) (n c : Nat) : Prop := u.cell? ⟨g, 0, none⟩ = some (.string v.name) ∧ u.cell? ⟨g, 1, none⟩ = some (.int .i64 v.ax) ∧ u.cell? ⟨g, 2, none⟩ = some (.int .i64 v.ay) ∧ u.cell? ⟨g, 3, none⟩ = some (.int .i64 v.height) ∧ u.cell? ⟨g, 4, none⟩ = some (.int .i64 v.jib) ∧ u.cell? ⟨g, 5, none⟩ = some (.int .i64 v.back) ∧ u.cell? ⟨g, 6, none⟩ = some (.slice A n c)
theorem BoxCrane.keep {u u' : World} {g B : Nat} {v : CraneV} {A : Option Addr} {n c : Nat} (h : BoxCrane u g v A n c) (hb : Below B u u') (hB : g < B) : BoxCrane u' g v A n c := by
  obtain ⟨c0, c1, c2, c3, c4, c5, c6⟩ := h
  exact ⟨(hb.cell (p := ⟨g, 0, none⟩) hB).trans c0, (hb.cell (p := ⟨g, 1, none⟩) hB).trans c1, (hb.cell (p := ⟨g, 2, none⟩) hB).trans c2, (hb.cell (p := ⟨g, 3, none⟩) hB).trans c3, (hb.cell (p := ⟨g, 4, none⟩) hB).trans c4, (hb.cell (p := ⟨g, 5, none⟩) hB).trans c5, (hb.cell (p := ⟨g, 6, none⟩) hB).trans c6⟩
theorem BoxCrane.blk {u : World} {g : Nat} {t : TypeId} {v : CraneV} {A : Option Addr} {n c : Nat} (h : Blk u g t #[.string v.name, .int .i64 v.ax, .int .i64 v.ay, .int .i64 v.height, .int .i64 v.jib, .int .i64 v.back, .slice A n c]) : BoxCrane u g v A n c := ⟨h.cell 0, h.cell 1, h.cell 2, h.cell 3, h.cell 4, h.cell 5, h.cell 6⟩
def BoxLift (u : World) (g : Nat) (v : LiftV) (A : Option Addr) (n c : Nat) : Prop := u.cell? ⟨g, 0, none⟩ = some (.string v.name) ∧ u.cell? ⟨g, 1, none⟩ = some (.int .i64 v.weight) ∧ u.cell? ⟨g, 2, none⟩ = some (.int .i64 v.fx) ∧ u.cell? ⟨g, 3, none⟩ = some (.int .i64 v.fy) ∧ u.cell? ⟨g, 4, none⟩ = some (.int .i64 v.tx) ∧ u.cell? ⟨g, 5, none⟩ = some (.int .i64 v.ty) ∧ u.cell? ⟨g, 6, none⟩ = some (.int .i64 v.height) ∧ u.cell? ⟨g, 7, none⟩ = some (.int .i64 v.deadline) ∧ u.cell? ⟨g, 8, none⟩ = some (.slice A n c)
theorem BoxLift.keep {u u' : World} {g B : Nat} {v : LiftV} {A : Option Addr} {n c : Nat} (h : BoxLift u g v A n c) (hb : Below B u u') (hB : g < B) : BoxLift u' g v A n c := by
  obtain ⟨c0, c1, c2, c3, c4, c5, c6, c7, c8⟩ := h
  exact ⟨(hb.cell (p := ⟨g, 0, none⟩) hB).trans c0, (hb.cell (p := ⟨g, 1, none⟩) hB).trans c1, (hb.cell (p := ⟨g, 2, none⟩) hB).trans c2, (hb.cell (p := ⟨g, 3, none⟩) hB).trans c3, (hb.cell (p := ⟨g, 4, none⟩) hB).trans c4, (hb.cell (p := ⟨g, 5, none⟩) hB).trans c5, (hb.cell (p := ⟨g, 6, none⟩) hB).trans c6, (hb.cell (p := ⟨g, 7, none⟩) hB).trans c7, (hb.cell (p := ⟨g, 8, none⟩) hB).trans c8⟩
theorem BoxLift.blk {u : World} {g : Nat} {t : TypeId} {v : LiftV} {A : Option Addr} {n c : Nat} (h : Blk u g t #[.string v.name, .int .i64 v.weight, .int .i64 v.fx, .int .i64 v.fy, .int .i64 v.tx, .int .i64 v.ty, .int .i64 v.height, .int .i64 v.deadline, .slice A n c]) : BoxLift u g v A n c := ⟨h.cell 0, h.cell 1, h.cell 2, h.cell 3, h.cell 4, h.cell 5, h.cell 6, h.cell 7, h.cell 8⟩
def TwoCraneCrane (u : World) (g g2 : Nat) (v : CraneV) (v2 : CraneV) (A A2 : Option Addr) (n c n2 c2 : Nat) : Prop := u.cell? ⟨g, 0, none⟩ = some (.string v.name) ∧ u.cell? ⟨g, 1, none⟩ = some (.int .i64 v.ax) ∧ u.cell? ⟨g, 2, none⟩ = some (.int .i64 v.ay) ∧ u.cell? ⟨g, 3, none⟩ = some (.int .i64 v.height) ∧ u.cell? ⟨g, 4, none⟩ = some (.int .i64 v.jib) ∧ u.cell? ⟨g, 5, none⟩ = some (.int .i64 v.back) ∧ u.cell? ⟨g, 6, none⟩ = some (.slice A n c) ∧ u.cell? ⟨g2, 0, none⟩ = some (.string v2.name) ∧ u.cell? ⟨g2, 1, none⟩ = some (.int .i64 v2.ax) ∧ u.cell? ⟨g2, 2, none⟩ = some (.int .i64 v2.ay) ∧ u.cell? ⟨g2, 3, none⟩ = some (.int .i64 v2.height) ∧ u.cell? ⟨g2, 4, none⟩ = some (.int .i64 v2.jib) ∧ u.cell? ⟨g2, 5, none⟩ = some (.int .i64 v2.back) ∧ u.cell? ⟨g2, 6, none⟩ = some (.slice A2 n2 c2)
theorem TwoCraneCrane.mk_ {u : World} {g g2 : Nat} {v : CraneV} {v2 : CraneV} {A A2 : Option Addr} {n c n2 c2 : Nat} (h : BoxCrane u g v A n c) (h2 : BoxCrane u g2 v2 A2 n2 c2) : TwoCraneCrane u g g2 v v2 A A2 n c n2 c2 := by
  obtain ⟨c0, c1, c2, c3, c4, c5, c6⟩ := h
  obtain ⟨d0, d1, d2, d3, d4, d5, d6⟩ := h2
  exact ⟨c0, c1, c2, c3, c4, c5, c6, d0, d1, d2, d3, d4, d5, d6⟩
theorem TwoCraneCrane.fst {u : World} {g g2 : Nat} {v : CraneV} {v2 : CraneV} {A A2 : Option Addr} {n c n2 c2 : Nat} (h : TwoCraneCrane u g g2 v v2 A A2 n c n2 c2) : BoxCrane u g v A n c := by
  obtain ⟨c0, c1, c2, c3, c4, c5, c6, d0, d1, d2, d3, d4, d5, d6⟩ := h
  exact ⟨c0, c1, c2, c3, c4, c5, c6⟩
theorem TwoCraneCrane.snd {u : World} {g g2 : Nat} {v : CraneV} {v2 : CraneV} {A A2 : Option Addr} {n c n2 c2 : Nat} (h : TwoCraneCrane u g g2 v v2 A A2 n c n2 c2) : BoxCrane u g2 v2 A2 n2 c2 := by
  obtain ⟨c0, c1, c2, c3, c4, c5, c6, d0, d1, d2, d3, d4, d5, d6⟩ := h
  exact ⟨d0, d1, d2, d3, d4, d5, d6⟩
theorem TwoCraneCrane.keep {u u' : World} {B : Nat} {g g2 : Nat} {v : CraneV} {v2 : CraneV} {A A2 : Option Addr} {n c n2 c2 : Nat} (h : TwoCraneCrane u g g2 v v2 A A2 n c n2 c2) (hb : Below B u u') (hB : g < B) (hB2 : g2 < B) : TwoCraneCrane u' g g2 v v2 A A2 n c n2 c2 := TwoCraneCrane.mk_ (h.fst.keep hb hB) (h.snd.keep hb hB2)
def TwoCraneLift (u : World) (g g2 : Nat) (v : CraneV) (v2 : LiftV) (A A2 : Option Addr) (n c n2 c2 : Nat) : Prop := u.cell? ⟨g, 0, none⟩ = some (.string v.name) ∧ u.cell? ⟨g, 1, none⟩ = some (.int .i64 v.ax) ∧ u.cell? ⟨g, 2, none⟩ = some (.int .i64 v.ay) ∧ u.cell? ⟨g, 3, none⟩ = some (.int .i64 v.height) ∧ u.cell? ⟨g, 4, none⟩ = some (.int .i64 v.jib) ∧ u.cell? ⟨g, 5, none⟩ = some (.int .i64 v.back) ∧ u.cell? ⟨g, 6, none⟩ = some (.slice A n c) ∧ u.cell? ⟨g2, 0, none⟩ = some (.string v2.name) ∧ u.cell? ⟨g2, 1, none⟩ = some (.int .i64 v2.weight) ∧ u.cell? ⟨g2, 2, none⟩ = some (.int .i64 v2.fx) ∧ u.cell? ⟨g2, 3, none⟩ = some (.int .i64 v2.fy) ∧ u.cell? ⟨g2, 4, none⟩ = some (.int .i64 v2.tx) ∧ u.cell? ⟨g2, 5, none⟩ = some (.int .i64 v2.ty) ∧ u.cell? ⟨g2, 6, none⟩ = some (.int .i64 v2.height) ∧ u.cell? ⟨g2, 7, none⟩ = some (.int .i64 v2.deadline) ∧ u.cell? ⟨g2, 8, none⟩ = some (.slice A2 n2 c2)
theorem TwoCraneLift.mk_ {u : World} {g g2 : Nat} {v : CraneV} {v2 : LiftV} {A A2 : Option Addr} {n c n2 c2 : Nat} (h : BoxCrane u g v A n c) (h2 : BoxLift u g2 v2 A2 n2 c2) : TwoCraneLift u g g2 v v2 A A2 n c n2 c2 := by
  obtain ⟨c0, c1, c2, c3, c4, c5, c6⟩ := h
  obtain ⟨d0, d1, d2, d3, d4, d5, d6, d7, d8⟩ := h2
  exact ⟨c0, c1, c2, c3, c4, c5, c6, d0, d1, d2, d3, d4, d5, d6, d7, d8⟩
theorem TwoCraneLift.fst {u : World} {g g2 : Nat} {v : CraneV} {v2 : LiftV} {A A2 : Option Addr} {n c n2 c2 : Nat} (h : TwoCraneLift u g g2 v v2 A A2 n c n2 c2) : BoxCrane u g v A n c := by
  obtain ⟨c0, c1, c2, c3, c4, c5, c6, d0, d1, d2, d3, d4, d5, d6, d7, d8⟩ := h
  exact ⟨c0, c1, c2, c3, c4, c5, c6⟩
theorem TwoCraneLift.snd {u : World} {g g2 : Nat} {v : CraneV} {v2 : LiftV} {A A2 : Option Addr} {n c n2 c2 : Nat} (h : TwoCraneLift u g g2 v v2 A A2 n c n2 c2) : BoxLift u g2 v2 A2 n2 c2 := by
  obtain ⟨c0, c1, c2, c3, c4, c5, c6, d0, d1, d2, d3, d4, d5, d6, d7, d8⟩ := h
  exact ⟨d0, d1, d2, d3, d4, d5, d6, d7, d8⟩
theorem TwoCraneLift.keep {u u' : World} {B : Nat} {g g2 : Nat} {v : CraneV} {v2 : LiftV} {A A2 : Option Addr} {n c n2 c2 : Nat} (h : TwoCraneLift u g g2 v v2 A A2 n c n2 c2) (hb : Below B u u') (hB : g < B) (hB2 : g2 < B) : TwoCraneLift u' g g2 v v2 A A2 n c n2 c2 := TwoCraneLift.mk_ (h.fst.keep hb hB) (h.snd.keep hb hB2)
def TwoLiftCrane (u : World) (g g2 : Nat) (v : LiftV) (v2 : CraneV) (A A2 : Option Addr) (n c n2 c2 : Nat) : Prop := u.cell? ⟨g, 0, none⟩ = some (.string v.name) ∧ u.cell? ⟨g, 1, none⟩ = some (.int .i64 v.weight) ∧ u.cell? ⟨g, 2, none⟩ = some (.int .i64 v.fx) ∧ u.cell? ⟨g, 3, none⟩ = some (.int .i64 v.fy) ∧ u.cell? ⟨g, 4, none⟩ = some (.int .i64 v.tx) ∧ u.cell? ⟨g, 5, none⟩ = some (.int .i64 v.ty) ∧ u.cell? ⟨g, 6, none⟩ = some (.int .i64 v.height) ∧ u.cell? ⟨g, 7, none⟩ = some (.int .i64 v.deadline) ∧ u.cell? ⟨g, 8, none⟩ = some (.slice A n c) ∧ u.cell? ⟨g2, 0, none⟩ = some (.string v2.name) ∧ u.cell? ⟨g2, 1, none⟩ = some (.int .i64 v2.ax) ∧ u.cell? ⟨g2, 2, none⟩ = some (.int .i64 v2.ay) ∧ u.cell? ⟨g2, 3, none⟩ = some (.int .i64 v2.height) ∧ u.cell? ⟨g2, 4, none⟩ = some (.int .i64 v2.jib) ∧ u.cell? ⟨g2, 5, none⟩ = some (.int .i64 v2.back) ∧ u.cell? ⟨g2, 6, none⟩ = some (.slice A2 n2 c2)
theorem TwoLiftCrane.mk_ {u : World} {g g2 : Nat} {v : LiftV} {v2 : CraneV} {A A2 : Option Addr} {n c n2 c2 : Nat} (h : BoxLift u g v A n c) (h2 : BoxCrane u g2 v2 A2 n2 c2) : TwoLiftCrane u g g2 v v2 A A2 n c n2 c2 := by
  obtain ⟨c0, c1, c2, c3, c4, c5, c6, c7, c8⟩ := h
  obtain ⟨d0, d1, d2, d3, d4, d5, d6⟩ := h2
  exact ⟨c0, c1, c2, c3, c4, c5, c6, c7, c8, d0, d1, d2, d3, d4, d5, d6⟩
theorem TwoLiftCrane.fst {u : World} {g g2 : Nat} {v : LiftV} {v2 : CraneV} {A A2 : Option Addr} {n c n2 c2 : Nat} (h : TwoLiftCrane u g g2 v v2 A A2 n c n2 c2) : BoxLift u g v A n c := by
  obtain ⟨c0, c1, c2, c3, c4, c5, c6, c7, c8, d0, d1, d2, d3, d4, d5, d6⟩ := h
  exact ⟨c0, c1, c2, c3, c4, c5, c6, c7, c8⟩
theorem TwoLiftCrane.snd {u : World} {g g2 : Nat} {v : LiftV} {v2 : CraneV} {A A2 : Option Addr} {n c n2 c2 : Nat} (h : TwoLiftCrane u g g2 v v2 A A2 n c n2 c2) : BoxCrane u g2 v2 A2 n2 c2 := by
  obtain ⟨c0, c1, c2, c3, c4, c5, c6, c7, c8, d0, d1, d2, d3, d4, d5, d6⟩ := h
  exact ⟨d0, d1, d2, d3, d4, d5, d6⟩
theorem TwoLiftCrane.keep {u u' : World} {B : Nat} {g g2 : Nat} {v : LiftV} {v2 : CraneV} {A A2 : Option Addr} {n c n2 c2 : Nat} (h : TwoLiftCrane u g g2 v v2 A A2 n c n2 c2) (hb : Below B u u') (hB : g < B) (hB2 : g2 < B) : TwoLiftCrane u' g g2 v v2 A A2 n c n2 c2 := TwoLiftCrane.mk_ (h.fst.keep hb hB) (h.snd.keep hb hB2)
def TwoLiftLift (u : World) (g g2 : Nat) (v : LiftV) (v2 : LiftV) (A A2 : Option Addr) (n c n2 c2 : Nat) : Prop := u.cell? ⟨g, 0, none⟩ = some (.string v.name) ∧ u.cell? ⟨g, 1, none⟩ = some (.int .i64 v.weight) ∧ u.cell? ⟨g, 2, none⟩ = some (.int .i64 v.fx) ∧ u.cell? ⟨g, 3, none⟩ = some (.int .i64 v.fy) ∧ u.cell? ⟨g, 4, none⟩ = some (.int .i64 v.tx) ∧ u.cell? ⟨g, 5, none⟩ = some (.int .i64 v.ty) ∧ u.cell? ⟨g, 6, none⟩ = some (.int .i64 v.height) ∧ u.cell? ⟨g, 7, none⟩ = some (.int .i64 v.deadline) ∧ u.cell? ⟨g, 8, none⟩ = some (.slice A n c) ∧ u.cell? ⟨g2, 0, none⟩ = some (.string v2.name) ∧ u.cell? ⟨g2, 1, none⟩ = some (.int .i64 v2.weight) ∧ u.cell? ⟨g2, 2, none⟩ = some (.int .i64 v2.fx) ∧ u.cell? ⟨g2, 3, none⟩ = some (.int .i64 v2.fy) ∧ u.cell? ⟨g2, 4, none⟩ = some (.int .i64 v2.tx) ∧ u.cell? ⟨g2, 5, none⟩ = some (.int .i64 v2.ty) ∧ u.cell? ⟨g2, 6, none⟩ = some (.int .i64 v2.height) ∧ u.cell? ⟨g2, 7, none⟩ = some (.int .i64 v2.deadline) ∧ u.cell? ⟨g2, 8, none⟩ = some (.slice A2 n2 c2)
theorem TwoLiftLift.mk_ {u : World} {g g2 : Nat} {v : LiftV} {v2 : LiftV} {A A2 : Option Addr} {n c n2 c2 : Nat} (h : BoxLift u g v A n c) (h2 : BoxLift u g2 v2 A2 n2 c2) : TwoLiftLift u g g2 v v2 A A2 n c n2 c2 := by
  obtain ⟨c0, c1, c2, c3, c4, c5, c6, c7, c8⟩ := h
  obtain ⟨d0, d1, d2, d3, d4, d5, d6, d7, d8⟩ := h2
  exact ⟨c0, c1, c2, c3, c4, c5, c6, c7, c8, d0, d1, d2, d3, d4, d5, d6, d7, d8⟩
theorem TwoLiftLift.fst {u : World} {g g2 : Nat} {v : LiftV} {v2 : LiftV} {A A2 : Option Addr} {n c n2 c2 : Nat} (h : TwoLiftLift u g g2 v v2 A A2 n c n2 c2) : BoxLift u g v A n c := by
  obtain ⟨c0, c1, c2, c3, c4, c5, c6, c7, c8, d0, d1, d2, d3, d4, d5, d6, d7, d8⟩ := h
  exact ⟨c0, c1, c2, c3, c4, c5, c6, c7, c8⟩
theorem TwoLiftLift.snd {u : World} {g g2 : Nat} {v : LiftV} {v2 : LiftV} {A A2 : Option Addr} {n c n2 c2 : Nat} (h : TwoLiftLift u g g2 v v2 A A2 n c n2 c2) : BoxLift u g2 v2 A2 n2 c2 := by
  obtain ⟨c0, c1, c2, c3, c4, c5, c6, c7, c8, d0, d1, d2, d3, d4, d5, d6, d7, d8⟩ := h
  exact ⟨d0, d1, d2, d3, d4, d5, d6, d7, d8⟩
theorem TwoLiftLift.keep {u u' : World} {B : Nat} {g g2 : Nat} {v : LiftV} {v2 : LiftV} {A A2 : Option Addr} {n c n2 c2 : Nat} (h : TwoLiftLift u g g2 v v2 A A2 n c n2 c2) (hb : Below B u u') (hB : g < B) (hB2 : g2 < B) : TwoLiftLift u' g g2 v v2 A A2 n c n2 c2 := TwoLiftLift.mk_ (h.fst.keep hb hB) (h.snd.keep hb hB2)
end Go.Proofs.YtencnldflnbdiaaDoor
