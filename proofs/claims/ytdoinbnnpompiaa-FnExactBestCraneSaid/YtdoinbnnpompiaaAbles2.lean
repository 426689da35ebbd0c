/- The load of a crane for a lift: loadFor, liftOk, can of the program; l09Load, l09Plain, l09Code, l09Can of the reference. -/
import Derived.Test.YtdoinbnnpompiaaAbles
namespace Go.Proofs.Ytdoinbnnpompiaa
open Go.RowKit Go.Sort
set_option linter.unusedVariables false

/-- a record of that type lies at that place -/
def CraneAt (w : World) (b off : Nat) (p : Crane) : Prop := w.cell? ⟨b, off, none⟩ = some (.string p.v.name) ∧ w.cell? ⟨b, off + 1, none⟩ = some (.int .i64 p.v.ax) ∧ w.cell? ⟨b, off + 2, none⟩ = some (.int .i64 p.v.ay) ∧ w.cell? ⟨b, off + 3, none⟩ = some (.int .i64 p.v.height) ∧ w.cell? ⟨b, off + 4, none⟩ = some (.int .i64 p.v.jib) ∧ w.cell? ⟨b, off + 5, none⟩ = some (.int .i64 p.v.back) ∧ w.cell? ⟨b, off + 6, none⟩ = some (.slice p.r.a p.r.n p.r.cap)
theorem CraneAt.below {w w' : World} {b off B : Nat} {p : Crane} (h : CraneAt w b off p) (hb : Below B w w') (hB : b < B) : CraneAt w' b off p := by
  obtain ⟨c0, c1, c2, c3, c4, c5, c6⟩ := h
  exact ⟨(hb.cell (p := ⟨b, off, none⟩) hB).trans c0, (hb.cell (p := ⟨b, off + 1, none⟩) hB).trans c1, (hb.cell (p := ⟨b, off + 2, none⟩) hB).trans c2, (hb.cell (p := ⟨b, off + 3, none⟩) hB).trans c3, (hb.cell (p := ⟨b, off + 4, none⟩) hB).trans c4, (hb.cell (p := ⟨b, off + 5, none⟩) hB).trans c5, (hb.cell (p := ⟨b, off + 6, none⟩) hB).trans c6⟩
theorem CraneAt.blk {w : World} {g : Nat} {t : TypeId} {p : Crane} (h : Blk w g t #[.string p.v.name, .int .i64 p.v.ax, .int .i64 p.v.ay, .int .i64 p.v.height, .int .i64 p.v.jib, .int .i64 p.v.back, .slice p.r.a p.r.n p.r.cap]) : CraneAt w g 0 p := ⟨h.cell 0, h.cell 1, h.cell 2, h.cell 3, h.cell 4, h.cell 5, h.cell 6⟩
/-- a record of that type lies at that place -/
def LiftAt (w : World) (b off : Nat) (l : Lift) : Prop := w.cell? ⟨b, off, none⟩ = some (.string l.v.name) ∧ w.cell? ⟨b, off + 1, none⟩ = some (.int .i64 l.v.weight) ∧ w.cell? ⟨b, off + 2, none⟩ = some (.int .i64 l.v.fx) ∧ w.cell? ⟨b, off + 3, none⟩ = some (.int .i64 l.v.fy) ∧ w.cell? ⟨b, off + 4, none⟩ = some (.int .i64 l.v.tx) ∧ w.cell? ⟨b, off + 5, none⟩ = some (.int .i64 l.v.ty) ∧ w.cell? ⟨b, off + 6, none⟩ = some (.int .i64 l.v.height) ∧ w.cell? ⟨b, off + 7, none⟩ = some (.int .i64 l.v.deadline) ∧ w.cell? ⟨b, off + 8, none⟩ = some (.slice l.r.a l.r.n l.r.cap)
theorem LiftAt.below {w w' : World} {b off B : Nat} {l : Lift} (h : LiftAt w b off l) (hb : Below B w w') (hB : b < B) : LiftAt w' b off l := by
  obtain ⟨c0, c1, c2, c3, c4, c5, c6, c7, c8⟩ := h
  exact ⟨(hb.cell (p := ⟨b, off, none⟩) hB).trans c0, (hb.cell (p := ⟨b, off + 1, none⟩) hB).trans c1, (hb.cell (p := ⟨b, off + 2, none⟩) hB).trans c2, (hb.cell (p := ⟨b, off + 3, none⟩) hB).trans c3, (hb.cell (p := ⟨b, off + 4, none⟩) hB).trans c4, (hb.cell (p := ⟨b, off + 5, none⟩) hB).trans c5, (hb.cell (p := ⟨b, off + 6, none⟩) hB).trans c6, (hb.cell (p := ⟨b, off + 7, none⟩) hB).trans c7, (hb.cell (p := ⟨b, off + 8, none⟩) hB).trans c8⟩
theorem LiftAt.blk {w : World} {g : Nat} {t : TypeId} {l : Lift} (h : Blk w g t #[.string l.v.name, .int .i64 l.v.weight, .int .i64 l.v.fx, .int .i64 l.v.fy, .int .i64 l.v.tx, .int .i64 l.v.ty, .int .i64 l.v.height, .int .i64 l.v.deadline, .slice l.r.a l.r.n l.r.cap]) : LiftAt w g 0 l := ⟨h.cell 0, h.cell 1, h.cell 2, h.cell 3, h.cell 4, h.cell 5, h.cell 6, h.cell 7, h.cell 8⟩

/-- the load of a crane for a lift, -1 for none -/
def ldF (c : CV) (v : LiftV) : Int := if ldP c v.fx v.fy < ldP c v.tx v.ty then ldP c v.fx v.fy else ldP c v.tx v.ty
theorem ldF_range {c : CV} (h : craneOk c = true) (v : LiftV) : -1 ≤ ldF c v ∧ ldF c v ≤ 50000 := by
  have h1 := ldP_range h v.fx v.fy; have h2 := ldP_range h v.tx v.ty
  unfold ldF; split <;> omega
theorem ret2_int {x y : Int} {v : Value} (h : x = y) : Ending.returned (.tuple #[.int .i64 x, v]) = .returned (.tuple #[.int .i64 y, v]) := by rw [h]
theorem PlainV.fp {v : LiftV} (h : PlainV v) : Plc v.fx v.fy := ⟨h.fx, h.fy⟩
theorem PlainV.tp {v : LiftV} (h : PlainV v) : Plc v.tx v.ty := ⟨h.tx, h.ty⟩

set_option maxRecDepth 100000 in
set_option maxHeartbeats 1600000 in
theorem loadFor_any (p : Crane) (l : Lift) (w : World) (lo : Nat) (hr : Arr ChartStep.cs 2 w lo w.heap.size p.r.a p.r.n p.r.xs) (hn : p.r.n ≤ 9223372036854775807) (hok : craneOk p.val = true) (hpl : plainB l.v = true) :
    Calls Try.prog 95 #[.agg #[.string p.v.name, .int .i64 p.v.ax, .int .i64 p.v.ay, .int .i64 p.v.height, .int .i64 p.v.jib, .int .i64 p.v.back, .slice p.r.a p.r.n p.r.cap], .agg #[.string l.v.name, .int .i64 l.v.weight, .int .i64 l.v.fx, .int .i64 l.v.fy, .int .i64 l.v.tx, .int .i64 l.v.ty, .int .i64 l.v.height, .int .i64 l.v.deadline, .slice l.r.a l.r.n l.r.cap]] w fun e w' => e = .returned (ldRet (ldF p.val l.v)) ∧ Below w.heap.size w w' := by
  have hP := plainB_parts hpl
  have r1 := ldP_range hok l.v.fx l.v.fy
  have r2 := ldP_range hok l.v.tx l.v.ty
  obtain ⟨W, hW⟩ : ∃ W : World, W = (w.alloc (.cells #[.string p.v.name, .int .i64 p.v.ax, .int .i64 p.v.ay, .int .i64 p.v.height, .int .i64 p.v.jib, .int .i64 p.v.back, .slice p.r.a p.r.n p.r.cap] 128)).alloc (.cells #[.string l.v.name, .int .i64 l.v.weight, .int .i64 l.v.fx, .int .i64 l.v.fy, .int .i64 l.v.tx, .int .i64 l.v.ty, .int .i64 l.v.height, .int .i64 l.v.deadline, .slice l.r.a l.r.n l.r.cap] 40) := ⟨_, rfl⟩
  have B0 : Below w.heap.size w W := by rw [hW]; exact ((Below.refl _ _).alloc (Nat.le_refl _) _).alloc (by simp) _
  have P0 : Blk W w.heap.size 128 #[.string p.v.name, .int .i64 p.v.ax, .int .i64 p.v.ay, .int .i64 p.v.height, .int .i64 p.v.jib, .int .i64 p.v.back, .slice p.r.a p.r.n p.r.cap] := by rw [hW]; exact (Blk.new _ _ _).alloc _
  have Q0 : Blk W (w.heap.size + 1) 40 #[.string l.v.name, .int .i64 l.v.weight, .int .i64 l.v.fx, .int .i64 l.v.fy, .int .i64 l.v.tx, .int .i64 l.v.ty, .int .i64 l.v.height, .int .i64 l.v.deadline, .slice l.r.a l.r.n l.r.cap] := by rw [hW]; exact Blk.new_at rfl (by simp)
  have HF : Hid (ldF p.val l.v = if ldP p.val l.v.fx l.v.fy < ldP p.val l.v.tx l.v.ty then ldP p.val l.v.fx l.v.fy else ldP p.val l.v.tx l.v.ty) := rfl
  have HA := Lib.hid (show ∀ W', Below w.heap.size w W' → Calls Try.prog 170 #[.agg #[.string p.v.name, .int .i64 p.v.ax, .int .i64 p.v.ay, .int .i64 p.v.height, .int .i64 p.v.jib, .int .i64 p.v.back, .slice p.r.a p.r.n p.r.cap], .agg #[.int .i64 l.v.fx, .int .i64 l.v.fy]] W' fun e w' => e = .returned (ldRet (ldP p.val l.v.fx l.v.fy)) ∧ Below W'.heap.size W' w' from fun W' hb => loadAtPlace_any p _ _ W' lo ((hr.below hb).more hb.size) hn hok hP.fp)
  have HB := Lib.hid (show ∀ W', Below w.heap.size w W' → Calls Try.prog 170 #[.agg #[.string p.v.name, .int .i64 p.v.ax, .int .i64 p.v.ay, .int .i64 p.v.height, .int .i64 p.v.jib, .int .i64 p.v.back, .slice p.r.a p.r.n p.r.cap], .agg #[.int .i64 l.v.tx, .int .i64 l.v.ty]] W' fun e w' => e = .returned (ldRet (ldP p.val l.v.tx l.v.ty)) ∧ Below W'.heap.size W' w' from fun W' hb => loadAtPlace_any p _ _ W' lo ((hr.below hb).more hb.size) hn hok hP.tp)
  generalize ldP p.val l.v.fx l.v.fy = a at *
  generalize ldP p.val l.v.tx l.v.ty = b at *
  clear hok hpl hP hr
  by_cases ha : a < 0
  · by_cases hb : b < 0
    · have H : Hid (ldF p.val l.v < 0) := by show _ < _; rw [HF.out]; split <;> omega
      have ea : a = -1 := by omega
      have KA := Lib.hid (show ldRet a = _ from ldRet_no (v := a) (by omega))
      have KB := Lib.hid (show ldRet b = _ from ldRet_no (v := b) (by omega))
      clear ea
      go_enter Try.func95, Try.ntmps95
      go_wp2_with fail
      rw [← hW]
      clear hW
      obtain ⟨c0, c1, c2, c3, c4, c5, c6⟩ := Crane.blk P0
      obtain ⟨d0, d1, d2, d3, d4, d5, d6, d7, d8⟩ := Lift.blk Q0
      go_wp2_with fail
      refine (HA.out _ B0).mono ?_
      rintro e w1 ⟨rfl, hb1⟩
      rw [KA.out]
      have B1 := B0.trans (hb1.mono B0.size)
      have P1 := P0.bel hb1
      have Q1 := Q0.bel hb1
      clear c0 c1 c2 c3 c4 c5 c6 d0 d1 d2 d3 d4 d5 d6 d7 d8 P0 Q0 hb1
      obtain ⟨c0, c1, c2, c3, c4, c5, c6⟩ := Crane.blk P1
      obtain ⟨d0, d1, d2, d3, d4, d5, d6, d7, d8⟩ := Lift.blk Q1
      go_wp2_with fail
      refine (HB.out _ B1).mono ?_
      rintro e w2 ⟨rfl, hb2⟩
      rw [KB.out]
      have B2 := B1.trans (hb2.mono B1.size)
      clear c0 c1 c2 c3 c4 c5 c6 d0 d1 d2 d3 d4 d5 d6 d7 d8 P1 Q1 hb2 HA HB
      go_wp2
      all_goals go_ret2
      all_goals (first | exact ⟨by rw [ldRet_no H.out]; rfl, B2⟩ | exact ⟨by rw [ldRet_no H.out]; exact ret2_int (by omega), B2⟩)
    · have H : Hid (ldF p.val l.v < 0) := by show _ < _; rw [HF.out]; split <;> omega
      have KA := Lib.hid (show ldRet a = _ from ldRet_no (v := a) (by omega))
      have KB := Lib.hid (show ldRet b = _ from ldRet_yes (v := b) (by omega))
      go_enter Try.func95, Try.ntmps95
      go_wp2_with fail
      rw [← hW]
      clear hW
      obtain ⟨c0, c1, c2, c3, c4, c5, c6⟩ := Crane.blk P0
      obtain ⟨d0, d1, d2, d3, d4, d5, d6, d7, d8⟩ := Lift.blk Q0
      go_wp2_with fail
      refine (HA.out _ B0).mono ?_
      rintro e w1 ⟨rfl, hb1⟩
      rw [KA.out]
      have B1 := B0.trans (hb1.mono B0.size)
      have P1 := P0.bel hb1
      have Q1 := Q0.bel hb1
      clear c0 c1 c2 c3 c4 c5 c6 d0 d1 d2 d3 d4 d5 d6 d7 d8 P0 Q0 hb1
      obtain ⟨c0, c1, c2, c3, c4, c5, c6⟩ := Crane.blk P1
      obtain ⟨d0, d1, d2, d3, d4, d5, d6, d7, d8⟩ := Lift.blk Q1
      go_wp2_with fail
      refine (HB.out _ B1).mono ?_
      rintro e w2 ⟨rfl, hb2⟩
      rw [KB.out]
      have B2 := B1.trans (hb2.mono B1.size)
      clear c0 c1 c2 c3 c4 c5 c6 d0 d1 d2 d3 d4 d5 d6 d7 d8 P1 Q1 hb2 HA HB
      go_wp2
      all_goals go_ret2
      all_goals (first | exact ⟨by rw [ldRet_no H.out]; rfl, B2⟩ | exact ⟨by rw [ldRet_no H.out]; exact ret2_int (by omega), B2⟩)
  · by_cases hb : b < 0
    · have H : Hid (ldF p.val l.v < 0) := by show _ < _; rw [HF.out]; split <;> omega
      have KA := Lib.hid (show ldRet a = _ from ldRet_yes (v := a) (by omega))
      have KB := Lib.hid (show ldRet b = _ from ldRet_no (v := b) (by omega))
      go_enter Try.func95, Try.ntmps95
      go_wp2_with fail
      rw [← hW]
      clear hW
      obtain ⟨c0, c1, c2, c3, c4, c5, c6⟩ := Crane.blk P0
      obtain ⟨d0, d1, d2, d3, d4, d5, d6, d7, d8⟩ := Lift.blk Q0
      go_wp2_with fail
      refine (HA.out _ B0).mono ?_
      rintro e w1 ⟨rfl, hb1⟩
      rw [KA.out]
      have B1 := B0.trans (hb1.mono B0.size)
      have P1 := P0.bel hb1
      have Q1 := Q0.bel hb1
      clear c0 c1 c2 c3 c4 c5 c6 d0 d1 d2 d3 d4 d5 d6 d7 d8 P0 Q0 hb1
      obtain ⟨c0, c1, c2, c3, c4, c5, c6⟩ := Crane.blk P1
      obtain ⟨d0, d1, d2, d3, d4, d5, d6, d7, d8⟩ := Lift.blk Q1
      go_wp2_with fail
      refine (HB.out _ B1).mono ?_
      rintro e w2 ⟨rfl, hb2⟩
      rw [KB.out]
      have B2 := B1.trans (hb2.mono B1.size)
      clear c0 c1 c2 c3 c4 c5 c6 d0 d1 d2 d3 d4 d5 d6 d7 d8 P1 Q1 hb2 HA HB
      go_wp2
      all_goals go_ret2
      all_goals (first | exact ⟨by rw [ldRet_no H.out]; rfl, B2⟩ | exact ⟨by rw [ldRet_no H.out]; exact ret2_int (by omega), B2⟩)
    · have H : Hid (0 ≤ ldF p.val l.v ∧ ldF p.val l.v = min a b) := by show _ ∧ _; rw [HF.out]; exact ⟨by split <;> omega, by rw [Int.min_def]; split <;> split <;> omega⟩
      have KA := Lib.hid (show ldRet a = _ from ldRet_yes (v := a) (by omega))
      have KB := Lib.hid (show ldRet b = _ from ldRet_yes (v := b) (by omega))
      go_enter Try.func95, Try.ntmps95
      go_wp2_with fail
      rw [← hW]
      clear hW
      obtain ⟨c0, c1, c2, c3, c4, c5, c6⟩ := Crane.blk P0
      obtain ⟨d0, d1, d2, d3, d4, d5, d6, d7, d8⟩ := Lift.blk Q0
      go_wp2_with fail
      refine (HA.out _ B0).mono ?_
      rintro e w1 ⟨rfl, hb1⟩
      rw [KA.out]
      have B1 := B0.trans (hb1.mono B0.size)
      have P1 := P0.bel hb1
      have Q1 := Q0.bel hb1
      clear c0 c1 c2 c3 c4 c5 c6 d0 d1 d2 d3 d4 d5 d6 d7 d8 P0 Q0 hb1
      obtain ⟨c0, c1, c2, c3, c4, c5, c6⟩ := Crane.blk P1
      obtain ⟨d0, d1, d2, d3, d4, d5, d6, d7, d8⟩ := Lift.blk Q1
      go_wp2_with fail
      refine (HB.out _ B1).mono ?_
      rintro e w2 ⟨rfl, hb2⟩
      rw [KB.out]
      have B2 := B1.trans (hb2.mono B1.size)
      clear c0 c1 c2 c3 c4 c5 c6 d0 d1 d2 d3 d4 d5 d6 d7 d8 P1 Q1 hb2 HA HB
      go_wp2
      all_goals go_ret2
      all_goals (first | exact ⟨by rw [ldRet_yes H.out.1, H.out.2]; rfl, B2⟩ | exact ⟨by rw [ldRet_yes H.out.1, H.out.2]; exact ret2_int (by omega), B2⟩)
end Go.Proofs.Ytdoinbnnpompiaa
