/- The direction of a place from a crane: directionTo of the program, l09Dir of the reference. -/
import Derived.Test.YtencnldflnbdiaaDoorDir2
import Derived.Test.YtencnldflnbdiaaDoorRCrane
namespace Go.Proofs.YtencnldflnbdiaaDoor
open Go.RowKit
set_option linter.unusedVariables false

theorem directionOf_lit (fx fy tx ty : Int) (h1 : Plc fx fy) (h2 : Plc tx ty) : ∃ b : Int, ∀ w, QtrW w →
    Calls Tryd.prog 144 #[.agg #[.int .i64 fx, .int .i64 fy], .agg #[.int .i64 tx, .int .i64 ty]] w fun e w' => e = .returned (.tuple #[.int .i64 (dirN (tx - fx) (ty - fy)), .int .i64 b]) ∧ Below w.heap.size w w' :=
  ⟨_, fun w hq => directionOf_any fx fy tx ty h1 h2 w hq⟩

set_option maxRecDepth 100000 in
theorem directionTo_any (p : Crane) (x y : Int) (w : World) (h1 : Plc p.v.ax p.v.ay) (h2 : Plc x y) (hq : QtrW w) :
    Calls Tryd.prog 82 #[.agg #[.string p.v.name, .int .i64 p.v.ax, .int .i64 p.v.ay, .int .i64 p.v.height, .int .i64 p.v.jib, .int .i64 p.v.back, .slice p.r.a p.r.n p.r.cap], .agg #[.int .i64 x, .int .i64 y]] w fun e w' => e = .returned (.int .i64 (dirN (x - p.v.ax) (y - p.v.ay))) ∧ Below w.heap.size w w' := by
  obtain ⟨b, hb⟩ := directionOf_lit _ _ _ _ h1 h2
  have HC := Lib.hid hb
  have HQ := Lib.hid hq
  clear hb hq
  go_enter Tryd.func82, Tryd.ntmps82
  go_wp2_with fail
  refine (HC.out _ (HQ.out.bel (((Below.refl _ _).alloc (Nat.le_refl _) _).alloc (by simp) _))).mono ?_
  rintro e w1 ⟨rfl, hb1⟩
  go_wp2
  go_ret
  exact ⟨rfl, (((Below.refl _ _).alloc (Nat.le_refl _) _).alloc (by simp) _).trans (hb1.mono (by simp; omega))⟩

set_option maxRecDepth 100000 in
theorem l09Dir_any (fx fy tx ty : Int) (h1 : Plc fx fy) (h2 : Plc tx ty) (w : World) :
    Calls Tryd.prog 94 #[.agg #[.int .i64 fx, .int .i64 fy], .agg #[.int .i64 tx, .int .i64 ty]] w fun e w' => e = .returned (.int .i64 (dirN (tx - fx) (ty - fy))) ∧ Below w.heap.size w w' := by
  by_cases hEq : fx = tx ∧ fy = ty
  · obtain ⟨rfl, rfl⟩ := hEq
    have HE : Hid (dirN (fx - fx) (fy - fy) = 0) := by show _ = _; rw [Int.sub_self, Int.sub_self, dirN_zero]
    go_enter Tryd.func94, Tryd.ntmps94
    go_wp2
    go_ret
    exact ⟨by rw [HE.out]; rfl, ((Below.refl _ _).alloc (Nat.le_refl _) _).alloc (by simp) _⟩
  · have hne : (fx = tx → ¬ fy = ty) := fun h1 h2 => hEq ⟨h1, h2⟩
    have HC := Lib.hid (fun W => l02To_any fx fy tx ty h1 h2 W)
    clear hEq
    generalize dirN (tx - fx) (ty - fy) = r at *
    by_cases hf : fx = tx
    · have hg := hne hf
      clear hne
      subst hf
      go_enter Tryd.func94, Tryd.ntmps94
      go_wp2_with fail
      refine (HC.out _).mono ?_
      rintro e w1 ⟨rfl, hb1⟩
      go_wp2
      go_ret
      exact ⟨rfl, (((Below.refl _ _).alloc (Nat.le_refl _) _).alloc (by simp) _).trans (hb1.mono (by simp; omega))⟩
    · clear hne
      go_enter Tryd.func94, Tryd.ntmps94
      go_wp2_with fail
      refine (HC.out _).mono ?_
      rintro e w1 ⟨rfl, hb1⟩
      go_wp2
      go_ret
      exact ⟨rfl, (((Below.refl _ _).alloc (Nat.le_refl _) _).alloc (by simp) _).trans (hb1.mono (by simp; omega))⟩
theorem l09Dir_eq (fx fy tx ty : Int) (h1 : Plc fx fy) (h2 : Plc tx ty) (w : World) {v : Int} (hv : dirN (tx - fx) (ty - fy) = v) :
    Calls Tryd.prog 94 #[.agg #[.int .i64 fx, .int .i64 fy], .agg #[.int .i64 tx, .int .i64 ty]] w fun e w' => e = .returned (.int .i64 v) ∧ Below w.heap.size w w' := hv ▸ l09Dir_any fx fy tx ty h1 h2 w
end Go.Proofs.YtencnldflnbdiaaDoor
