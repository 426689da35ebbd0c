/- The load of a crane at a place and for a lift: loadAtPlace, radiusTo, loadFor, liftOk, can of the program; l04Load, l09Load, l09Plain, l09Code, l09Can of the reference. -/
import Derived.Test.YtencnldflnbdiaaCranes
import Derived.Test.YtencnldflnbdiaaRoots
namespace Go.Proofs.Ytencnldflnbdiaa
open Go.RowKit Go.Sort
set_option linter.unusedVariables false

theorem rt_place {ax ay bx by_ : Int} (h1 : Plc ax ay) (h2 : Plc bx by_) : 0 ≤ rt (sqD ax ay bx by_) ∧ rt (sqD ax ay bx by_) ≤ 28285 := by
  have := sqD_bd h1 h2
  exact ⟨rt_low _, rt_high (by omega) (by omega)⟩
theorem plc_of {x y : Int} (h : plcB x y = true) : Plc x y := plcB_iff h

/-- the load of a crane at a place, -1 for none -/
def ldP (c : CV) (x y : Int) : Int := ldI c.2 (rt (sqD c.1.ax c.1.ay x y))
theorem ldP_range {c : CV} (h : craneOk c = true) (x y : Int) : -1 ≤ ldP c x y ∧ ldP c x y ≤ 50000 := ldI_range (craneOk_parts h).chart _

theorem ldRet_shape (v : Int) : ∃ (a : Int) (b : Bool), ldRet v = .tuple #[.int .i64 a, .bool b] := ⟨_, _, rfl⟩

end Go.Proofs.Ytencnldflnbdiaa
