/- ValidLifts of the program, l08Ok of the reference: both say liftsOk. -/
import Derived.Test.YtencnldflnbdiaaLiftLaw
import Derived.Test.YtencnldflnbdiaaQuiet
import Derived.Test.YtencnldflnbdiaaValidPersons
import Derived.Lib.QuietBelow
import Derived.BigQuiet
namespace Go.Proofs.Ytencnldflnbdiaa
open Go.RowKit Go.Sort
set_option linter.unusedVariables false

theorem same_bel {P : Program} {f : FuncId} {args : Array Value} {w : World} {v : Value} (h : Calls P f args w fun e w' => e = .returned v ∧ w = w') : Calls P f args w fun e w' => e = .returned v ∧ Below w.heap.size w w' :=
  h.mono fun _ _ ⟨he, hw⟩ => ⟨he, hw ▸ Below.refl _ _⟩

theorem validPlace_any (x y : Int) (w : World) :
    Calls Try.prog 54 #[.agg #[.int .i64 x, .int .i64 y]] w fun e w' => e = .returned (.bool (plcB x y)) ∧ Below w.heap.size w w' := by
  cases h1 : inB x (-10000) 10000 <;> cases h2 : inB y (-10000) 10000
  all_goals
    have H : Hid (plcB x y = (inB x (-10000) 10000 && inB y (-10000) 10000)) := rfl
    rw [h1, h2] at H
    go_enter Try.func54, Try.ntmps54
    go_wp2_with (go_at_call 61; refine (within_any _ _ _ _).mono ?_; rintro e w1 ⟨rfl, rfl⟩)
    go_ret
    exact ⟨by rw [H.out]; rfl, (Below.refl _ _).alloc (Nat.le_refl _) _⟩
theorem l02Ok_any (x y : Int) (w : World) :
    Calls Try.prog 50 #[.agg #[.int .i64 x, .int .i64 y]] w fun e w' => e = .returned (.bool (plcB x y)) ∧ Below w.heap.size w w' := by
  cases h1 : inB x (-10000) 10000 <;> cases h2 : inB y (-10000) 10000
  all_goals
    have H : Hid (plcB x y = (inB x (-10000) 10000 && inB y (-10000) 10000)) := rfl
    rw [h1, h2] at H
    go_enter Try.func50, Try.ntmps50
    go_wp2_with (go_at_call 64; refine (l00In_any _ _ _ _).mono ?_; rintro e w1 ⟨rfl, rfl⟩)
    go_ret
    exact ⟨by rw [H.out]; rfl, (Below.refl _ _).alloc (Nat.le_refl _) _⟩

theorem in_eq (n a b : Int) (w : World) {v : Bool} (h : inB n a b = v) : Calls Try.prog 64 #[.int .i64 n, .int .i64 a, .int .i64 b] w fun e w' => e = .returned (.bool v) ∧ w = w' := by subst h; exact l00In_any n a b w
def oneB (v : LiftV) (xs : List Int) (m : Int) : Bool := plainB v && risesB xs m
end Go.Proofs.Ytencnldflnbdiaa
