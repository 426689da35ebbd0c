/- ReadyLifts, of the program and of the reference: both hand back rdXs and rdCode. -/
import Derived.Test.YtnidnmbicnhflaaReady
namespace Go.Proofs.Ytnidnmbicnhflaa
open Go.RowKit
set_option linter.unusedVariables false

theorem pow_bd {n : Nat} (h : n ≤ 61) : (1 : Int) ≤ 2 ^ n ∧ (2 : Int) ^ n ≤ 2305843009213693952 := by
  have h1 : (2 : Nat) ^ n ≤ 2 ^ 61 := Nat.pow_le_pow_right (by omega) h
  have h2 : 1 ≤ (2 : Nat) ^ n := Nat.one_le_two_pow
  have e : (2 : Int) ^ n = ((2 ^ n : Nat) : Int) := by push_cast; rfl
  rw [e]; constructor <;> omega
def rdXs (vs : List LV) (m : Int) : List Int := if liftsOk vs then (if inB m 0 (2 ^ vs.length - 1) then rdTo vs m vs.length else []) else []
def rdCode (vs : List LV) (m : Int) : Int := if liftsOk vs then (if inB m 0 (2 ^ vs.length - 1) then 0 else 2) else 1
theorem rdXs_len (vs : List LV) (m : Int) : (rdXs vs m).length ≤ vs.length := by
  unfold rdXs; split
  · split
    · exact rdTo_len _ _ _
    · simp
  · simp
theorem RetL.rets {α : Type} {c : α → List Value} {k : Nat} {e : TypeId} {xs : List α} {code : Int} {w w1 w' : World} {A : Option Addr} {cap : Nat} (ho : Own c k w' w1.heap.size w'.heap.size e A xs.length xs) (hb1 : Below w.heap.size w w1) (hb : Below w1.heap.size w1 w') : RetS c k e xs code w (.returned (.tuple #[.slice A xs.length cap, .int .i64 code])) w' :=
  ⟨A, cap, rfl, ho.wide hb1.size (Nat.le_refl _), bel2 hb1 hb⟩

end Go.Proofs.Ytnidnmbicnhflaa
