/- AddLift of the reference: it hands back alXs and alCode (to be read). -/
import Derived.Test.YtkegncanmfmmmaaDoorLiftCopy
import Derived.Test.YtkegncanmfmmmaaDoorLifts3
import Derived.Test.YtkegncanmfmmmaaDoorSteps
namespace Go.Proofs.YtkegncanmfmmmaaDoor
open Go.RowKit
set_option linter.unusedVariables false

def alCode (vs : List LV) (v : LV) : Int := if liftsOk vs then (if 0 ≤ fIdx (nameIs v.1.name) vs then 4 else if 10 ≤ vs.length then 5 else if liftsOk (vs ++ [v]) then 0 else 6) else 1
def alXs (vs : List LV) (v : LV) : List LV := if alCode vs v = 0 then vs ++ [v] else []
def RetLR (xs : List LV) (code : Int) (w : World) (e : Ending) (w' : World) : Prop :=
  ∃ A c ps', e = .returned (.tuple #[.slice A xs.length c, .int .i64 code]) ∧ ps'.map Lift.val = xs ∧ Lifts w' w.heap.size w'.heap.size A xs.length ps' ∧ Below w.heap.size w w'
theorem RetLR.nil {code : Int} {w w' : World} (hb : Below w.heap.size w w') : RetLR [] code w (.returned (.tuple #[.slice none 0 0, .int .i64 code])) w' :=
  ⟨none, 0, [], rfl, rfl, ⟨⟨rfl, fun h => absurd h (by simp)⟩, fun p hp => (by cases hp)⟩, hb⟩
theorem al_1 {vs : List LV} {v : LV} (h : liftsOk vs = false) : alXs vs v = [] ∧ alCode vs v = 1 := by
  have e : alCode vs v = 1 := by unfold alCode; rw [h]; rfl
  exact ⟨by unfold alXs; rw [e, if_neg (by decide)], e⟩
theorem al_4 {vs : List LV} {v : LV} (h : liftsOk vs = true) (h2 : 0 ≤ fIdx (nameIs v.1.name) vs) : alXs vs v = [] ∧ alCode vs v = 4 := by
  have e : alCode vs v = 4 := by unfold alCode; rw [h, if_pos rfl, if_pos h2]
  exact ⟨by unfold alXs; rw [e, if_neg (by decide)], e⟩
theorem al_5 {vs : List LV} {v : LV} (h : liftsOk vs = true) (h2 : ¬ 0 ≤ fIdx (nameIs v.1.name) vs) (h3 : 10 ≤ vs.length) : alXs vs v = [] ∧ alCode vs v = 5 := by
  have e : alCode vs v = 5 := by unfold alCode; rw [h, if_pos rfl, if_neg h2, if_pos h3]
  exact ⟨by unfold alXs; rw [e, if_neg (by decide)], e⟩
theorem al_6 {vs : List LV} {v : LV} (h : liftsOk vs = true) (h2 : ¬ 0 ≤ fIdx (nameIs v.1.name) vs) (h3 : ¬ 10 ≤ vs.length) (h4 : liftsOk (vs ++ [v]) = false) : alXs vs v = [] ∧ alCode vs v = 6 := by
  have e : alCode vs v = 6 := by unfold alCode; rw [h, if_pos rfl, if_neg h2, if_neg h3, h4]; rfl
  exact ⟨by unfold alXs; rw [e, if_neg (by decide)], e⟩
theorem al_0 {vs : List LV} {v : LV} (h : liftsOk vs = true) (h2 : ¬ 0 ≤ fIdx (nameIs v.1.name) vs) (h3 : ¬ 10 ≤ vs.length) (h4 : liftsOk (vs ++ [v]) = true) : alXs vs v = vs ++ [v] ∧ alCode vs v = 0 := by
  have e : alCode vs v = 0 := by unfold alCode; rw [h, if_pos rfl, if_neg h2, if_neg h3, h4]; rfl
  exact ⟨by unfold alXs; rw [e, if_pos rfl], e⟩

theorem Grow.setOther {α : Type} {c : α → List Value} {k : Nat} {w : World} {lo : Nat} {e : TypeId} {v : Value} {xs : List α} (h : Grow c k w lo e v xs) {p : Addr} (hp : p.block < lo) (u : Value) : Grow c k (w.setCell p u) lo e v xs := by
  refine ⟨h.1, ?_⟩
  rcases h.2 with ⟨h1, h2⟩ | ⟨g, cap, cur, h1, h2, h3, h4⟩
  · exact .inl ⟨h1, h2⟩
  · exact .inr ⟨g, cap, cur, h1, h2, (Below.heap_setCell _ _ _ _ (by omega)).trans h3, h4⟩

end Go.Proofs.YtkegncanmfmmmaaDoor
