/- Copies of lifts, of the reference: l00Own and l08Copy. -/
import Derived.Test.YtkegncanmfmmmaaDoorRLift
import Derived.Test.YtkegncanmfmmmaaDoorGrow2
import Derived.Test.YtkegncanmfmmmaaDoorFind
import Derived.Laws.AppendOwnNone
namespace Go.Proofs.YtkegncanmfmmmaaDoor
open Go.RowKit
set_option linter.unusedVariables false

def CloneG (xs : List Int) (w : World) (e : Ending) (w' : World) : Prop :=
  ∃ v, e = .returned v ∧ Grow ic 1 w' w.heap.size 2 v xs ∧ Below w.heap.size w w'
theorem Own.kept {α β : Type} {c : α → List Value} {d : β → List Value} {k j : Nat} {w w' : World} {lo hi base : Nat} {t e : TypeId} {A : Option Addr} {n : Nat} {xs : List α} {v : Value} {ys : List β} (h : Own c k w lo hi t A n xs) (ht : t ≠ e) (hg : Grow d j w base e v ys) (hgr : w.grownBy w' v.ownBlock) : Own c k w' lo hi t A n xs :=
  ⟨h.1, fun hn => by
    obtain ⟨g, cs, e1, h1, h0, h2, h3, h4⟩ := h.2 hn
    refine ⟨g, cs, e1, h1, h0, (hgr.block g (heap_lt h2) ?_).trans h2, h3, h4⟩
    rcases hg.2 with ⟨rfl, _⟩ | ⟨g', cap, cur, rfl, _, hgb, _⟩
    · simp [Value.ownBlock]
    · intro e'
      obtain rfl : g = g' := by simpa [Value.ownBlock] using e'
      have := h2.symm.trans hgb
      simp at this
      exact ht this.2⟩
def CopiedLifts (ps : List Lift) (w : World) (v : Value) (w' : World) : Prop :=
  ∃ ps', Grow Lift.cs 9 w' w.heap.size 41 v ps' ∧ ps'.map Lift.val = ps.map Lift.val ∧ (∀ q ∈ ps', Own ic 1 w' w.heap.size w'.heap.size 2 q.r.a q.r.n q.r.xs) ∧ Below w.heap.size w w'
end Go.Proofs.YtkegncanmfmmmaaDoor
