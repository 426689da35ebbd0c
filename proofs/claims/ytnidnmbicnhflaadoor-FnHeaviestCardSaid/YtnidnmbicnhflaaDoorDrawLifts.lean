/- The reference's drawn lifts: at most six valid ones, with names of their own. -/
import Derived.Test.YtnidnmbicnhflaaDoorDrawOne
import Derived.Test.YtnidnmbicnhflaaDoorSegs
namespace Go.Proofs.YtnidnmbicnhflaaDoor
open Go.RowKit
set_option linter.unusedVariables false

def nmCells : Array Value := #[.string ⟨#[97]⟩, .string ⟨#[98]⟩, .string ⟨#[99]⟩, .string ⟨#[100]⟩, .string ⟨#[101]⟩, .string ⟨#[102]⟩, .string ⟨#[103]⟩, .string ⟨#[104]⟩, .string ⟨#[105]⟩, .string ⟨#[106]⟩, .string ⟨#[107]⟩]
theorem nm_at {w : World} {q : Nat} (h : Blk w q 9 nmCells) : ∀ i, i < 11 → ∃ s, ns[i]? = some s ∧ w.cell? ⟨q, i, none⟩ = some (.string s) := by
  intro i hi
  rw [h.cell]
  match i, hi with
  | 0, _ => exact ⟨_, rfl, rfl⟩
  | 1, _ => exact ⟨_, rfl, rfl⟩
  | 2, _ => exact ⟨_, rfl, rfl⟩
  | 3, _ => exact ⟨_, rfl, rfl⟩
  | 4, _ => exact ⟨_, rfl, rfl⟩
  | 5, _ => exact ⟨_, rfl, rfl⟩
  | 6, _ => exact ⟨_, rfl, rfl⟩
  | 7, _ => exact ⟨_, rfl, rfl⟩
  | 8, _ => exact ⟨_, rfl, rfl⟩
  | 9, _ => exact ⟨_, rfl, rfl⟩
  | 10, _ => exact ⟨_, rfl, rfl⟩
theorem Blk.kept {β : Type} {d : β → List Value} {j : Nat} {w w' : World} {base : Nat} {t e : TypeId} {g : Nat} {cs : Array Value} {v : Value} {ys : List β} (h : Blk w g t cs) (ht : t ≠ e) (hg : Grow d j w base e v ys) (hgr : w.grownBy w' v.ownBlock) : Blk w' g t cs := by
  refine (hgr.block g (heap_lt h) ?_).trans h
  rcases hg.2 with ⟨rfl, _⟩ | ⟨g', cap, cur, rfl, _, hgb, _⟩
  · simp [Value.ownBlock]
  · intro e'
    obtain rfl : g = g' := by simpa [Value.ownBlock] using e'
    have := Eq.symm h |>.trans hgb
    simp at this
    exact ht this.2
theorem Grow.within {α : Type} {c : α → List Value} {k : Nat} {a w w' : World} {l r lo : Nat} {e : TypeId} {v : Value} {xs : List α} (h : Grow c k w lo e v xs) (hb : Within l r a w) (hg : w.grownBy w' v.ownBlock) (hB : a.heap.size ≤ lo) : Within l r a w' :=
  ⟨hg.os.trans hb.os, hg.tape.trans hb.tape, hg.output.trans hb.output, Nat.le_trans hb.size hg.size, fun q hq ho => (hg.block q (by have := hb.size; omega) (fun e9 => by have := h.lt q e9.symm; omega)).trans (hb.block q hq ho)⟩
theorem Grow.slice {α : Type} {c : α → List Value} {k : Nat} {w : World} {lo : Nat} {e : TypeId} {v : Value} {xs : List α} (h : Grow c k w lo e v xs) : ∃ A cap, v = .slice A xs.length cap ∧ xs.length ≤ cap ∧ cap ≤ 9223372036854775807 := by
  rcases h.2 with ⟨rfl, h0⟩ | ⟨g, cap, cs, rfl, h1, h2, h3, h4, h5, h6⟩
  · exact ⟨none, 0, by rw [h0], by omega, by omega⟩
  · exact ⟨_, cap, rfl, h3, by unfold maxLen at h4; omega⟩
/-- a lift that has been drawn, its row in memory from W0 on -/
structure DrawnIn (w : World) (W0 : Nat) (q : Lift) : Prop where
  row : Own ic 1 w W0 w.heap.size 2 q.r.a q.r.n q.r.xs
  head : Headed q.r
  len : q.r.n ≤ 6
  wf : q.wf
theorem Drawn.wf {w w' : World} {i : Nat} {name : ByteArray} {p : Lift} (h : Drawn w w' i name p) (hn : name.size ≤ 1) (hi : i ≤ 6) : p.wf := by
  obtain ⟨h1, h2, h3, h4, h5, h6, h7⟩ := h
  exact ⟨⟨by rw [h1]; omega, by omega, by omega, by omega, by omega, by omega, by omega, by omega⟩, by omega, trivial⟩
theorem Drawn.good {w w' : World} {i : Nat} {name : ByteArray} {p : Lift} (h : Drawn w w' i name p) (hn : ns[i]? = some name) : GoodV i p.val := by
  obtain ⟨h1, h2, h3, h4, h5, h6, h7⟩ := h
  have hok : nmOk p.v.name = true := by rw [h1]; exact ns_ok _ (List.mem_of_getElem? hn)
  refine ⟨?_, h4, by show _ = some p.v.name; rw [h1]; exact hn⟩
  show plainB p.v = true
  unfold plainB plcB
  rw [hok, inB_true.2 (show 1 ≤ p.v.weight ∧ p.v.weight ≤ 50000 by omega), inB_true.2 (show -10000 ≤ p.v.fx ∧ p.v.fx ≤ 10000 by omega), inB_true.2 (show -10000 ≤ p.v.fy ∧ p.v.fy ≤ 10000 by omega), inB_true.2 (show -10000 ≤ p.v.tx ∧ p.v.tx ≤ 10000 by omega), inB_true.2 (show -10000 ≤ p.v.ty ∧ p.v.ty ≤ 10000 by omega), inB_true.2 (show 0 ≤ p.v.height ∧ p.v.height ≤ 2000 by omega), inB_true.2 (show 1 ≤ p.v.deadline ∧ p.v.deadline ≤ 1000000 by omega)]
  rfl
/-- lifts that have been drawn: a slice value, its lifts in memory from W0 on -/
def DrawnAll (w : World) (W0 : Nat) (e : Ending) (w' : World) : Prop :=
  ∃ v ps, e = .returned v ∧ Grow Lift.cs 9 w' W0 41 v ps ∧ Good (ps.map Lift.val) ∧ ps.length ≤ 6 ∧ ∀ q ∈ ps, DrawnIn w' W0 q
/-- what A2Lifts hands back -/
def LiftsA2 (w : World) (e : Ending) (w' : World) : Prop :=
  ∃ A c ps, e = .returned (.slice A ps.length c) ∧ Good (ps.map Lift.val) ∧ ps.length ≤ 6 ∧ ps.length ≤ c ∧ c ≤ 9223372036854775807 ∧ Lifts w' w.heap.size w'.heap.size A ps.length ps ∧ (∀ p ∈ ps, Headed p.r ∧ p.r.n ≤ 6 ∧ p.wf) ∧ Below w.heap.size w w'
end Go.Proofs.YtnidnmbicnhflaaDoor
