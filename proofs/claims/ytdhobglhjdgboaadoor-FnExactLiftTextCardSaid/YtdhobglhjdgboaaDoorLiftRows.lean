/- Facts about the rows of lifts, for the laws. -/
import Derived.Test.YtdhobglhjdgboaaDoorMLift
import Derived.Test.YtdhobglhjdgboaaDoorOLift
namespace Go.Proofs.YtdhobglhjdgboaaDoor
open Go.RowKit
set_option linter.unusedVariables false
theorem tot_mem {α : Type} {f : α → Nat} {xs : List α} {p : α} (h : p ∈ xs) : f p ≤ tot f xs := by
  induction xs with
  | nil => cases h
  | cons x xs ih =>
    simp only [tot, List.map_cons, List.sum_cons] at *
    rcases List.mem_cons.1 h with rfl | h
    · omega
    · have := ih h; omega
section
variable {w : World} {lo hi : Nat} {A : Option Addr} {n : Nat} {ps ps2 : List Lift}
theorem rows_len (h : Lifts w lo hi A n ps) : ∀ p ∈ ps, p.r.xs.length = p.r.n := fun p hp => (h.2 p hp).1
theorem rows_le (h : (tot Lift.sz ps : Nat) ≤ 1048576) (hl : ∀ p ∈ ps, p.r.xs.length = p.r.n) : ∀ p ∈ ps, p.r.n ≤ 1048576 := by
  intro p hp
  have := tot_mem (f := Lift.sz) hp
  unfold Lift.sz at this h; omega
theorem recs_same (V : ps2.map Lift.val = ps.map Lift.val) {p : Lift} (hp : p ∈ ps2) : ∃ q ∈ ps, p.v = q.v ∧ p.r.xs = q.r.xs := by
  obtain ⟨q, hq, e⟩ := mem_same V hp
  simp only [Lift.val, Prod.mk.injEq] at e
  exact ⟨q, hq, e.1.symm, e.2.symm⟩
theorem recs_wf (V : ps2.map Lift.val = ps.map Lift.val) (h2 : ∀ p ∈ ps2, p.r.xs.length = p.r.n) (h : ∀ p ∈ ps, p.r.xs.length = p.r.n) (wf : ∀ p ∈ ps, p.wf) : ∀ p ∈ ps2, p.wf := by
  intro p hp
  obtain ⟨q, hq, e1, e2⟩ := recs_same V hp
  have := wf q hq
  exact ⟨by rw [e1]; exact this.v, by rw [← h2 p hp, e2, h q hq]; exact this.n, trivial⟩
theorem recs_rn {N : Nat} (V : ps2.map Lift.val = ps.map Lift.val) (h2 : ∀ p ∈ ps2, p.r.xs.length = p.r.n) (h : ∀ p ∈ ps, p.r.xs.length = p.r.n) (hr : ∀ p ∈ ps, p.r.n ≤ N) : ∀ p ∈ ps2, p.r.n ≤ N := by
  intro p hp
  obtain ⟨q, hq, e1, e2⟩ := recs_same V hp
  rw [← h2 p hp, e2, h q hq]; exact hr q hq
end
end Go.Proofs.YtdhobglhjdgboaaDoor
