/- Facts about the rows of zones, for the laws. No program in sight. -/
import Derived.Test.YtdhobglhjdgboaaDoorRZone
namespace Go.Proofs.YtdhobglhjdgboaaDoor
open Go.RowKit
set_option linter.unusedVariables false
section
variable {w : World} {lo hi : Nat} {A : Option Addr} {n : Nat} {ps ps2 : List Zone}
theorem ztot_mem {α : Type} {f : α → Nat} {xs : List α} {p : α} (h : p ∈ xs) : f p ≤ tot f xs := by
  induction xs with
  | nil => cases h
  | cons x xs ih =>
    simp only [tot, List.map_cons, List.sum_cons] at *
    rcases List.mem_cons.1 h with rfl | h
    · omega
    · have := ih h; omega
theorem zrows_len (h : Zones w lo hi A n ps) : ∀ p ∈ ps, p.r.xs.length = p.r.n := fun p hp => (h.2 p hp).1
theorem zrows_le (h : (tot Zone.sz ps : Nat) ≤ 1048576) : ∀ p ∈ ps, p.r.n ≤ 1048576 := by
  intro p hp
  have := ztot_mem (f := Zone.sz) hp
  unfold Zone.sz at this h; omega
theorem zrecs_same (V : ps2.map Zone.val = ps.map Zone.val) {p : Zone} (hp : p ∈ ps2) : ∃ q ∈ ps, p.v = q.v ∧ p.r.xs = q.r.xs := by
  obtain ⟨q, hq, e⟩ := List.mem_map.1 (V ▸ List.mem_map_of_mem (f := Zone.val) hp)
  simp only [Zone.val, Prod.mk.injEq] at e
  exact ⟨q, hq, e.1.symm, e.2.symm⟩
theorem zrecs_wf (V : ps2.map Zone.val = ps.map Zone.val) (h2 : ∀ p ∈ ps2, p.r.xs.length = p.r.n) (h : ∀ p ∈ ps, p.r.xs.length = p.r.n) (wf : ∀ p ∈ ps, p.wf) : ∀ p ∈ ps2, p.wf := by
  intro p hp
  obtain ⟨q, hq, e1, e2⟩ := zrecs_same V hp
  have := wf q hq
  exact ⟨by rw [e1]; exact this.v, by rw [← h2 p hp, e2, h q hq]; exact this.n, by rw [e2]; exact this.xs⟩
theorem zrecs_rn {N : Nat} (V : ps2.map Zone.val = ps.map Zone.val) (h2 : ∀ p ∈ ps2, p.r.xs.length = p.r.n) (h : ∀ p ∈ ps, p.r.xs.length = p.r.n) (hr : ∀ p ∈ ps, p.r.n ≤ N) : ∀ p ∈ ps2, p.r.n ≤ N := by
  intro p hp
  obtain ⟨q, hq, e1, e2⟩ := zrecs_same V hp
  rw [← h2 p hp, e2, h q hq]; exact hr q hq
end
end Go.Proofs.YtdhobglhjdgboaaDoor
