/- Facts about the rows of cranes, for the laws. No program in sight. -/
import Derived.Test.YtencnldflnbdiaaRSite
namespace Go.Proofs.Ytencnldflnbdiaa
open Go.RowKit
set_option linter.unusedVariables false
section
variable {w : World} {lo hi : Nat} {A : Option Addr} {n : Nat} {ps ps2 : List Crane}
theorem ctot_mem {α : Type} {f : α → Nat} {xs : List α} {p : α} (h : p ∈ xs) : f p ≤ tot f xs := by
  induction xs with
  | nil => cases h
  | cons x xs ih =>
    simp only [tot, List.map_cons, List.sum_cons] at *
    rcases List.mem_cons.1 h with rfl | h
    · omega
    · have := ih h; omega
theorem crows_len (h : Cranes w lo hi A n ps) : ∀ p ∈ ps, p.r.xs.length = p.r.n := fun p hp => (h.2 p hp).1
theorem crows_le (h : (tot Crane.sz ps : Nat) ≤ 1048576) : ∀ p ∈ ps, p.r.n ≤ 1048576 := by
  intro p hp
  have := ctot_mem (f := Crane.sz) hp
  unfold Crane.sz at this h; omega
theorem crecs_same (V : ps2.map Crane.val = ps.map Crane.val) {p : Crane} (hp : p ∈ ps2) : ∃ q ∈ ps, p.v = q.v ∧ p.r.xs = q.r.xs := by
  obtain ⟨q, hq, e⟩ := List.mem_map.1 (V ▸ List.mem_map_of_mem (f := Crane.val) hp)
  simp only [Crane.val, Prod.mk.injEq] at e
  exact ⟨q, hq, e.1.symm, e.2.symm⟩
theorem crecs_wf (V : ps2.map Crane.val = ps.map Crane.val) (h2 : ∀ p ∈ ps2, p.r.xs.length = p.r.n) (h : ∀ p ∈ ps, p.r.xs.length = p.r.n) (wf : ∀ p ∈ ps, p.wf) : ∀ p ∈ ps2, p.wf := by
  intro p hp
  obtain ⟨q, hq, e1, e2⟩ := crecs_same V hp
  have := wf q hq
  exact ⟨by rw [e1]; exact this.v, by rw [← h2 p hp, e2, h q hq]; exact this.n, by rw [e2]; exact this.xs⟩
theorem crecs_rn {N : Nat} (V : ps2.map Crane.val = ps.map Crane.val) (h2 : ∀ p ∈ ps2, p.r.xs.length = p.r.n) (h : ∀ p ∈ ps, p.r.xs.length = p.r.n) (hr : ∀ p ∈ ps, p.r.n ≤ N) : ∀ p ∈ ps2, p.r.n ≤ N := by
  intro p hp
  obtain ⟨q, hq, e1, e2⟩ := crecs_same V hp
  rw [← h2 p hp, e2, h q hq]; exact hr q hq
end
end Go.Proofs.Ytencnldflnbdiaa
