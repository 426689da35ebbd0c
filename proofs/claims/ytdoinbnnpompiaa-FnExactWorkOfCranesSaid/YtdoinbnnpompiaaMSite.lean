/- markSite: the marks that the laws set in a site; facts about the rows of cranes. -/
import Derived.Test.YtdoinbnnpompiaaRSite
import Derived.Test.YtdoinbnnpompiaaMCrane
namespace Go.Proofs.Ytdoinbnnpompiaa
open Go.RowKit
set_option linter.unusedVariables false
section
variable {w : World} {lo hi : Nat} {A : Option Addr} {n : Nat} {ps ps2 : List Crane}
theorem ctot_mem {α : Type} {f : α → Nat} {xs : List α} {p : α} (h : p ∈ xs) : f p ≤ tot f xs := by
  induction xs with
  | nil => cases h
  | cons x xs ih =>
    simp only [tot, List.map_cons, List.sum_cons] at *
    rcases List.mem_cons.1 h with rfl | h
    · omega
    · have := ih h; omega
theorem crows_len (h : Cranes w lo hi A n ps) : ∀ p ∈ ps, p.r.xs.length = p.r.n := fun p hp => (h.2 p hp).1
theorem crows_le (h : (tot Crane.sz ps : Nat) ≤ 1048576) : ∀ p ∈ ps, p.r.n ≤ 1048576 := by
  intro p hp
  have := ctot_mem (f := Crane.sz) hp
  unfold Crane.sz at this h; omega
theorem crecs_same (V : ps2.map Crane.val = ps.map Crane.val) {p : Crane} (hp : p ∈ ps2) : ∃ q ∈ ps, p.v = q.v ∧ p.r.xs = q.r.xs := by
  obtain ⟨q, hq, e⟩ := List.mem_map.1 (V ▸ List.mem_map_of_mem (f := Crane.val) hp)
  simp only [Crane.val, Prod.mk.injEq] at e
  exact ⟨q, hq, e.1.symm, e.2.symm⟩
theorem crecs_wf (V : ps2.map Crane.val = ps.map Crane.val) (h2 : ∀ p ∈ ps2, p.r.xs.length = p.r.n) (h : ∀ p ∈ ps, p.r.xs.length = p.r.n) (wf : ∀ p ∈ ps, p.wf) : ∀ p ∈ ps2, p.wf := by
  intro p hp
  obtain ⟨q, hq, e1, e2⟩ := crecs_same V hp
  have := wf q hq
  exact ⟨by rw [e1]; exact this.v, by rw [← h2 p hp, e2, h q hq]; exact this.n, by rw [e2]; exact this.xs⟩
theorem crecs_rn {N : Nat} (V : ps2.map Crane.val = ps.map Crane.val) (h2 : ∀ p ∈ ps2, p.r.xs.length = p.r.n) (h : ∀ p ∈ ps, p.r.xs.length = p.r.n) (hr : ∀ p ∈ ps, p.r.n ≤ N) : ∀ p ∈ ps2, p.r.n ≤ N := by
  intro p hp
  obtain ⟨q, hq, e1, e2⟩ := crecs_same V hp
  rw [← h2 p hp, e2, h q hq]; exact hr q hq
end
def MarkSite (w : World) (lo hi : Nat) (s : Row Crane) (q : Int) (e : Ending) (w' : World) : Prop :=
  e = .returned (.int .i64 (q + (tot Crane.wide s.xs : Nat))) ∧ Within lo hi w w' ∧ CranesOwn w' lo hi s.a s.n (upTo (markCranes q s.xs) s.xs s.n)
set_option maxHeartbeats 800000 in
theorem markSite_any (s : Row Crane) (q : Int) (w : World) (lo hi : Nat) (h : CranesOwn w lo hi s.a s.n s.xs) (hhi : hi ≤ w.heap.size) (hn : s.n ≤ 1048576) (hrn : ∀ p ∈ s.xs, p.r.n ≤ 1048576) (hq : 0 ≤ q) (hq2 : q + (tot Crane.wide s.xs : Nat) ≤ 1073741824) :
    Calls Try.prog 23 #[.agg #[.slice s.a s.n s.cap], .int .i64 q] w (MarkSite w lo hi s q) := by
  have hb := (Below.refl w.heap.size w).alloc (Nat.le_refl _) (.cells #[.slice s.a s.n s.cap] 36)
  go_enter Try.func23, Try.ntmps23
  go_wp2_with fail
  refine (markCraneS_any _ _ _ s.xs q _ lo hi (h.bel hb) hn hrn hq hq2).mono ?_
  rintro e w1 ⟨rfl, hw1, ho⟩
  go_wp2
  go_ret
  exact ⟨rfl, (Within.of_below _ _ hb).trans hw1, ho⟩
end Go.Proofs.Ytdoinbnnpompiaa
