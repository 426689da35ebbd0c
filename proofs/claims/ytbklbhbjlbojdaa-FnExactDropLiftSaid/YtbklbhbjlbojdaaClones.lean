/- Copies of lifts, of the program: slices.Clone at lifts and at numbers, cloneLifts. -/
import Derived.Test.YtbklbhbjlbojdaaRLift
import Derived.Test.YtbklbhbjlbojdaaGrow2
import Derived.Test.YtbklbhbjlbojdaaFind
namespace Go.Proofs.Ytbklbhbjlbojdaa
open Go.RowKit
set_option linter.unusedVariables false

def CloneI (n : Nat) (xs : List Int) (w : World) (e : Ending) (w' : World) : Prop :=
  ∃ A c, e = .returned (.slice A n c) ∧ Own ic 1 w' w.heap.size w'.heap.size 2 A n xs ∧ Below w.heap.size w w'
set_option maxHeartbeats 800000 in
theorem cloneInt_any (A : Option Addr) (n c : Nat) (xs : List Int) (w : World) (lo : Nat) (h : Arr ic 1 w lo w.heap.size A n xs) (hn : n ≤ 1048576) :
    Calls Try.prog 170 #[.slice A n c] w (CloneI n xs w) := by
  cases A with
  | none =>
    have h0 : n = 0 := by
      rcases Nat.eq_zero_or_pos n with h9 | h9
      · exact h9
      · obtain ⟨b, off, e1, _⟩ := h.2 h9; cases e1
    subst h0
    have hx : xs = [] := List.eq_nil_of_length_eq_zero h.1
    subst hx
    have hnil := fun W => Lib.run_eql_slice_nil (P := Try.prog) W 25 2 none 0 c 0 0 Try.underlying25
    go_enter Try.func170, Try.ntmps170
    go_wp2
    go_ret
    exact ⟨none, 0, rfl, Own.nil _, Below.refl _ _⟩
  | some a =>
    have hnil := fun W => Lib.run_eql_slice_nil (P := Try.prog) W 25 2 (some a) n c 0 0 Try.underlying25
    have hl := h.1
    go_enter Try.func170, Try.ntmps170
    go_wp2_with (at_builtin; refine wpList_join _ rfl _ _ 25 rfl w.heap.size 2 (.int .i64 0) 8 Try.underlying25 infoInt rfl (by omega) _ [] xs rfl (Grow.empty _ _ _ (Nat.le_refl _)) a n c rfl lo w.heap.size (h.below ((Below.refl _ _).alloc (Nat.le_refl _) _)) ic_len ic_one (by simp; omega) (by omega) (by simp) ?_; intro v' w5 hg5 hgr5)
    go_wp2
    go_ret
    obtain ⟨A', cap, hv, ho⟩ := Grow.own hg5 ic_len
    simp only [List.nil_append, hl] at hv ho
    exact ⟨A', cap, by rw [← hv]; rfl, ho, ((Below.refl _ _).alloc (Nat.le_refl _) _).grown hgr5 (by simp) (fun j hj => by have := ownBlock_eq hj; omega)⟩
def CloneL (ps : List Lift) (w : World) (e : Ending) (w' : World) : Prop :=
  ∃ v, e = .returned v ∧ Grow Lift.cs 9 w' w.heap.size 36 v ps ∧ Below w.heap.size w w'
set_option maxHeartbeats 800000 in
theorem cloneLift_any (A : Option Addr) (n c : Nat) (ps : List Lift) (w : World) (lo : Nat) (h : Arr Lift.cs 9 w lo w.heap.size A n ps) (hn : n ≤ 1048576) :
    Calls Try.prog 169 #[.slice A n c] w (CloneL ps w) := by
  cases A with
  | none =>
    have h0 : n = 0 := by
      rcases Nat.eq_zero_or_pos n with h9 | h9
      · exact h9
      · obtain ⟨b, off, e1, _⟩ := h.2 h9; cases e1
    subst h0
    have hx : ps = [] := List.eq_nil_of_length_eq_zero h.1
    subst hx
    have hnil := fun W => Lib.run_eql_slice_nil (P := Try.prog) W 30 36 none 0 c 0 0 Try.underlying30
    go_enter Try.func169, Try.ntmps169
    go_wp2
    go_ret
    exact ⟨_, rfl, Grow.nil _ _ _, Below.refl _ _⟩
  | some a =>
    have hnil := fun W => Lib.run_eql_slice_nil (P := Try.prog) W 30 36 (some a) n c 0 0 Try.underlying30
    go_enter Try.func169, Try.ntmps169
    go_wp2_with (at_builtin; refine wpList_join _ rfl _ _ 30 rfl w.heap.size 36 _ _ Try.underlying30 LiftInfo rfl (by omega) _ [] ps rfl (Grow.empty _ _ _ (Nat.le_refl _)) a n c rfl lo w.heap.size (h.below ((Below.refl _ _).alloc (Nat.le_refl _) _)) Lift.cs_len (by intro p u hu; simp [Lift.cs] at hu; rcases hu with rfl | rfl | rfl | rfl | rfl | rfl | rfl | rfl | rfl <;> rfl) (by simp; omega) (by omega) (by simp) ?_; intro v' w5 hg5 hgr5)
    go_wp2
    go_ret
    exact ⟨v', rfl, hg5, ((Below.refl _ _).alloc (Nat.le_refl _) _).grown hgr5 (by simp) (fun j hj => by have := ownBlock_eq hj; omega)⟩
end Go.Proofs.Ytbklbhbjlbojdaa
