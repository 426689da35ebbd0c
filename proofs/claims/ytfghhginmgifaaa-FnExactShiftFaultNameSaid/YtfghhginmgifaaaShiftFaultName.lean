/- FnExactShiftFaultName: the program's ShiftFaultName and the reference's give the same text, for every number; no condition. -/
import Derived.Test.YtfghhginmgifaaaLow
import Derived.Test.YtfghhginmgifaaaWords
namespace Go.Proofs.Ytfghhginmgifaaa.lawShiftFaultName
open Go.RowKit

def sfName (k : Int) : ByteArray :=
  if k = 0 then ⟨#[110, 111, 110, 101]⟩ else if k = 1 then ⟨#[102, 111, 114, 109]⟩ else if k = 2 then ⟨#[112, 101, 114, 115, 111, 110]⟩
  else if k = 3 then ⟨#[114, 111, 108, 101]⟩ else if k = 4 then ⟨#[112, 101, 114, 109, 105, 116]⟩ else if k = 5 then ⟨#[116, 119, 105, 99, 101]⟩
  else if k = 6 then ⟨#[114, 101, 115, 116]⟩ else ⟨#[]⟩

theorem cases7 (k : Int) : (inB k 0 6 = false ∧ ¬ (0 ≤ k ∧ k ≤ 6)) ∨ k = 0 ∨ k = 1 ∨ k = 2 ∨ k = 3 ∨ k = 4 ∨ k = 5 ∨ k = 6 := by
  by_cases h : 0 ≤ k ∧ k ≤ 6
  · omega
  · exact .inl ⟨inB_false.2 (by omega), h⟩

theorem sfName_out {k : Int} (h : ¬ (0 ≤ k ∧ k ≤ 6)) : sfName k = ⟨#[]⟩ := by
  unfold sfName
  repeat rw [if_neg (by omega)]

theorem spec_any (k : Int) (w : World) :
    Calls Try.prog 14 #[.int .i64 k] w fun e w' => e = .returned (.string (sfName k)) ∧ Below w.heap.size w w' := by
  rcases cases7 k with ⟨h, h2⟩ | rfl | rfl | rfl | rfl | rfl | rfl | rfl
  · go_enter Try.func14, Try.ntmps14
    go_wp2_with (go_at_call 55; refine (l00In_any _ _ _ _).mono ?_; rintro e w' ⟨rfl, rfl⟩)
    go_ret
    exact ⟨by simp [sfName_out h2], (Below.refl _ _).alloc (Nat.le_refl _) _⟩
  all_goals
    go_enter Try.func14, Try.ntmps14
    go_wp2
    go_ret
    exact ⟨rfl, (Below.refl _ _).alloc (Nat.le_refl _) _⟩

theorem impl_any (k : Int) (w : World) :
    Calls Try.prog 15 #[.int .i64 k] w fun e w' => e = .returned (.string (sfName k)) ∧ Below w.heap.size w w' := by
  rcases cases7 k with ⟨h, h2⟩ | rfl | rfl | rfl | rfl | rfl | rfl | rfl
  · go_enter Try.func15, Try.ntmps15
    go_wp2_with (go_at_call 56; refine (index_any _ _ (by omega) (by omega) _).mono ?_; rintro e w' ⟨rfl, rfl⟩)
    go_ret
    exact ⟨by simp [sfName_out h2], (Below.refl _ _).alloc (Nat.le_refl _) _⟩
  all_goals
    go_enter Try.func15, Try.ntmps15
    go_wp2
    go_ret
    exact ⟨rfl, (Below.refl _ _).alloc (Nat.le_refl _) _⟩

theorem walk (a0 : Int) (w : World) (_w0 : (Lit.int .i64 a0).wf = true) :
    Calls Try.prog 3 #[.int .i64 a0] w fun e w' => e = .returned (.bool true) ∧ Below w.heap.size w w' := by
  go_enter Try.func3, Try.ntmps3
  go_wp2_with (first | (go_at_call 14; refine (spec_any _ _).mono ?_; rintro e w1 ⟨rfl, h1⟩) | (go_at_call 15; refine (impl_any _ _).mono ?_; rintro e w2 ⟨rfl, h2⟩))
  go_ret
  exact ⟨rfl, bel2 h1 h2⟩
end Go.Proofs.Ytfghhginmgifaaa.lawShiftFaultName
