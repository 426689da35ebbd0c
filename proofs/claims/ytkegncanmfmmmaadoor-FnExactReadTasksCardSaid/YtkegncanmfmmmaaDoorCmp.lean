/- cmp.Compare and cmp.Or of Go's library. -/
import Derived.Test.YtkegncanmfmmmaaDoorRInt64
import Derived.Test.YtkegncanmfmmmaaDoorLow
import Derived.Deep.RegionHeld3
namespace Go.Proofs.YtkegncanmfmmmaaDoor
open Go.RowKit
set_option linter.unusedVariables false

/-- the order of two numbers: -1, 0, 1 -/
def sgn (a b : Int) : Int := if a < b then -1 else if b < a then 1 else 0
theorem sgn_cases (a b : Int) : (a < b ∧ sgn a b = -1) ∨ (¬ a < b ∧ b < a ∧ sgn a b = 1) ∨ (¬ a < b ∧ ¬ b < a ∧ sgn a b = 0) := by
  unfold sgn
  by_cases h : a < b
  · simp [h]
  · by_cases h2 : b < a
    · simp [h, h2]
    · simp [h, h2]
theorem sgn_range (a b : Int) : -1 ≤ sgn a b ∧ sgn a b ≤ 1 := by
  rcases sgn_cases a b with ⟨_, h⟩ | ⟨_, _, h⟩ | ⟨_, _, h⟩ <;> rw [h] <;> omega
theorem cmpInt_any (a b : Int) (w : World) : Calls Tryd.prog 146 #[.int .i64 a, .int .i64 b] w fun e w' => e = .returned (.int .i64 (sgn a b)) ∧ w = w' := by
  rcases sgn_cases a b with ⟨h1, h⟩ | ⟨h1, h2, h⟩ | ⟨h1, h2, h⟩
  all_goals
    have H := Lib.hid h
    clear h
    go_enter Tryd.func146, Tryd.ntmps146
    go_wp2
    go_ret
    exact ⟨by rw [H.out]; rfl, rfl⟩

/-- the first number that is not 0 -/
def orTo : List Int → Int
  | [] => 0
  | x :: xs => if x = 0 then orTo xs else x
theorem orTo_hit : ∀ (xs : List Int) (k : Nat) (x : Int), (∀ j, j < k → xs[j]? = some 0) → xs[k]? = some x → x ≠ 0 → orTo xs = x
  | [], k, x, _, h, _ => by simp at h
  | y :: ys, 0, x, _, h, hx => by simp at h; subst h; simp [orTo, hx]
  | y :: ys, k + 1, x, h0, h, hx => by
    have : y = 0 := by have := h0 0 (by omega); simpa using this
    subst this
    simp only [orTo, if_true]
    exact orTo_hit ys k x (fun j hj => by have := h0 (j + 1) (by omega); simpa using this) (by simpa using h) hx
theorem orTo_none : ∀ (xs : List Int), (∀ j, j < xs.length → xs[j]? = some 0) → orTo xs = 0
  | [], _ => rfl
  | y :: ys, h0 => by
    have : y = 0 := by have := h0 0 (by simp); simpa using this
    subst this
    simp only [orTo, if_true]
    exact orTo_none ys (fun j hj => by have := h0 (j + 1) (by simp; omega); simpa using this)

theorem orInts_any (A : Option Addr) (n c : Nat) (xs : List Int) (w : World) (lo : Nat) (h : Arr ic 1 w lo w.heap.size A n xs) (hn : n ≤ 1048576) :
    Calls Tryd.prog 145 #[.slice A n c] w fun e w' => e = .returned (.int .i64 (orTo xs)) ∧ w = w' := by
  go_enter Tryd.func145, Tryd.ntmps145
  go_wp2
  go_loop [8] (fun i => ∃ k : Nat, k ≤ n ∧ i = .int .i64 k ∧ ∀ j, j < k → xs[j]? = some 0) (fun i => n - (intOf i).toNat)
  case atStart => exact ⟨0, Nat.zero_le _, rfl, fun j hj => absurd hj (by omega)⟩
  case round =>
    obtain ⟨k, hk, rfl, hz⟩ := hrel
    have HZ := Lib.hid hz
    clear hz
    by_cases hlt : k < n
    · obtain ⟨b, off, p, rfl, hx, _, hbl, c0⟩ := Ints.at h hlt
      have HX := Lib.hid hx
      clear hx
      have hk0 : (0 : Int) ≤ (k : Int) := by omega
      have hk1 : (k : Int) < (n : Int) := by omega
      by_cases hp : p = 0
      · subst hp
        go_wp2
        go_round
        case rel => exact ⟨k + 1, by omega, by go_num, fun j hj => by
          by_cases e : j = k
          · rw [e]; exact HX.out
          · exact HZ.out j (by omega)⟩
        case measure => simp [intOf]; omega
      · have HP := Lib.hid hp
        have bp : (p != 0) = true := by simp [hp]
        clear hp
        go_wp2
        go_ret
        exact ⟨by rw [orTo_hit xs k p HZ.out HX.out HP.out]; rfl, rfl⟩
    · obtain rfl : k = n := by omega
      have HE : Hid (orTo xs = 0) := orTo_none xs (by rw [h.1]; exact HZ.out)
      go_wp2
      go_ret
      exact ⟨by rw [HE.out]; rfl, rfl⟩
end Go.Proofs.YtkegncanmfmmmaaDoor
