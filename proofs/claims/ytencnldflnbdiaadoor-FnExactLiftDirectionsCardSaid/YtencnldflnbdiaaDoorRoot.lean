/- The square root, rounded up: rt; the square of a distance: sqD. No program in sight. -/
import Derived.Test.YtencnldflnbdiaaDoorWords2
namespace Go.Proofs.YtencnldflnbdiaaDoor
open Go.RowKit
set_option linter.unusedVariables false

/-- r is the least number from 0 on whose square is at least n -/
def IsRoot (n r : Int) : Prop := 0 ≤ r ∧ n ≤ r * r ∧ ∀ s : Int, 0 ≤ s → s < r → s * s < n
theorem IsRoot.same {n r s : Int} (h : IsRoot n r) (k : IsRoot n s) : r = s := by
  obtain ⟨h1, h2, h3⟩ := h; obtain ⟨k1, k2, k3⟩ := k
  rcases Int.lt_trichotomy r s with h | h | h
  · have := k3 r h1 h; omega
  · exact h
  · have := h3 s k1 h; omega
def rtF (n : Int) : Nat → Nat → Nat
  | 0, k => k
  | f + 1, k => if n ≤ (k : Int) * (k : Int) then k else rtF n f (k + 1)
def rt (n : Int) : Int := (rtF n n.toNat 0 : Nat)
theorem rtF_root (n : Int) : ∀ f k : Nat, n.toNat ≤ f + k → (∀ s : Int, 0 ≤ s → s < (k : Int) → s * s < n) → IsRoot n (rtF n f k : Nat)
  | 0, k, hk, hs => by
    refine ⟨by omega, ?_, hs⟩
    show n ≤ (k : Int) * (k : Int)
    rcases Nat.eq_zero_or_pos k with h | h
    · subst h; simp; omega
    · have : (k : Int) * 1 ≤ (k : Int) * (k : Int) := Int.mul_le_mul_of_nonneg_left (by omega) (by omega)
      omega
  | f + 1, k, hk, hs => by
    unfold rtF
    by_cases h : n ≤ (k : Int) * (k : Int)
    · rw [if_pos h]; exact ⟨by omega, h, hs⟩
    · rw [if_neg h]
      refine rtF_root n f (k + 1) (by omega) fun s h0 h1 => ?_
      rcases Int.lt_or_le s (k : Int) with h2 | h2
      · exact hs s h0 h2
      · obtain rfl : s = (k : Int) := by omega
        omega
theorem rt_root (n : Int) : IsRoot n (rt n) := rtF_root n n.toNat 0 (by omega) (fun s h0 h1 => absurd h1 (by omega))
theorem rt_of {n r : Int} (h : IsRoot n r) : rt n = r := (rt_root n).same h
theorem rt_low (n : Int) : 0 ≤ rt n := (rt_root n).1
theorem sq_mono {a b : Int} (h0 : 0 ≤ a) (h : a ≤ b) : a * a ≤ b * b := Int.mul_le_mul h h h0 (by omega)
/-- a half search ends at the root -/
theorem isRoot_of_search {n r : Int} (h0 : 0 ≤ r) (h1 : n ≤ r * r) (h2 : r = 0 ∨ (r - 1) * (r - 1) < n) : IsRoot n r :=
  ⟨h0, h1, fun s hs hsr => by
    rcases h2 with h2 | h2
    · omega
    · have := sq_mono hs (show s ≤ r - 1 by omega); omega⟩
theorem rt_high {n m : Int} (hm : 0 ≤ m) (h : n ≤ m * m) : rt n ≤ m := by
  rcases Int.lt_or_le m (rt n) with h2 | h2
  · have := (rt_root n).2.2 m hm h2; omega
  · exact h2
def sqD (ax ay bx by_ : Int) : Int := (ax - bx) * (ax - bx) + (ay - by_) * (ay - by_)
theorem sq_bd {x m : Int} (h1 : -m ≤ x) (h2 : x ≤ m) : 0 ≤ x * x ∧ x * x ≤ m * m := by
  have hm : 0 ≤ m := by omega
  constructor
  · rcases Int.le_total 0 x with h | h
    · exact Int.mul_nonneg h h
    · have := Int.mul_nonneg (a := -x) (b := -x) (by omega) (by omega)
      rwa [Int.neg_mul_neg] at this
  · rcases Int.le_total 0 x with h | h
    · exact sq_mono h h2
    · have : (-x) * (-x) ≤ m * m := sq_mono (by omega) (by omega)
      rwa [Int.neg_mul_neg] at this
end Go.Proofs.YtencnldflnbdiaaDoor
