/- Sets of numbers kept as the bits of an int64: has, l08Bit; a set with one number more. -/
import Derived.Test.YtkegncanmfmmmaaDoorProg
import Derived.Test.YtkegncanmfmmmaaDoorWords3
import Derived.Test.YtkegncanmfmmmaaDoorGrow
import Derived.Laws.BitsLemmas
import Derived.KernelRfl
namespace Go.Proofs.YtkegncanmfmmmaaDoor
open Go.RowKit
set_option linter.unusedVariables false

def hasI (m k : Int) : Bool := m.toNat.testBit k.toNat
theorem wraps_i64_62 (n : Int) (h₀ : 0 ≤ n) (h₁ : n < 2 ^ 62) : IntKind.i64.wrap n = n := by rw [IntKind.wrap_i64]; omega
theorem and_i64 (a b : Nat) (ha : a < 2 ^ 62) (hb : b < 2 ^ 62) : bits .and .i64 (a : Int) (b : Int) = ((a &&& b : Nat) : Int) := (bits_nat .i64 62 (by decide) wraps_i64_62 a b ha hb).1
theorem or_i64 (a b : Nat) (ha : a < 2 ^ 62) (hb : b < 2 ^ 62) : bits .or .i64 (a : Int) (b : Int) = ((a ||| b : Nat) : Int) := (bits_nat .i64 62 (by decide) wraps_i64_62 a b ha hb).2
theorem bit_one (a k : Nat) (ha : a < 2 ^ 62) : (bits .and .i64 ((a : Int) / 2 ^ k) 1 == 1) = a.testBit k := by
  have e1 : ((a : Int) / 2 ^ k) = ((a / 2 ^ k : Nat) : Int) := by push_cast; rfl
  have h := and_i64 (a / 2 ^ k) 1 (Nat.lt_of_le_of_lt (Nat.div_le_self _ _) ha) (by decide)
  rw [e1]
  rw [show (1 : Int) = ((1 : Nat) : Int) from rfl, h, Nat.and_one_is_mod, Nat.testBit_eq_decide_div_mod_eq]
  rw [Bool.eq_iff_iff]; simp; omega

/-- the set with one number more -/
def withI (m k : Int) : Int := ((m.toNat ||| 2 ^ k.toNat : Nat) : Int)
theorem withI_nonneg (m k : Int) : 0 ≤ withI m k := by unfold withI; omega
theorem withI_lt {m k : Int} {n : Nat} (hm0 : 0 ≤ m) (hm : m < 2 ^ n) (hk0 : 0 ≤ k) (hk : k < n) : withI m k < 2 ^ n := by
  unfold withI
  have h1 : m.toNat < 2 ^ n := by
    have : ((m.toNat : Nat) : Int) < ((2 ^ n : Nat) : Int) := by push_cast; omega
    omega
  have h2 : (2 : Nat) ^ k.toNat < 2 ^ n := Nat.pow_lt_pow_right (by omega) (by omega)
  have := Nat.or_lt_two_pow h1 h2
  have h3 : ((m.toNat ||| 2 ^ k.toNat : Nat) : Int) < ((2 ^ n : Nat) : Int) := by omega
  push_cast at h3 ⊢; exact h3
theorem hasI_with (m k j : Int) (hj : 0 ≤ j) (hk : 0 ≤ k) : hasI (withI m k) j = (hasI m j || decide (j = k)) := by
  unfold hasI withI
  rw [Int.toNat_natCast, Nat.testBit_or, Nat.testBit_two_pow]
  congr 1
  rw [Bool.eq_iff_iff]; simp; omega
theorem hasI_zero (j : Int) : hasI 0 j = false := by simp [hasI]
/-- the walk's spelling -/
theorem or_shl (m k : Int) (hm0 : 0 ≤ m) (hm : m < 4611686018427387904) (hk0 : 0 ≤ k) (hk : k < 62) : bits .or .i64 m (2 ^ k.toNat) = withI m k := by
  obtain ⟨a, rfl⟩ := Int.eq_ofNat_of_zero_le hm0
  obtain ⟨j, rfl⟩ := Int.eq_ofNat_of_zero_le hk0
  have h := or_i64 a (2 ^ j) (by omega) (Nat.pow_lt_pow_right (by omega) (by omega))
  unfold withI
  rw [Int.toNat_natCast, Int.toNat_natCast, ← h]
  push_cast; rfl

/-- a call that hands back a fresh slice -/
def RetL {α : Type} (c : α → List Value) (k : Nat) (e : TypeId) (xs : List α) (w : World) (en : Ending) (w' : World) : Prop :=
  ∃ A cap, en = .returned (.slice A xs.length cap) ∧ Own c k w' w.heap.size w'.heap.size e A xs.length xs ∧ Below w.heap.size w w'
theorem Grow.retl {α : Type} {c : α → List Value} {k : Nat} {w w0 : World} {e : TypeId} {v : Value} {xs : List α} (h : Grow c k w w0.heap.size e v xs) (hc : ∀ x, (c x).length = k) (hb : Below w0.heap.size w0 w) : RetL c k e xs w0 (.returned v) w := by
  obtain ⟨A, cap, rfl, ho⟩ := h.own hc
  exact ⟨A, cap, rfl, ho, hb⟩
/-- the same, with what is known of its capacity -/
def RetC {α : Type} (c : α → List Value) (k : Nat) (e : TypeId) (xs : List α) (w : World) (en : Ending) (w' : World) : Prop :=
  ∃ A cap, en = .returned (.slice A xs.length cap) ∧ Own c k w' w.heap.size w'.heap.size e A xs.length xs ∧ Below w.heap.size w w' ∧ xs.length ≤ cap ∧ cap ≤ 9223372036854775807
theorem RetC.retl {α : Type} {c : α → List Value} {k : Nat} {e : TypeId} {xs : List α} {w w' : World} {en : Ending} (h : RetC c k e xs w en w') : RetL c k e xs w en w' := by
  obtain ⟨A, cap, h1, h2, h3, _⟩ := h; exact ⟨A, cap, h1, h2, h3⟩
theorem Grow.retc {α : Type} {c : α → List Value} {k : Nat} {w w0 : World} {e : TypeId} {v : Value} {xs : List α} (h : Grow c k w w0.heap.size e v xs) (hc : ∀ x, (c x).length = k) (hb : Below w0.heap.size w0 w) : RetC c k e xs w0 (.returned v) w := by
  obtain ⟨A, cap, rfl, ho⟩ := h.own hc
  refine ⟨A, cap, rfl, ho, hb, ?_⟩
  rcases h.2 with ⟨h1, h0⟩ | ⟨g, cap2, cs, h1, _, _, h3, h4, _⟩
  · injection h1 with _ h2 h3; subst h3; omega
  · injection h1 with _ h2 h5; subst h5; unfold maxLen at h4; exact ⟨h3, h4⟩
theorem Arr.tail {α : Type} {c : α → List Value} {k : Nat} {w : World} {lo hi b off n : Nat} {xs : List α} (h : Arr c k w lo hi (some ⟨b, off, none⟩) (n + 1) xs) : Arr c k w lo hi (some ⟨b, off + k, none⟩) n xs.tail := by
  refine ⟨by rw [List.length_tail, h.1]; rfl, fun hn => ?_⟩
  obtain ⟨b', off', e, h1, h2, hc⟩ := h.2 (by omega)
  cases e
  refine ⟨b, off + k, rfl, h1, h2, fun i x hx j u hu => ?_⟩
  rw [List.getElem?_tail] at hx
  have := hc (i + 1) x hx j u hu
  rw [Nat.succ_mul] at this
  rw [show off + k + i * k + j = off + (i * k + k) + j by omega]; exact this
end Go.Proofs.YtkegncanmfmmmaaDoor
