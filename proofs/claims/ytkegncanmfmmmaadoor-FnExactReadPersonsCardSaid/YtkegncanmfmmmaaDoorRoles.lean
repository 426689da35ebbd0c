/- rolesText of the program. -/
import Derived.Test.YtkegncanmfmmmaaDoorBRow
import Derived.Test.YtkegncanmfmmmaaDoorSets
namespace Go.Proofs.YtkegncanmfmmmaaDoor
open Go.RowKit Go.Sort
set_option linter.unusedVariables false

def rlLet (k : Nat) : UInt8 := if k = 0 then 111 else if k = 1 then 115 else 114
def rlBit (r k : Nat) : Bool := r / 2 ^ k % 2 == 1
def rlTo (r : Nat) : Nat → List UInt8
  | 0 => []
  | k + 1 => if rlBit r k then rlTo r k ++ [rlLet k] else rlTo r k
def rlB (r : Nat) : List UInt8 := if r = 0 then [45] else rlTo r 3
theorem rlTo_yes {r k : Nat} (h : rlBit r k = true) : rlTo r (k + 1) = rlTo r k ++ [rlLet k] := by simp [rlTo, h]
theorem rlTo_no {r k : Nat} (h : rlBit r k = false) : rlTo r (k + 1) = rlTo r k := by simp [rlTo, h]
theorem rlTo_le (r : Nat) : ∀ k, (rlTo r k).length ≤ k
  | 0 => Nat.le_refl _
  | k + 1 => by have := rlTo_le r k; simp only [rlTo]; split <;> simp <;> omega
theorem and_one (x : Nat) (hx : x < 2 ^ 62) : bits .and .i64 (x : Int) 1 = ((x % 2 : Nat) : Int) := by
  have := (bits_nat .i64 62 (by decide) wraps_i64_62 x 1 hx (by decide)).1
  rw [Nat.and_one_is_mod] at this
  exact this
theorem fdiv_pow (r k : Nat) : (r : Int).fdiv (2 ^ k) = ((r / 2 ^ k : Nat) : Int) := by
  rw [show (2 : Int) ^ k = ((2 ^ k : Nat) : Int) by push_cast; rfl, ← Int.ofNat_fdiv]
theorem nat_one (x : Nat) : (((x % 2 : Nat) : Int) == 1) = (x % 2 == 1) := by
  rcases Nat.mod_two_eq_zero_or_one x with h | h <;> rw [h] <;> rfl
theorem str_snoc (l : List UInt8) (b : UInt8) : (⟨(l ++ [b]).toArray⟩ : ByteArray) = ⟨l.toArray⟩ ++ ⟨#[b]⟩ := by
  apply ByteArray.ext; simp [ByteArray.data_append]
set_option maxRecDepth 100000 in
set_option maxHeartbeats 1600000 in
theorem rolesText_any (r : Nat) (hr : r ≤ 7) (w : World) :
    Calls Tryd.prog 111 #[.int .i64 (r : Int)] w fun e w' => e = .returned (.string ⟨(rlB r).toArray⟩) ∧ Below w.heap.size w w' := by
  obtain ⟨W, hW⟩ : ∃ W : World, W = w.alloc (.cells #[.string ⟨#[111]⟩, .string ⟨#[115]⟩, .string ⟨#[114]⟩] 9) := ⟨_, rfl⟩
  have HB0 : Hid (RowKit.Below w.heap.size w W) := by show _; rw [hW]; exact (Below.refl _ _).alloc (Nat.le_refl _) _
  have HP : Blk W w.heap.size 9 #[.string ⟨#[111]⟩, .string ⟨#[115]⟩, .string ⟨#[114]⟩] := by rw [hW]; exact Blk.new _ _ _
  have c0 : W.cell? ⟨w.heap.size, 0, none⟩ = some (.string ⟨#[111]⟩) := (HP.cell 0).trans rfl
  have c1 : W.cell? ⟨w.heap.size, 1, none⟩ = some (.string ⟨#[115]⟩) := (HP.cell 1).trans rfl
  have c2 : W.cell? ⟨w.heap.size, 2, none⟩ = some (.string ⟨#[114]⟩) := (HP.cell 2).trans rfl
  clear HP
  go_enter Tryd.func111, Tryd.ntmps111
  go_wp2
  rw [← hW]
  clear hW
  go_loopw [3, 8] (fun v i wr => ∃ k : Nat, k ≤ 3 ∧ i = .int .i64 k ∧ v = .string ⟨(rlTo r k).toArray⟩ ∧ wr = W) (fun _ i _ => 3 - (intOf i).toNat)
  case atStart => exact ⟨0, Nat.zero_le _, rfl, rfl, rfl⟩
  case round =>
    obtain ⟨k, hk, rfl, rfl, rfl⟩ := hrel
    have hlen := rlTo_le r k
    rcases (by omega : k = 0 ∨ k = 1 ∨ k = 2 ∨ k = 3) with rfl | rfl | rfl | rfl
    · have HA : (bits .and .i64 ((r : Int)) 1 == 1) = rlBit r 0 := by
        have := and_one (r / 2 ^ 0) (by have : r / 2 ^ 0 ≤ r := Nat.div_le_self _ _; omega)
        rw [show ((r / 2 ^ 0 : Nat) : Int) = (r : Int) by push_cast; simp] at this
        rw [this]
        exact nat_one _
      cases hb : rlBit r 0
      · rw [hb] at HA
        have HE := Lib.hid (rlTo_no hb)
        clear hb
        go_wp2
        go_roundw
        case rel => exact ⟨1, by omega, rfl, by rw [HE.out], trivial⟩
        case measure => simp [intOf]
      · rw [hb] at HA
        have HE := Lib.hid (rlTo_yes hb)
        clear hb
        go_wp2
        go_roundw
        case rel => exact ⟨1, by omega, rfl, by rw [HE.out, str_snoc]; rfl, trivial⟩
        case measure => simp [intOf]
    · have HA : (bits .and .i64 ((r : Int) / 2) 1 == 1) = rlBit r 1 := by
        have := and_one (r / 2 ^ 1) (by have : r / 2 ^ 1 ≤ r := Nat.div_le_self _ _; omega)
        rw [show ((r / 2 ^ 1 : Nat) : Int) = (r : Int) / 2 by push_cast; simp] at this
        rw [this]
        exact nat_one _
      cases hb : rlBit r 1
      · rw [hb] at HA
        have HE := Lib.hid (rlTo_no hb)
        clear hb
        go_wp2
        go_roundw
        case rel => exact ⟨2, by omega, rfl, by rw [HE.out], trivial⟩
        case measure => simp [intOf]
      · rw [hb] at HA
        have HE := Lib.hid (rlTo_yes hb)
        clear hb
        go_wp2
        go_roundw
        case rel => exact ⟨2, by omega, rfl, by rw [HE.out, str_snoc]; rfl, trivial⟩
        case measure => simp [intOf]
    · have HA : (bits .and .i64 ((r : Int) / 4) 1 == 1) = rlBit r 2 := by
        have := and_one (r / 2 ^ 2) (by have : r / 2 ^ 2 ≤ r := Nat.div_le_self _ _; omega)
        rw [show ((r / 2 ^ 2 : Nat) : Int) = (r : Int) / 4 by push_cast; simp] at this
        rw [this]
        exact nat_one _
      cases hb : rlBit r 2
      · rw [hb] at HA
        have HE := Lib.hid (rlTo_no hb)
        clear hb
        go_wp2
        go_roundw
        case rel => exact ⟨3, by omega, rfl, by rw [HE.out], trivial⟩
        case measure => simp [intOf]
      · rw [hb] at HA
        have HE := Lib.hid (rlTo_yes hb)
        clear hb
        go_wp2
        go_roundw
        case rel => exact ⟨3, by omega, rfl, by rw [HE.out, str_snoc]; rfl, trivial⟩
        case measure => simp [intOf]
    · by_cases h0 : r = 0
      · subst h0
        go_wp2
        go_ret
        exact ⟨rfl, HB0.out⟩
      · have HE : Hid (rlB r = rlTo r 3) := by show _ = _; unfold rlB; rw [if_neg h0]
        have HN : (rlTo r 3).isEmpty = false := by
          rcases (by omega : r = 1 ∨ r = 2 ∨ r = 3 ∨ r = 4 ∨ r = 5 ∨ r = 6 ∨ r = 7) with rfl | rfl | rfl | rfl | rfl | rfl | rfl <;> decide
        generalize rlTo r 3 = l at *
        go_wp2
        go_ret
        exact ⟨by rw [HE.out]; rfl, HB0.out⟩
end Go.Proofs.YtkegncanmfmmmaaDoor
