/- The decimal form of a number: its digits are put ahead one by one. No program in sight. -/
import Derived.Lib.ItoaNum
import Derived.Lib.ItoaMem
import Derived.Lib.ItoaLen
import Derived.Test.YtkegncanmfmmmaaDoorWords2
namespace Go.Proofs.YtkegncanmfmmmaaDoor
open Go.RowKit
set_option linter.unusedVariables false

/-- m is what is left of u, ds the digits that have been taken from its end -/
def DecSt (u m : Nat) (ds : List UInt8) : Prop := (m = 0 → ds = Lib.decDigits u) ∧ (0 < m → Lib.decDigits u = Lib.decDigits m ++ ds)
theorem dec_small {m : Nat} (h : m < 10) : Lib.decDigits m = [UInt8.ofNat (48 + m)] := by rw [Lib.decDigits, dif_pos h]
theorem dec_big {m : Nat} (h : ¬ m < 10) : Lib.decDigits m = Lib.decDigits (m / 10) ++ [UInt8.ofNat (48 + m % 10)] := by rw [Lib.decDigits, dif_neg h]
theorem DecSt.start {u : Nat} (h : 0 < u) : DecSt u u [] := ⟨fun h2 => absurd h2 (by omega), fun _ => by simp⟩
theorem DecSt.step {u m : Nat} {ds : List UInt8} (h : DecSt u m ds) (hm : 0 < m) : DecSt u (m / 10) (UInt8.ofNat (48 + m % 10) :: ds) := by
  have e := h.2 hm
  by_cases h10 : m < 10
  · rw [dec_small h10] at e
    have h0 : m / 10 = 0 := Nat.div_eq_of_lt h10
    have h1 : m % 10 = m := Nat.mod_eq_of_lt h10
    rw [h0, h1]
    exact ⟨fun _ => by rw [e]; rfl, fun h2 => absurd h2 (by omega)⟩
  · rw [dec_big h10] at e
    exact ⟨fun h2 => absurd h2 (by omega), fun _ => by rw [e]; simp⟩
/-- at most 20 digits -/
theorem DecSt.len {u m : Nat} {ds : List UInt8} (h : DecSt u m ds) (hu : u < 18446744073709551616) : ds.length ≤ 20 := by
  have hn : (Lib.decDigits u).length ≤ 20 := by
    rw [Lib.decDigits_length]
    exact Lib.nDigits_le20 u hu
  rcases Nat.eq_zero_or_pos m with h0 | h0
  · rw [h.1 h0]; exact hn
  · rw [h.2 h0, List.length_append] at hn; omega
end Go.Proofs.YtkegncanmfmmmaaDoor
