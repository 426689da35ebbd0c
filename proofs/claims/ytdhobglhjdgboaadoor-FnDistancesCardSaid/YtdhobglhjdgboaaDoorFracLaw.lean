/- Fractions compared by their parts, as a plain law. No program in sight. -/
import Derived.Test.YtdhobglhjdgboaaDoorWords2
namespace Go.Proofs.YtdhobglhjdgboaaDoor
set_option linter.unusedVariables false

theorem nat_lt_parts {an ad bn bd : Nat} (ha : 0 < ad) (hb : 0 < bd) (h : an / ad < bn / bd) : an * bd < bn * ad := by
  have h1 : an < (an / ad + 1) * ad := by have := Nat.lt_div_mul_add (a := an) ha; rw [Nat.add_mul]; omega
  have h2 : bn / bd * bd ≤ bn := Nat.div_mul_le_self _ _
  have h3 : an * bd < (an / ad + 1) * ad * bd := Nat.mul_lt_mul_of_pos_right h1 hb
  have h4 : (an / ad + 1) * ad * bd ≤ bn / bd * bd * ad := by
    rw [Nat.mul_right_comm]; exact Nat.mul_le_mul_right ad (Nat.mul_le_mul_right bd h)
  exact Nat.lt_of_lt_of_le h3 (Nat.le_trans h4 (Nat.mul_le_mul_right ad h2))
theorem nat_lt_same {an ad bn bd : Nat} (h : an / ad = bn / bd) : (an * bd < bn * ad ↔ (an % ad) * bd < (bn % bd) * ad) := by
  have h1 : an / ad * ad + an % ad = an := Nat.div_add_mod' an ad
  have h2 : bn / bd * bd + bn % bd = bn := Nat.div_add_mod' bn bd
  have e1 : (an / ad * ad + an % ad) * bd = an / ad * ad * bd + an % ad * bd := Nat.add_mul _ _ _
  have e2 : (bn / bd * bd + bn % bd) * ad = bn / bd * bd * ad + bn % bd * ad := Nat.add_mul _ _ _
  have e3 : bn / bd * bd * ad = an / ad * ad * bd := by rw [← h, Nat.mul_right_comm]
  rw [h1] at e1
  rw [h2] at e2
  omega
end Go.Proofs.YtdhobglhjdgboaaDoor
