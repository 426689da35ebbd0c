/- Fractions are ordered: the plain law of FnFractions. No program in sight. -/
import Derived.Test.YtdhobglhjdgboaaDoorCompare
namespace Go.Proofs.YtdhobglhjdgboaaDoor
set_option linter.unusedVariables false

theorem cf_val {a b : Fraction} (ha : fracOk a = true) (hb : fracOk b = true) : cfN a b = sgn (a.num * b.den) (b.num * a.den) ∧ cfCode a b = 0 := by
  unfold cfN cfCode
  rw [ha, hb]; exact ⟨rfl, rfl⟩
theorem sgn_neg (x y : Int) : sgn x y = - sgn y x := by
  rcases sgn_cases x y with ⟨h1, e1⟩ | ⟨h1, h2, e1⟩ | ⟨h1, h2, e1⟩ <;> rcases sgn_cases y x with ⟨h3, e2⟩ | ⟨h3, h4, e2⟩ | ⟨h3, h4, e2⟩ <;> omega
theorem sgn_zero {x y : Int} : sgn x y = 0 ↔ x = y := by
  rcases sgn_cases x y with ⟨h1, e1⟩ | ⟨h1, h2, e1⟩ | ⟨h1, h2, e1⟩ <;> omega
theorem sgn_le {x y : Int} : sgn x y ≤ 0 ↔ x ≤ y := by
  rcases sgn_cases x y with ⟨h1, e1⟩ | ⟨h1, h2, e1⟩ | ⟨h1, h2, e1⟩ <;> omega
theorem frac_parts {f : Fraction} (h : fracOk f = true) : ∃ a b : Nat, f = ⟨a, b⟩ ∧ 0 < b ∧ Nat.gcd a b = 1 := by
  rcases fracOk_cases f with ⟨_, ao⟩ | ⟨_, _, ao⟩ | ⟨a, b, e, h1, h2, h3, _, _, h4⟩
  · rw [ao] at h; cases h
  · rw [ao] at h; cases h
  · rw [h4] at h; exact ⟨a, b, e, h2, of_decide_eq_true h⟩
theorem cf_neg {a b : Fraction} (ha : fracOk a = true) (hb : fracOk b = true) : cfN a b = - cfN b a := by
  rw [(cf_val ha hb).1, (cf_val hb ha).1]; exact sgn_neg _ _
theorem cf_range (a b : Fraction) : -1 ≤ cfN a b ∧ cfN a b ≤ 1 := by
  unfold cfN
  split
  · exact sgn_range _ _
  · omega
theorem cross_same {an ad bn bd : Nat} (h1 : Nat.gcd an ad = 1) (h2 : Nat.gcd bn bd = 1) (h : an * bd = bn * ad) (ha : 0 < ad) (hb : 0 < bd) : an = bn ∧ ad = bd := by
  have d1 : ad ∣ bd := by
    have h3 : ad ∣ an * bd := by rw [h]; exact Nat.dvd_mul_left _ _
    have h4 : Nat.Coprime ad an := by rw [Nat.coprime_comm]; exact h1
    exact h4.dvd_of_dvd_mul_left h3
  have d2 : bd ∣ ad := by
    have h3 : bd ∣ bn * ad := by rw [← h]; exact Nat.dvd_mul_left _ _
    have h4 : Nat.Coprime bd bn := by rw [Nat.coprime_comm]; exact h2
    exact h4.dvd_of_dvd_mul_left h3
  have e : ad = bd := Nat.dvd_antisymm d1 d2
  subst e
  exact ⟨Nat.eq_of_mul_eq_mul_right ha h, rfl⟩
theorem cf_eq {a b : Fraction} (ha : fracOk a = true) (hb : fracOk b = true) : (decide (a.num = b.num) && decide (a.den = b.den)) = decide (cfN a b = 0) := by
  rw [(cf_val ha hb).1]
  obtain ⟨an, ad, rfl, ha0, hga⟩ := frac_parts ha
  obtain ⟨bn, bd, rfl, hb0, hgb⟩ := frac_parts hb
  dsimp only
  rw [Bool.eq_iff_iff, Bool.and_eq_true, decide_eq_true_eq, decide_eq_true_eq, decide_eq_true_eq, sgn_zero]
  constructor
  · rintro ⟨e1, e2⟩; rw [e1, e2]
  · intro e
    have e2 : an * bd = bn * ad := by
      have h1 : ((an * bd : Nat) : Int) = ((bn * ad : Nat) : Int) := by push_cast; exact e
      omega
    have := cross_same hga hgb e2 ha0 hb0
    omega
theorem cross_trans {an ad bn bd cn cd : Nat} (hb : 0 < bd) (h1 : an * bd ≤ bn * ad) (h2 : bn * cd ≤ cn * bd) : an * cd ≤ cn * ad := by
  have h3 : an * bd * cd ≤ bn * ad * cd := Nat.mul_le_mul_right cd h1
  have h4 : bn * cd * ad ≤ cn * bd * ad := Nat.mul_le_mul_right ad h2
  have e1 : an * bd * cd = an * cd * bd := Nat.mul_right_comm _ _ _
  have e2 : bn * ad * cd = bn * cd * ad := Nat.mul_right_comm _ _ _
  have e3 : cn * bd * ad = cn * ad * bd := Nat.mul_right_comm _ _ _
  exact Nat.le_of_mul_le_mul_right (show an * cd * bd ≤ cn * ad * bd by omega) hb
theorem cf_trans {a b c : Fraction} (ha : fracOk a = true) (hb : fracOk b = true) (hc : fracOk c = true) (h1 : cfN a b ≤ 0) (h2 : cfN b c ≤ 0) : cfN a c ≤ 0 := by
  rw [(cf_val ha hb).1, sgn_le] at h1
  rw [(cf_val hb hc).1, sgn_le] at h2
  rw [(cf_val ha hc).1, sgn_le]
  obtain ⟨an, ad, rfl, ha0, _⟩ := frac_parts ha
  obtain ⟨bn, bd, rfl, hb0, _⟩ := frac_parts hb
  obtain ⟨cn, cd, rfl, hc0, _⟩ := frac_parts hc
  dsimp only at h1 h2 ⊢
  have e1 : an * bd ≤ bn * ad := by
    have : ((an * bd : Nat) : Int) ≤ ((bn * ad : Nat) : Int) := by push_cast; exact h1
    omega
  have e2 : bn * cd ≤ cn * bd := by
    have : ((bn * cd : Nat) : Int) ≤ ((cn * bd : Nat) : Int) := by push_cast; exact h2
    omega
  have e3 := cross_trans hb0 e1 e2
  have : ((an * cd : Nat) : Int) ≤ ((cn * ad : Nat) : Int) := by omega
  push_cast at this; exact this
end Go.Proofs.YtdhobglhjdgboaaDoor
