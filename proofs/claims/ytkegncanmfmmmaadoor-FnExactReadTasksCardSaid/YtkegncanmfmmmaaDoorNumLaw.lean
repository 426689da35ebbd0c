/- Decimal numbers, plain: what is read is what would be written. -/
import Derived.Lib.ItoaNum
import Derived.Lib.ItoaMem
import Derived.Lib.ItoaLen
import Derived.Lib.ParseIntBTie
import Derived.Lib.AtoiAllCases
import Derived.Lib.Atoi
namespace Go.Proofs.YtkegncanmfmmmaaDoor
set_option linter.unusedVariables false

theorem decFrom_app : ∀ (l r : List UInt8) (acc m : Nat), Lib.decFrom acc l = some m → Lib.decFrom acc (l ++ r) = Lib.decFrom m r
  | [], r, acc, m, h => by simp only [Lib.decFrom, Option.some.injEq] at h; subst h; rfl
  | b :: l, r, acc, m, h => by
    rw [List.cons_append]
    simp only [Lib.decFrom] at h ⊢
    cases hd : Lib.digitVal b with
    | none => rw [hd] at h; cases h
    | some d => rw [hd] at h; exact decFrom_app l r _ m h
theorem digit_at {x : Nat} (h : x < 10) : Lib.digitVal (UInt8.ofNat (48 + x)) = some x := by
  have e : (UInt8.ofNat (48 + x)).toNat = 48 + x := by rw [UInt8.toNat_ofNat']; omega
  unfold Lib.digitVal
  rw [e, if_pos ⟨by omega, by omega⟩]
  congr 1
  omega
theorem dec_one {u : Nat} (h : u < 10) : Lib.decDigits u = [UInt8.ofNat (48 + u)] := by rw [Lib.decDigits, dif_pos h]
theorem dec_more {u : Nat} (h : ¬ u < 10) : Lib.decDigits u = Lib.decDigits (u / 10) ++ [UInt8.ofNat (48 + u % 10)] := by rw [Lib.decDigits, dif_neg h]
theorem decFrom_digits (u : Nat) : Lib.decFrom 0 (Lib.decDigits u) = some u := by
  induction u using Nat.strongRecOn with
  | _ u ih =>
    by_cases h : u < 10
    · rw [dec_one h]
      simp only [Lib.decFrom, digit_at h]
      simp
    · rw [dec_more h, decFrom_app _ _ _ _ (ih (u / 10) (by omega))]
      simp only [Lib.decFrom, digit_at (Nat.mod_lt u (by decide : 0 < 10))]
      congr 1
      omega
theorem digits_ne (u : Nat) : Lib.decDigits u ≠ [] := by
  by_cases h : u < 10
  · rw [dec_one h]; simp
  · rw [dec_more h]; simp
theorem digits_len {u : Nat} (h : u < 10 ^ 18) : (Lib.decDigits u).length ≤ 18 := by
  rw [Lib.decDigits_length]
  rcases Nat.lt_or_ge 18 (Lib.nDigits u) with h9 | h9
  · exfalso
    have e : ∀ k u, k + 1 ≤ Lib.nDigits u → 1 ≤ k → 10 ^ k ≤ u := by
      intro k
      induction k with
      | zero => intro u _ h; omega
      | succ k ih =>
        intro u hk _
        have hb : ¬ u < 10 := fun hs => by rw [Lib.nDigits_small hs] at hk; omega
        rw [Lib.nDigits_big hb] at hk
        by_cases hk0 : k = 0
        · subst hk0; omega
        · have := ih (u / 10) (by omega) (by omega)
          rw [Nat.pow_succ]
          omega
    have := e 18 u (by omega) (by omega)
    omega
  · exact h9
theorem digits_lt {u : Nat} (h : (Lib.decDigits u).length ≤ 18) : u < 10 ^ 18 := by
  have := Lib.lt_pow_nDigits u
  rw [Lib.decDigits_length] at h
  exact Nat.lt_of_lt_of_le this (Nat.pow_le_pow_right (by decide) h)
theorem digits_head {u : Nat} {b : UInt8} {r : List UInt8} (h : Lib.decDigits u = b :: r) : 48 ≤ b.toNat ∧ b.toNat ≤ 57 := by
  have h1 := decFrom_digits u
  rw [h] at h1
  simp only [Lib.decFrom] at h1
  cases hd : Lib.digitVal b with
  | none => rw [hd] at h1; cases h1
  | some d => have := Lib.digitVal_eq hd; omega
theorem itoa_cases (n : Int) : (∃ u : Nat, n = (u : Int) ∧ Lib.itoa n = Lib.decDigits u) ∨ (∃ u : Nat, 1 ≤ u ∧ n = -(u : Int) ∧ Lib.itoa n = 45 :: Lib.decDigits u) := by
  rcases Int.lt_or_le n 0 with h | h
  · obtain ⟨u, hu⟩ := Int.eq_ofNat_of_zero_le (show 0 ≤ -n by omega)
    have e : n = -(u : Int) := by omega
    subst e
    exact .inr ⟨u, by omega, rfl, Lib.itoa_neg u (by omega)⟩
  · obtain ⟨u, rfl⟩ := Int.eq_ofNat_of_zero_le h
    exact .inl ⟨u, rfl, Lib.itoa_nonneg u⟩
/-- the text s is the number n, of at most 18 digits -/
def NumIs (s : List UInt8) (n : Int) : Prop := Lib.itoa n = s ∧ (-1000000000000000000 < n ∧ n < 1000000000000000000)
/-- the digits behind a sign -/
def unsigned : List UInt8 → List UInt8
  | [] => []
  | b :: r => if b.toNat = 45 then r else b :: r
theorem numIs_pos {s : List UInt8} {n : Int} (h : NumIs s n) : (∃ u : Nat, n = (u : Int) ∧ s = Lib.decDigits u ∧ unsigned s = s ∧ u < 10 ^ 18) ∨ (∃ u : Nat, 1 ≤ u ∧ n = -(u : Int) ∧ s = 45 :: Lib.decDigits u ∧ unsigned s = Lib.decDigits u ∧ u < 10 ^ 18) := by
  obtain ⟨h1, h2⟩ := h
  rcases itoa_cases n with ⟨u, rfl, e⟩ | ⟨u, hu, rfl, e⟩
  · rw [e] at h1
    refine .inl ⟨u, rfl, h1.symm, ?_, by omega⟩
    cases hs : s with
    | nil => rfl
    | cons b r =>
      have := digits_head (h1.trans hs)
      show (if b.toNat = 45 then r else b :: r) = b :: r
      rw [if_neg (by omega)]
  · rw [e] at h1
    refine .inr ⟨u, hu, rfl, h1.symm, ?_, by omega⟩
    rw [← h1]
    rfl
theorem NumIs.same {s : List UInt8} {n m : Int} (h : NumIs s n) (k : NumIs s m) : n = m := by
  rcases numIs_pos h with ⟨u, rfl, e1, e2, _⟩ | ⟨u, hu, rfl, e1, e2, _⟩ <;> rcases numIs_pos k with ⟨v, rfl, e3, e4, _⟩ | ⟨v, hv, rfl, e3, e4, _⟩
  · have a := decFrom_digits u; have b := decFrom_digits v
    rw [← e1, e3, b] at a
    have := Option.some.inj a
    omega
  · have := digits_head (e1.symm.trans e3)
    have h9 : (45 : UInt8).toNat = 45 := rfl
    omega
  · have := digits_head (e3.symm.trans e1)
    have h9 : (45 : UInt8).toNat = 45 := rfl
    omega
  · have a := decFrom_digits u; have b := decFrom_digits v
    rw [← e2, e4, b] at a
    have := Option.some.inj a
    omega
theorem NumIs.short {s : List UInt8} {n : Int} (h : NumIs s n) : 1 ≤ (unsigned s).length ∧ (unsigned s).length ≤ 18 := by
  rcases numIs_pos h with ⟨u, _, e1, e2, hu⟩ | ⟨u, _, _, e1, e2, hu⟩
  · rw [e2, e1]; exact ⟨List.length_pos_iff.2 (digits_ne u), digits_len hu⟩
  · rw [e2]; exact ⟨List.length_pos_iff.2 (digits_ne u), digits_len hu⟩
/-- a text of at most 18 digits that is written as it stands is a number -/
theorem NumIs.of {s : List UInt8} {n : Int} (h : Lib.itoa n = s) (hs : (unsigned s).length ≤ 18) : NumIs s n := by
  refine ⟨h, ?_⟩
  rcases itoa_cases n with ⟨u, rfl, e⟩ | ⟨u, hu, rfl, e⟩
  · have e2 : unsigned s = Lib.decDigits u := by
      rw [← h, e]
      cases hd : Lib.decDigits u with
      | nil => rfl
      | cons b r => have := digits_head hd; show (if b.toNat = 45 then r else b :: r) = b :: r; rw [if_neg (by omega)]
    rw [e2] at hs
    have := digits_lt hs
    omega
  · have e2 : unsigned s = Lib.decDigits u := by rw [← h, e]; rfl
    rw [e2] at hs
    have := digits_lt hs
    omega
theorem NumIs.value {s : List UInt8} {n : Int} (h : NumIs s n) : Lib.decFrom 0 (unsigned s) = some n.natAbs := by
  rcases numIs_pos h with ⟨u, rfl, e1, e2, _⟩ | ⟨u, _, rfl, e1, e2, _⟩
  · rw [e2, e1, decFrom_digits]; simp
  · rw [e2, decFrom_digits]; simp
theorem uint10_of : ∀ (l : List UInt8) (acc n : Nat), Lib.decFrom acc l = some n → n < 10 ^ 18 → Lib.parseUint10 acc l = .ok n
  | [], acc, n, h, _ => by simp only [Lib.decFrom, Option.some.injEq] at h; subst h; rfl
  | b :: l, acc, n, h, hn => by
    simp only [Lib.decFrom] at h
    cases hd : Lib.digitVal b with
    | none => rw [hd] at h; cases h
    | some d =>
      rw [hd] at h
      obtain ⟨h1, h2, h3⟩ := Lib.digitVal_eq hd
      have hle : acc * 10 + d ≤ n := by
        have : ∀ (l : List UInt8) (a m : Nat), Lib.decFrom a l = some m → a ≤ m := by
          intro l
          induction l with
          | nil => intro a m h; simp only [Lib.decFrom, Option.some.injEq] at h; omega
          | cons c l ih =>
            intro a m h
            simp only [Lib.decFrom] at h
            cases hc : Lib.digitVal c with
            | none => rw [hc] at h; cases h
            | some d => rw [hc] at h; have := ih _ _ h; omega
        exact this l _ _ h
      unfold Lib.parseUint10
      rw [if_pos ⟨h1, h2⟩, if_neg (by omega), if_neg (by omega), ← h3]
      exact uint10_of l _ n h hn
theorem NumIs.parse {s : List UInt8} {n : Int} (h : NumIs s n) : Lib.parseIntB 64 s = .ok n := by
  rw [Lib.parseIntB_64]
  have hb := h.2
  rcases numIs_pos h with ⟨u, rfl, e1, e2, hu⟩ | ⟨u, _, rfl, e1, e2, hu⟩
  · cases hs : s with
    | nil => exact absurd (e1.symm.trans hs) (digits_ne u)
    | cons b r =>
      have hd := digits_head (e1.symm.trans hs)
      rw [Lib.atoiAll_plain b r (by omega) (by omega), ← hs, e1]
      unfold Lib.parseMag
      rw [if_neg (digits_ne u), uint10_of _ _ _ (decFrom_digits u) hu]
      unfold Lib.signless
      dsimp only
      rw [if_neg (by omega)]
  · rw [e1, Lib.atoiAll_minus]
    unfold Lib.parseMag
    rw [if_neg (digits_ne u), uint10_of _ _ _ (decFrom_digits u) hu]
    unfold Lib.signed
    dsimp only
    rw [if_neg (by omega)]
end Go.Proofs.YtkegncanmfmmmaaDoor
