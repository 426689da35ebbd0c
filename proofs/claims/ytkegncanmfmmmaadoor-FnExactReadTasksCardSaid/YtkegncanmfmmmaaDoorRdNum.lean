/- Numbers read from texts, plain: what is read is what would be written. -/
import Derived.Test.YtkegncanmfmmmaaDoorNumLaw
import Derived.PlainAid
namespace Go.Proofs.YtkegncanmfmmmaaDoor
set_option linter.unusedVariables false

def sg (s : List UInt8) (m : Nat) : Int := if s.head? = some 45 then -(m : Int) else (m : Int)
/-- the number that a text of at most 18 digits spells just as it would be written -/
def numO (s : List UInt8) : Option Int := match Lib.decFrom 0 (unsigned s) with
  | none => none
  | some m => if Lib.itoa (sg s m) = s ∧ (unsigned s).length ≤ 18 then some (sg s m) else none
theorem numO_none {s : List UInt8} (h : Lib.decFrom 0 (unsigned s) = none) : numO s = none := by unfold numO; rw [h]
theorem numO_yes {s : List UInt8} {m : Nat} (h : Lib.decFrom 0 (unsigned s) = some m) (h2 : Lib.itoa (sg s m) = s) (h3 : (unsigned s).length ≤ 18) : numO s = some (sg s m) := by unfold numO; rw [h]; exact if_pos ⟨h2, h3⟩
theorem numO_no {s : List UInt8} {m : Nat} (h : Lib.decFrom 0 (unsigned s) = some m) (h2 : Lib.itoa (sg s m) ≠ s) : numO s = none := by unfold numO; rw [h]; exact if_neg (fun h => h2 h.1)
theorem numO_iff {s : List UInt8} {n : Int} : numO s = some n ↔ NumIs s n := by
  constructor
  · intro h
    unfold numO at h
    split at h
    · cases h
    · next m hm =>
      split at h
      · next hc => cases h; exact NumIs.of hc.1 hc.2
      · cases h
  · intro h
    have hv := h.value
    have hs := h.short
    have e : sg s n.natAbs = n := by
      unfold sg
      rcases numIs_pos h with ⟨u, rfl, e1, e2, hu⟩ | ⟨u, h1, rfl, e1, e2, hu⟩
      · cases hd : Lib.decDigits u with
        | nil => exact absurd hd (digits_ne u)
        | cons b r =>
          have := digits_head hd
          rw [e1, hd, List.head?_cons, if_neg (fun h => by cases h; have h9 : (45 : UInt8).toNat = 45 := rfl; omega)]
          simp
      · rw [e1, List.head?_cons, if_pos rfl]; omega
    have := numO_yes hv (by rw [e]; exact h.1) hs.2
    rw [e] at this; exact this
theorem numO_long {s : List UInt8} (h : 18 < (unsigned s).length) : numO s = none := by
  cases hn : numO s with
  | none => rfl
  | some n => have := (numO_iff.1 hn).short; omega
theorem numO_empty {s : List UInt8} (h : (unsigned s).length < 1) : numO s = none := by
  cases hn : numO s with
  | none => rfl
  | some n => have := (numO_iff.1 hn).short; omega
/-- what strconv.ParseInt says of a text that is a number -/
theorem numO_parse {s : List UInt8} {n : Int} (h : numO s = some n) : Lib.parseIntB 64 s = .ok n := (numO_iff.1 h).parse
theorem numO_of_parse {s : List UInt8} {v : Int} (h : Lib.parseIntB 64 s = .ok v) (h2 : Lib.itoa v = s) (h3 : (unsigned s).length ≤ 18) : numO s = some v := numO_iff.2 (NumIs.of h2 h3)
theorem numO_not_parse {s : List UInt8} {v : Int} (h : Lib.parseIntB 64 s = .ok v) (h2 : Lib.itoa v ≠ s) : numO s = none := by
  cases hn : numO s with
  | none => rfl
  | some n =>
    have := numO_parse hn
    rw [h] at this
    cases this
    exact absurd (numO_iff.1 hn).1 h2
theorem numO_range {s : List UInt8} {n : Int} (h : numO s = some n) : -1000000000000000000 < n ∧ n < 1000000000000000000 := (numO_iff.1 h).2
theorem numO_itoa {s : List UInt8} {n : Int} (h : numO s = some n) : Lib.itoa n = s := (numO_iff.1 h).1
theorem numO_of {n : Int} (h : -1000000000000000000 < n ∧ n < 1000000000000000000) : numO (Lib.itoa n) = some n := numO_iff.2 ⟨rfl, h⟩
def numV (s : List UInt8) : Int := (numO s).getD 0
def numB (s : List UInt8) : Bool := (numO s).isSome
theorem num_none {s : List UInt8} (h : numO s = none) : numV s = 0 ∧ numB s = false := by unfold numV numB; rw [h]; exact ⟨rfl, rfl⟩
theorem num_some {s : List UInt8} {n : Int} (h : numO s = some n) : numV s = n ∧ numB s = true := by unfold numV numB; rw [h]; exact ⟨rfl, rfl⟩

theorem decFrom_more {l : List UInt8} {b : UInt8} {a m d : Nat} (h : Lib.decFrom a l = some m) (hd : Lib.digitVal b = some d) : Lib.decFrom a (l ++ [b]) = some (m * 10 + d) := by
  rw [decFrom_app _ _ _ _ h]; simp only [Lib.decFrom, hd]
theorem decFrom_bad {b : UInt8} (hd : Lib.digitVal b = none) : ∀ (l r : List UInt8) (a : Nat), Lib.decFrom a (l ++ b :: r) = none
  | [], r, a => by simp only [List.nil_append, Lib.decFrom, hd]
  | c :: l, r, a => by
    rw [List.cons_append]
    simp only [Lib.decFrom]
    cases Lib.digitVal c with
    | none => rfl
    | some d => exact decFrom_bad hd l r _
/-- the digits up to a place -/
def DigTo (t : ByteArray) (k m : Nat) : Prop := Lib.decFrom 0 (t.data.toList.take k) = some m ∧ m < 10 ^ k
theorem DigTo.zero (t : ByteArray) : DigTo t 0 0 := ⟨rfl, by decide⟩
theorem byte_at (t : ByteArray) {k : Nat} (h : k < t.size) : ∃ b, t.data.toList[k]? = some b ∧ (b.toNat : Int) = PlainAid.bt t k := by
  have hl : k < t.data.toList.length := by rw [Array.length_toList]; exact h
  refine ⟨t.data.toList[k], List.getElem?_eq_getElem hl, ?_⟩
  rw [← PlainAid.get_bt t k h]
  simp [ByteArray.getElem_eq_getElem_data]
theorem DigTo.step {t : ByteArray} {k m : Nat} (h : DigTo t k m) (hk : k < t.size) (h1 : 48 ≤ PlainAid.bt t k) (h2 : PlainAid.bt t k ≤ 57) : DigTo t (k + 1) (10 * m + (PlainAid.bt t k).toNat - 48) := by
  obtain ⟨b, hb, e⟩ := byte_at t hk
  have hd : Lib.digitVal b = some (b.toNat - 48) := by unfold Lib.digitVal; rw [if_pos ⟨by omega, by omega⟩]
  have ht : t.data.toList.take (k + 1) = t.data.toList.take k ++ [b] := by rw [List.take_add_one, hb]; rfl
  refine ⟨?_, ?_⟩
  · rw [ht, decFrom_more h.1 hd]; congr 1; omega
  · have := h.2
    rw [Nat.pow_succ]
    omega
theorem DigTo.bad {t : ByteArray} {k : Nat} (hk : k < t.size) (h1 : PlainAid.bt t k < 48 ∨ 57 < PlainAid.bt t k) : Lib.decFrom 0 t.data.toList = none := by
  obtain ⟨b, hb, e⟩ := byte_at t hk
  have hd : Lib.digitVal b = none := by unfold Lib.digitVal; rw [if_neg (by omega)]
  have hl : k < t.data.toList.length := by rw [Array.length_toList]; exact hk
  have ht : t.data.toList = t.data.toList.take k ++ b :: t.data.toList.drop (k + 1) := by
    conv => lhs; rw [← List.take_append_drop k t.data.toList]
    rw [List.drop_eq_getElem_cons hl]
    congr 2
    rw [List.getElem?_eq_getElem hl] at hb
    exact Option.some.inj hb
  rw [ht]; exact decFrom_bad hd _ _ _
theorem DigTo.whole {t : ByteArray} {m : Nat} (h : DigTo t t.size m) : Lib.decFrom 0 t.data.toList = some m := by
  have := h.1
  rwa [List.take_of_length_le (by rw [Array.length_toList]; exact Nat.le_refl _)] at this
theorem pow18 {k m : Nat} (h : m < 10 ^ k) (hk : k ≤ 18) : m < 1000000000000000000 := Nat.lt_of_lt_of_le h (Nat.pow_le_pow_right (by decide : 0 < 10) hk)
/-- a text without its sign -/
theorem unsigned_no {s : ByteArray} (h : s.size = 0 ∨ PlainAid.bt s 0 ≠ 45) : unsigned s.data.toList = s.data.toList ∧ ∀ m, sg s.data.toList m = (m : Int) := by
  by_cases h0 : s.size = 0
  · have : s.data.toList = [] := List.length_eq_zero_iff.1 (by rw [Array.length_toList]; exact h0)
    rw [this]; exact ⟨rfl, fun m => rfl⟩
  · obtain ⟨b, hb, e⟩ := byte_at s (k := 0) (by omega)
    have hne : b.toNat ≠ 45 := by omega
    cases hl : s.data.toList with
    | nil => rw [hl] at hb; cases hb
    | cons c r =>
      rw [hl] at hb
      simp at hb
      subst hb
      refine ⟨by show (if c.toNat = 45 then r else c :: r) = _; rw [if_neg hne], fun m => ?_⟩
      unfold sg
      rw [List.head?_cons, if_neg (fun h => by cases h; exact hne rfl)]
theorem extract_list (s : ByteArray) (a b : Nat) : (s.extract a b).data.toList = (s.data.toList.drop a).take (b - a) := by
  rw [ByteArray.data_extract, Array.toList_extract]
  try simp [List.extract_eq_take_drop]
theorem unsigned_yes {s : ByteArray} (h : 0 < s.size) (h2 : PlainAid.bt s 0 = 45) : unsigned s.data.toList = (s.extract 1 s.size).data.toList ∧ (∀ m, sg s.data.toList m = -(m : Int)) ∧ (s.extract 1 s.size).size = s.size - 1 := by
  obtain ⟨b, hb, e⟩ := byte_at s h
  have hne : b.toNat = 45 := by omega
  have hl2 : s.data.toList.length = s.size := Array.length_toList
  have hx := extract_list s 1 s.size
  cases hl : s.data.toList with
  | nil => rw [hl] at hb; cases hb
  | cons c r =>
    rw [hl] at hb hl2 hx
    simp at hb hl2
    subst hb
    refine ⟨?_, fun m => ?_, ?_⟩
    · show (if c.toNat = 45 then r else c :: r) = _
      rw [if_pos hne, hx, List.drop_succ_cons, List.drop_zero, List.take_of_length_le (by omega)]
    · unfold sg
      rw [List.head?_cons, if_pos]
      congr 1
      exact UInt8.toNat_inj.1 hne
    · rw [show (s.extract 1 s.size).size = (s.extract 1 s.size).data.toList.length from Array.length_toList.symm, hx]
      simp; omega
end Go.Proofs.YtkegncanmfmmmaaDoor
