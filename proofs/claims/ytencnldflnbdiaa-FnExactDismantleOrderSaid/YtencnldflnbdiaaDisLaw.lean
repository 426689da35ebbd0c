/- DismantleOrder: the plain law: which crane is taken next, out of the places that are left. No program in sight. -/
import Derived.Test.YtencnldflnbdiaaSiteLaw
import Derived.Test.YtencnldflnbdiaaFind
namespace Go.Proofs.Ytencnldflnbdiaa
open Go.RowKit
set_option linter.unusedVariables false

section
variable {l : List Nat} {q : Nat → Bool} {b : Nat}
def Inc (l : List Nat) : Prop := l.Pairwise (· < ·)
theorem Inc.at_lt (h : Inc l) {i j a c : Nat} (hi : l[i]? = some a) (hj : l[j]? = some c) (hij : i < j) : a < c := by
  obtain ⟨hi1, rfl⟩ := List.getElem?_eq_some_iff.1 hi
  obtain ⟨hj1, rfl⟩ := List.getElem?_eq_some_iff.1 hj
  exact List.pairwise_iff_getElem.1 h i j hi1 hj1 hij
/-- the first place at which the test says yes, or 0 -/
def pickN (q : Nat → Bool) (l : List Nat) : Nat := (fIdx q l).toNat
theorem pick_lt (h : l ≠ []) : pickN q l < l.length := by
  have h0 : 0 < l.length := List.length_pos_iff.2 h
  unfold pickN
  rcases fIdx_cases q l with ⟨e, _⟩ | ⟨k, x, e, hk, _⟩
  · rw [e]; exact h0
  · rw [e]; exact hk
theorem pick_hit (h : Inc l) (hb : b ∈ l) (hq : q b = true) (hmin : ∀ j, j < b → j ∈ l → q j = false) : l[pickN q l]? = some b := by
  obtain ⟨i, hi, hbi⟩ := List.getElem_of_mem hb
  have hib : l[i]? = some b := by rw [← hbi]; exact List.getElem?_eq_getElem hi
  rcases fIdx_cases q l with ⟨e, h2, _⟩ | ⟨k, x, e, hk, hx, hqx, hno, _⟩
  · have := noTo_iff.1 h2 i hi _ hib; rw [hq] at this; cases this
  · have hxb : x = b := by
      rcases Nat.lt_trichotomy x b with h1 | h1 | h1
      · have := hmin x h1 (List.mem_of_getElem? hx); rw [hqx] at this; cases this
      · exact h1
      · have : i < k := by
          rcases Nat.lt_trichotomy i k with h2 | h2 | h2
          · exact h2
          · subst h2; rw [hib] at hx; cases hx; omega
          · have := h.at_lt hx hib h2; omega
        have := noTo_iff.1 hno i this _ hib; rw [hq] at this; cases this
    unfold pickN; rw [e]; subst hxb; simpa using hx
theorem pick_none (h : Inc l) (hn : ∀ j, j ∈ l → q j = false) (hb : b ∈ l) (hmin : ∀ j, j < b → ¬ j ∈ l) : l[pickN q l]? = some b := by
  have e : fIdx q l = -1 := fIdx_none (noTo_iff.2 fun j hj y hy => hn y (List.mem_of_getElem? hy))
  unfold pickN; rw [e]
  cases l with
  | nil => cases hb
  | cons x xs =>
    show some x = some b
    rcases List.mem_cons.1 hb with rfl | hb2
    · rfl
    · have : x < b := (List.pairwise_cons.1 h).1 b hb2
      exact absurd List.mem_cons_self (hmin x this)
theorem Inc.erase (h : Inc l) (i : Nat) : Inc (l.eraseIdx i) := List.Pairwise.sublist (List.eraseIdx_sublist l i) h
theorem mem_erase : ∀ (l : List Nat) (i j b : Nat), Inc l → l[i]? = some b → (j ∈ l.eraseIdx i ↔ j ∈ l ∧ j ≠ b)
  | [], i, j, b, _, h => by simp at h
  | x :: xs, 0, j, b, h, hb => by
    simp at hb; subst hb
    have h1 := (List.pairwise_cons.1 h).1
    simp only [List.eraseIdx_cons_zero, List.mem_cons]
    constructor
    · intro hj; exact ⟨.inr hj, by have := h1 j hj; omega⟩
    · rintro ⟨rfl | hj, hne⟩
      · exact absurd rfl hne
      · exact hj
  | x :: xs, i + 1, j, b, h, hb => by
    have h1 := List.pairwise_cons.1 h
    have hb' : xs[i]? = some b := by simpa using hb
    have hbx : x < b := h1.1 b (List.mem_of_getElem? hb')
    have ih := mem_erase xs i j b h1.2 hb'
    simp only [List.eraseIdx_cons_succ, List.mem_cons, ih]
    constructor
    · rintro (rfl | ⟨h2, h3⟩)
      · exact ⟨.inl rfl, by omega⟩
      · exact ⟨.inr h2, h3⟩
    · rintro ⟨rfl | h2, h3⟩
      · exact .inl rfl
      · exact .inr ⟨h2, h3⟩
end

/-- crane c stands lower than crane d, and within d's reach -/
def takesB (d c : CV) : Bool := decide (c.1.height < d.1.height) && decide (sqD c.1.ax c.1.ay d.1.ax d.1.ay ≤ d.1.jib * d.1.jib)
def takesAt (cs : List CV) (k i : Nat) : Bool := match cs[k]? with | some d => (match cs[i]? with | some c => takesB d c | none => false) | none => false
theorem takesAt_of {cs : List CV} {k i : Nat} {d c : CV} (h1 : cs[k]? = some d) (h2 : cs[i]? = some c) : takesAt cs k i = takesB d c := by simp only [takesAt, h1, h2]
theorem sqD_comm (a b c d : Int) : sqD a b c d = sqD c d a b := by
  unfold sqD
  have h1 : (a - c) * (a - c) = (c - a) * (c - a) := by rw [← Int.neg_sub c a, Int.neg_mul_neg]
  have h2 : (b - d) * (b - d) = (d - b) * (d - b) := by rw [← Int.neg_sub d b, Int.neg_mul_neg]
  rw [h1, h2]
/-- another crane that is left takes crane i -/
def helpN (cs : List CV) (l : List Nat) (i : Nat) : Bool := l.any fun k => !decide (k = i) && takesAt cs k i
/-- (the places that are left, the places that were taken), behind k rounds -/
def disTo (cs : List CV) (n : Nat) : Nat → List Nat × List Nat
  | 0 => (List.range n, [])
  | k + 1 => ((disTo cs n k).1.eraseIdx (pickN (helpN cs (disTo cs n k).1) (disTo cs n k).1), (disTo cs n k).2 ++ [((disTo cs n k).1[pickN (helpN cs (disTo cs n k).1) (disTo cs n k).1]?).getD 0])
abbrev leftN (cs : List CV) (n k : Nat) : List Nat := (disTo cs n k).1
abbrev nextN (cs : List CV) (n k : Nat) : Nat := pickN (helpN cs (leftN cs n k)) (leftN cs n k)
def ints (l : List Nat) : List Int := l.map fun j : Nat => (j : Int)
theorem ints_len (l : List Nat) : (ints l).length = l.length := by simp [ints]
theorem ints_at {l : List Nat} {i j : Nat} (h : l[i]? = some j) : (ints l)[i]? = some (j : Int) := by simp [ints, h]
theorem ints_at' {l : List Nat} {i : Nat} {x : Int} (h : (ints l)[i]? = some x) : ∃ j, l[i]? = some j ∧ x = (j : Int) := by
  simp only [ints, List.getElem?_map] at h
  cases e : l[i]? with
  | none => rw [e] at h; cases h
  | some j => rw [e] at h; exact ⟨j, rfl, by simpa using h.symm⟩
theorem ints_erase : ∀ (l : List Nat) (i : Nat), ints (l.eraseIdx i) = (ints l).eraseIdx i
  | [], i => by simp [ints]
  | x :: xs, 0 => rfl
  | x :: xs, i + 1 => by
    have ih := ints_erase xs i
    unfold ints at *
    simp [ih]
theorem ints_snoc (l : List Nat) (j : Nat) : ints (l ++ [j]) = ints l ++ [(j : Int)] := by simp [ints]
section
variable (cs : List CV) (n : Nat)
theorem left_inc : ∀ k, Inc (leftN cs n k)
  | 0 => List.pairwise_lt_range
  | k + 1 => (left_inc k).erase _
theorem left_lt : ∀ k, ∀ j ∈ leftN cs n k, j < n
  | 0 => fun j hj => by simpa [leftN, disTo] using hj
  | k + 1 => fun j hj => left_lt k j (List.mem_of_mem_eraseIdx hj)
theorem left_len : ∀ k, k ≤ n → (leftN cs n k).length = n - k
  | 0 => fun _ => by simp [leftN, disTo]
  | k + 1 => fun h => by
    have ih := left_len k (by omega)
    have hne : leftN cs n k ≠ [] := by intro e; rw [e] at ih; simp at ih; omega
    show ((leftN cs n k).eraseIdx (nextN cs n k)).length = _
    rw [List.length_eraseIdx_of_lt (pick_lt hne), ih]; omega
theorem taken_len : ∀ k, (disTo cs n k).2.length = k
  | 0 => rfl
  | k + 1 => by simp [disTo, taken_len k]
theorem next_lt {k : Nat} (h : k < n) : nextN cs n k < n - k := by
  have hl := left_len cs n k (by omega)
  rw [← hl]
  exact pick_lt (by intro e; rw [e] at hl; simp at hl; omega)
theorem taken_step {k b : Nat} (h : (leftN cs n k)[nextN cs n k]? = some b) : (disTo cs n (k + 1)).2 = (disTo cs n k).2 ++ [b] := by
  show _ ++ [((leftN cs n k)[nextN cs n k]?).getD 0] = _
  rw [h]; rfl
theorem left_step {k b : Nat} (h : (leftN cs n k)[nextN cs n k]? = some b) (j : Nat) : j ∈ leftN cs n (k + 1) ↔ j ∈ leftN cs n k ∧ j ≠ b := mem_erase _ _ j b (left_inc cs n k) h
end
def dsXs (cs : List CV) : List Int := if siteOk cs then ints (disTo cs cs.length cs.length).2 else []
def dsCode (cs : List CV) : Int := if siteOk cs then 0 else 1
theorem dsXs_len (cs : List CV) : (dsXs cs).length ≤ cs.length := by
  unfold dsXs; split
  · rw [ints_len, taken_len]; exact Nat.le_refl _
  · exact Nat.zero_le _
/-- a search over the list of numbers is a search over the list of places -/
theorem fIdx_ints (q : Int → Bool) (l : List Nat) : fIdx q (ints l) = fIdx (fun j : Nat => q (j : Int)) l := by
  unfold fIdx ints
  rw [List.findIdx?_map]; rfl
end Go.Proofs.Ytencnldflnbdiaa
