/- What CoveredHours hands back: chXs. Sorted lists without doubles; a number put into one. -/
import Derived.Test.YtdhobglhjdgboaaHoursOf
import Derived.Test.YtdhobglhjdgboaaSets
namespace Go.Proofs.Ytdhobglhjdgboaa
open Go.RowKit
set_option linter.unusedVariables false

/-- shift j is one of that role on that crane and covers the hour -/
def covJ (xs : List Shift) (c r h : Int) (j : Nat) : Bool := match xs[j]? with | some x => decide (x.crane = c) && (decide (x.role = r) && (decide (x.start ≤ h) && decide (h < x.stop))) | none => false
def hasR (xs : List Shift) (c r h : Int) (k : Nat) : Bool := (List.range k).any (covJ xs c r h)
def covB (xs : List Shift) (c h : Int) : Bool := hasR xs c 1 h xs.length && hasR xs c 2 h xs.length
def chL (xs : List Shift) (c : Int) : List Int := ((List.range 240013).map Int.ofNat).filter fun h => covB xs c h
def chXs (xs : List Shift) (c : Int) : List Int := if shCode xs c 5 = 0 then chL xs c else []
section
variable {xs : List Shift} {c r h : Int} {k : Nat}
theorem covJ_of {x : Shift} (hx : xs[k]? = some x) : covJ xs c r h k = (decide (x.crane = c) && (decide (x.role = r) && (decide (x.start ≤ h) && decide (h < x.stop)))) := by simp only [covJ, hx]
theorem hasR_zero : hasR xs c r h 0 = false := rfl
theorem hasR_succ : hasR xs c r h (k + 1) = (hasR xs c r h k || covJ xs c r h k) := by simp [hasR, List.range_succ]
theorem hasR_iff : hasR xs c r h k = true ↔ ∃ j, j < k ∧ covJ xs c r h j = true := by simp [hasR]
theorem range_pw (n : Nat) : ((List.range n).map Int.ofNat).Pairwise (· < ·) := List.pairwise_map.2 (List.pairwise_lt_range.imp fun h => Int.ofNat_lt.2 h)
theorem chL_pw : (chL xs c).Pairwise (· < ·) := (range_pw _).filter _
theorem chL_len : (chL xs c).length ≤ 240013 := by
  have := List.length_filter_le (fun h => covB xs c h) ((List.range 240013).map Int.ofNat)
  rw [List.length_map, List.length_range] at this
  exact this
theorem chXs_len : (chXs xs c).length ≤ 240013 := by
  unfold chXs; split
  · exact chL_len
  · simp
theorem mem_chL (hok : xs.any badShift = false) : h ∈ chL xs c ↔ covB xs c h = true := by
  unfold chL
  rw [List.mem_filter]
  refine ⟨(·.2), fun hc => ⟨?_, hc⟩⟩
  unfold covB at hc
  rw [Bool.and_eq_true] at hc
  obtain ⟨j, hj, hcj⟩ := hasR_iff.1 hc.1
  have hx : xs[j]? = some xs[j] := List.getElem?_eq_getElem hj
  rw [covJ_of hx] at hcj
  simp only [Bool.and_eq_true, decide_eq_true_eq] at hcj
  obtain ⟨_, _, _, f4, f5⟩ := fOk_iff (fOk_all hok hx)
  rw [List.mem_map]
  exact ⟨h.toNat, List.mem_range.2 (by omega), by show ((h.toNat : Nat) : Int) = h; omega⟩
theorem pw_eq : ∀ {l l' : List Int}, l.Pairwise (· < ·) → l'.Pairwise (· < ·) → (∀ x, x ∈ l ↔ x ∈ l') → l = l'
  | [], [], _, _, _ => rfl
  | [], b :: l', _, _, h => absurd ((h b).2 (by simp)) (by simp)
  | a :: l, [], _, _, h => absurd ((h a).1 (by simp)) (by simp)
  | a :: l, b :: l', h1, h2, h => by
    rw [List.pairwise_cons] at h1 h2
    have hab : a = b := by
      have ha := (h a).1 (by simp)
      have hb := (h b).2 (by simp)
      rw [List.mem_cons] at ha hb
      rcases ha with ha | ha
      · exact ha
      · rcases hb with hb | hb
        · exact hb.symm
        · have := h2.1 a ha; have := h1.1 b hb; omega
    subst hab
    congr 1
    refine pw_eq h1.2 h2.2 fun x => ⟨fun hx => ?_, fun hx => ?_⟩
    · have h3 := (h x).1 (List.mem_cons_of_mem _ hx)
      rw [List.mem_cons] at h3
      rcases h3 with rfl | h3
      · have := h1.1 _ hx; omega
      · exact h3
    · have h3 := (h x).2 (List.mem_cons_of_mem _ hx)
      rw [List.mem_cons] at h3
      rcases h3 with rfl | h3
      · have := h2.1 _ hx; omega
      · exact h3
theorem chL_eq (hok : xs.any badShift = false) {ys : List Int} (hp : ys.Pairwise (· < ·)) (hm : ∀ h, h ∈ ys ↔ covB xs c h = true) : ys = chL xs c :=
  pw_eq hp chL_pw fun x => (hm x).trans (mem_chL hok).symm
end

/-- the number put into a sorted list -/
def putL : List Int → Int → List Int
  | [], n => [n]
  | y :: ys, n => if n < y then n :: y :: ys else if n = y then y :: ys else y :: putL ys n
theorem mem_putL {x n : Int} : ∀ {l : List Int}, x ∈ putL l n ↔ x = n ∨ x ∈ l
  | [] => by simp [putL]
  | y :: ys => by
    unfold putL
    split
    · simp
    · split
      · rename_i h; subst h; simp
      · rw [List.mem_cons, mem_putL, List.mem_cons]
        constructor
        · rintro (h | h | h)
          · exact .inr (.inl h)
          · exact .inl h
          · exact .inr (.inr h)
        · rintro (h | h | h)
          · exact .inr (.inl h)
          · exact .inl h
          · exact .inr (.inr h)
theorem putL_pw {n : Int} : ∀ {l : List Int}, l.Pairwise (· < ·) → (putL l n).Pairwise (· < ·)
  | [], _ => by simp [putL]
  | y :: ys, h => by
    have h0 := h
    rw [List.pairwise_cons] at h
    unfold putL
    split
    · rename_i hn
      refine List.pairwise_cons.2 ⟨fun z hz => ?_, h0⟩
      rw [List.mem_cons] at hz
      rcases hz with rfl | hz
      · exact hn
      · have := h.1 z hz; omega
    · split
      · exact h0
      · refine List.pairwise_cons.2 ⟨fun z hz => ?_, putL_pw h.2⟩
        rcases mem_putL.1 hz with rfl | hz
        · omega
        · exact h.1 z hz
theorem putL_len {n : Int} : ∀ {l : List Int}, (putL l n).length ≤ l.length + 1
  | [] => by simp [putL]
  | y :: ys => by
    unfold putL
    split
    · simp
    · split
      · simp
      · have := putL_len (n := n) (l := ys); simp only [List.length_cons]; omega
theorem putL_done {n y : Int} : ∀ {a : List Int}, (∃ z ∈ a, n ≤ z) → putL (a ++ [y]) n = putL a n ++ [y]
  | [], h => by obtain ⟨z, hz, _⟩ := h; cases hz
  | b :: a, h => by
    show putL (b :: (a ++ [y])) n = putL (b :: a) n ++ [y]
    unfold putL
    split
    · simp
    · split
      · simp
      · obtain ⟨z, hz, hn⟩ := h
        rw [List.mem_cons] at hz
        rw [putL_done ⟨z, hz.resolve_left (fun e => by subst e; omega), hn⟩]; simp
theorem putL_before {n : Int} {b : List Int} : ∀ {a : List Int}, (∀ z ∈ a, z < n) → putL (a ++ b) n = a ++ putL b n
  | [], _ => rfl
  | y :: a, h => by
    have h1 := h y (by simp)
    show putL (y :: (a ++ b)) n = y :: (a ++ putL b n)
    rw [putL, if_neg (by omega), if_neg (by omega), putL_before fun z hz => h z (List.mem_cons_of_mem _ hz)]
/-- the reference's loop: the list so far, and whether the number is in -/
def pt (l : List Int) (n : Int) : Nat → List Int × Bool
  | 0 => ([], false)
  | i + 1 => match l[i]? with
    | some y => if (pt l n i).2 = false ∧ n ≤ y then ((if n < y then (pt l n i).1 ++ [n] else (pt l n i).1) ++ [y], true) else ((pt l n i).1 ++ [y], (pt l n i).2)
    | none => pt l n i
theorem pt_inv (l : List Int) (n : Int) : ∀ i, i ≤ l.length → ((pt l n i).2 = false → (pt l n i).1 = l.take i ∧ ∀ y ∈ l.take i, y < n) ∧ ((pt l n i).2 = true → (pt l n i).1 = putL (l.take i) n ∧ ∃ y ∈ l.take i, n ≤ y)
  | 0, _ => ⟨fun _ => ⟨rfl, by simp⟩, fun h => by cases h⟩
  | i + 1, hi => by
    obtain ⟨i1, i2⟩ := pt_inv l n i (by omega)
    have hx : l[i]? = some l[i] := List.getElem?_eq_getElem (by omega)
    generalize l[i] = y at hx
    have ht : l.take (i + 1) = l.take i ++ [y] := by rw [List.take_add_one, hx]; rfl
    have hp : pt l n (i + 1) = if (pt l n i).2 = false ∧ n ≤ y then ((if n < y then (pt l n i).1 ++ [n] else (pt l n i).1) ++ [y], true) else ((pt l n i).1 ++ [y], (pt l n i).2) := by
      rw [pt]; simp only [hx]
    rw [hp, ht]
    cases hd : (pt l n i).2
    · obtain ⟨e1, e2⟩ := i1 hd
      rw [e1]
      by_cases hn : n ≤ y
      · rw [if_pos (And.intro rfl hn)]
        refine ⟨fun h => (by cases h), fun _ => ⟨?_, y, by simp, hn⟩⟩
        rw [putL_before e2]
        by_cases h2 : n < y
        · simp [putL, h2]
        · have : n = y := by omega
          subst this
          simp [putL]
      · rw [if_neg (fun h => hn h.2)]
        refine ⟨fun _ => ⟨rfl, fun z hz => ?_⟩, fun h => by cases h⟩
        rw [List.mem_append, List.mem_singleton] at hz
        rcases hz with hz | rfl
        · exact e2 z hz
        · omega
    · obtain ⟨e1, z, hz, e2⟩ := i2 hd
      rw [if_neg (fun h => by cases h.1)]
      refine ⟨fun h => (by cases h), fun _ => ⟨?_, z, List.mem_append_left _ hz, e2⟩⟩
      rw [putL_done ⟨z, hz, e2⟩, e1]
theorem pt_len (l : List Int) (n : Int) : ∀ i, (pt l n i).1.length ≤ 2 * i
  | 0 => Nat.le_refl _
  | i + 1 => by
    have := pt_len l n i
    unfold pt
    split
    · split
      · split
        · simp only [List.length_append, List.length_singleton]; omega
        · simp only [List.length_append, List.length_singleton]; omega
      · simp only [List.length_append, List.length_singleton]; omega
    · omega
theorem pt_end (l : List Int) (n : Int) : putL l n = if (pt l n l.length).2 then (pt l n l.length).1 else (pt l n l.length).1 ++ [n] := by
  obtain ⟨i1, i2⟩ := pt_inv l n l.length (Nat.le_refl _)
  rw [List.take_length] at i1 i2
  cases hd : (pt l n l.length).2
  · obtain ⟨e1, e2⟩ := i1 hd
    rw [e1]
    have := putL_before (b := []) e2
    rw [List.append_nil] at this
    rw [this]; rfl
  · obtain ⟨e1, _⟩ := i2 hd
    rw [e1]; rfl

/-- the roles at an hour, behind k shifts -/
def rbTo (xs : List Shift) (c h : Int) : Nat → Nat
  | 0 => 0
  | k + 1 => match xs[k]? with | some x => if x.crane = c ∧ x.start ≤ h ∧ h < x.stop then rbTo xs c h k ||| x.role.toNat else rbTo xs c h k | none => rbTo xs c h k
theorem rbTo_of {xs : List Shift} {c h : Int} {k : Nat} {x : Shift} (hx : xs[k]? = some x) : rbTo xs c h (k + 1) = if x.crane = c ∧ x.start ≤ h ∧ h < x.stop then rbTo xs c h k ||| x.role.toNat else rbTo xs c h k := by
  rw [rbTo]; simp only [hx]
theorem rb_all {xs : List Shift} (hok : xs.any badShift = false) (c h : Int) : ∀ k, k ≤ xs.length → rbTo xs c h k < 8 ∧ (rbTo xs c h k).testBit 0 = hasR xs c 1 h k ∧ (rbTo xs c h k).testBit 1 = hasR xs c 2 h k
  | 0, _ => ⟨by show 0 < 8; decide, by simp [rbTo, hasR_zero], by simp [rbTo, hasR_zero]⟩
  | k + 1, hk => by
    obtain ⟨i1, i2, i3⟩ := rb_all hok c h k (by omega)
    have hx : xs[k]? = some xs[k] := List.getElem?_eq_getElem (by omega)
    generalize xs[k] = x at hx
    obtain ⟨_, _, f3, _, _⟩ := fOk_iff (fOk_all hok hx)
    rw [rbTo_of hx, hasR_succ, hasR_succ, covJ_of hx, covJ_of hx]
    by_cases hq : x.crane = c ∧ x.start ≤ h ∧ h < x.stop
    · rw [if_pos hq]
      obtain ⟨q1, q2, q3⟩ := hq
      refine ⟨Nat.or_lt_two_pow (n := 3) i1 (by rcases f3 with f | f | f <;> rw [f] <;> decide), ?_, ?_⟩
      · rw [Nat.testBit_or, i2]; congr 1
        rcases f3 with f | f | f <;> rw [f] <;> simp [q1, q2, q3] <;> decide
      · rw [Nat.testBit_or, i3]; congr 1
        rcases f3 with f | f | f <;> rw [f] <;> simp [q1, q2, q3] <;> decide
    · rw [if_neg hq]
      have : ∀ r : Int, (decide (x.crane = c) && (decide (x.role = r) && (decide (x.start ≤ h) && decide (h < x.stop)))) = false := fun r => by
        rw [Bool.eq_false_iff]; intro h9
        simp only [Bool.and_eq_true, decide_eq_true_eq] at h9
        exact hq ⟨h9.1, h9.2.2.1, h9.2.2.2⟩
      rw [this, this, Bool.or_false, Bool.or_false]
      exact ⟨i1, i2, i3⟩
theorem bit8 : ∀ m : Fin 8, (((m.1 &&& 1 : Nat) : Int) != 0) = m.1.testBit 0 ∧ (((m.1 &&& 2 : Nat) : Int) != 0) = m.1.testBit 1 := by decide
theorem and_one {m : Nat} (h : m < 8) : (bits .and .i64 (m : Int) 1 != 0) = m.testBit 0 := by
  have := and_i64 m 1 (by omega) (by decide)
  rw [show ((1 : Nat) : Int) = 1 from rfl] at this
  rw [this]; exact (bit8 ⟨m, h⟩).1
theorem and_two {m : Nat} (h : m < 8) : (bits .and .i64 (m : Int) 2 != 0) = m.testBit 1 := by
  have := and_i64 m 2 (by omega) (by decide)
  rw [show ((2 : Nat) : Int) = 2 from rfl] at this
  rw [this]; exact (bit8 ⟨m, h⟩).2
theorem or_role {m : Nat} {r : Int} (h : m < 8) (hr : r = 1 ∨ r = 2 ∨ r = 4) : bits .or .i64 (m : Int) r = ((m ||| r.toNat : Nat) : Int) := by
  have h0 : r = ((r.toNat : Nat) : Int) := by omega
  have := or_i64 m r.toNat (by omega) (by rcases hr with f | f | f <;> rw [f] <;> decide)
  rw [← h0] at this
  exact this
end Go.Proofs.Ytdhobglhjdgboaa
