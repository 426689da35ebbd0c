/- Symmetric merging, plain: turns of ranges, and what a merge's halves hold. -/
import Derived.Sort.LotA
namespace Go.Proofs.Ytmchkhjchpnmaaa
open Go.Sort
set_option linter.unusedVariables false
set_option linter.unusedSectionVars false
variable {α : Type} [Inhabited α]

/-- the first n places of two ranges changed for one another -/
def BlkIn (a b n : Nat) (d d' : Array α) : Prop :=
  d'.size = d.size ∧ ∀ x, d'[x]! = if a ≤ x ∧ x < a + n then d[b + (x - a)]! else if b ≤ x ∧ x < b + n then d[a + (x - b)]! else d[x]!
/-- the range from a to b turned about m -/
def RotIn (a m b : Nat) (d d' : Array α) : Prop :=
  d'.size = d.size ∧ ∀ x, d'[x]! = if a ≤ x ∧ x < a + (b - m) then d[x + (m - a)]! else if a + (b - m) ≤ x ∧ x < b then d[x - (b - m)]! else d[x]!

theorem at_eq {d : Array α} {x y : Nat} (h : x = y) : d[x]! = d[y]! := by rw [h]
theorem blk_zero (a b : Nat) (d : Array α) : BlkIn a b 0 d d :=
  ⟨rfl, fun x => by rw [if_neg (by omega), if_neg (by omega)]⟩
theorem swp_at (d : Array α) {i j : Nat} (hi : i < d.size) (hj : j < d.size) (hij : i ≠ j) (x : Nat) :
    (swp d i j)[x]! = if x = i then d[j]! else if x = j then d[i]! else d[x]! := by
  by_cases h1 : x = i
  · subst h1; rw [if_pos rfl]; exact swp_left d x j hi hij
  · rw [if_neg h1]
    by_cases h2 : x = j
    · subst h2; rw [if_pos rfl]; exact swp_right d i x hj
    · rw [if_neg h2]; exact swp_other d i j x h1 h2
theorem blk_succ {a b n : Nat} {d d1 : Array α} (h : BlkIn a b n d d1) (hab : a + n < b) (hb : b + n < d.size) : BlkIn a b (n + 1) d (swp d1 (a + n) (b + n)) := by
  refine ⟨by rw [size_swp]; exact h.1, fun x => ?_⟩
  rw [swp_at d1 (by rw [h.1]; omega) (by rw [h.1]; omega) (by omega), h.2 x, h.2 (a + n), h.2 (b + n)]
  (repeat' split) <;> first | (exfalso; omega) | rfl | exact at_eq (by omega)
theorem rot_left {m i j : Nat} {d d1 d' : Array α} (hi : i ≤ m) (hij : j < i) (h : BlkIn (m - i) m j d d1) (h' : RotIn (m - (i - j)) m (m + j) d1 d') : RotIn (m - i) m (m + j) d d' := by
  refine ⟨h'.1.trans h.1, fun x => ?_⟩
  rw [h'.2 x, h.2, h.2, h.2]
  (repeat' split) <;> first | (exfalso; omega) | rfl | exact at_eq (by omega)
theorem rot_right {m i j : Nat} {d d1 d' : Array α} (hi : i ≤ m) (hij : i < j) (h : BlkIn (m - i) (m + j - i) i d d1) (h' : RotIn (m - i) m (m + (j - i)) d1 d') : RotIn (m - i) m (m + j) d d' := by
  refine ⟨h'.1.trans h.1, fun x => ?_⟩
  rw [h'.2 x, h.2, h.2, h.2]
  (repeat' split) <;> first | (exfalso; omega) | rfl | exact at_eq (by omega)
theorem rot_end {m i : Nat} {d d' : Array α} (hi : i ≤ m) (h : BlkIn (m - i) m i d d') : RotIn (m - i) m (m + i) d d' := by
  refine ⟨h.1, fun x => ?_⟩
  rw [h.2 x]
  (repeat' split) <;> first | (exfalso; omega) | rfl | exact at_eq (by omega)
theorem rot_none (a m : Nat) (d : Array α) : RotIn a m m d d :=
  ⟨rfl, fun x => by
    rw [if_neg (by omega)]
    by_cases c : a + (m - m) ≤ x ∧ x < m
    · rw [if_pos c]; exact at_eq (by omega)
    · rw [if_neg c]⟩
theorem rot_none' (m b : Nat) (hb : m ≤ b) (d : Array α) : RotIn m m b d d :=
  ⟨rfl, fun x => by
    by_cases c : m ≤ x ∧ x < m + (b - m)
    · rw [if_pos c]; exact at_eq (by omega)
    · rw [if_neg c, if_neg (by omega)]⟩
/-- one more to the left over a single -/
theorem rot_up {a k : Nat} {d d1 : Array α} (h : RotIn a (a + 1) (k + 1) d d1) (ha : a ≤ k) (hk : k + 1 < d.size) : RotIn a (a + 1) (k + 2) d (swp d1 k (k + 1)) := by
  refine ⟨by rw [size_swp]; exact h.1, fun x => ?_⟩
  rw [swp_at d1 (by rw [h.1]; omega) (by rw [h.1]; omega) (by omega), h.2 x, h.2 k, h.2 (k + 1)]
  (repeat' split) <;> first | (exfalso; omega) | rfl | exact at_eq (by omega)
theorem rot_down {m k : Nat} {d d1 : Array α} (h : RotIn (k + 1) m (m + 1) d d1) (hk : k + 1 ≤ m) (hm : m < d.size) : RotIn k m (m + 1) d (swp d1 (k + 1) k) := by
  refine ⟨by rw [size_swp]; exact h.1, fun x => ?_⟩
  rw [swp_at d1 (by rw [h.1]; omega) (by rw [h.1]; omega) (by omega), h.2 x, h.2 k, h.2 (k + 1)]
  (repeat' split) <;> first | (exfalso; omega) | rfl | exact at_eq (by omega)
section
variable {lt : α → α → Bool}
theorem swo_asymm (h : SWO lt) {x y : α} (hx : lt x y = true) : lt y x = false := by
  cases hy : lt y x with
  | false => rfl
  | true => exact absurd (h.trans _ _ _ hx hy) (by rw [h.irrefl]; decide)
theorem sorted_le (h : SWO lt) {a b : Nat} {d : Array α} (hs : SortedIn lt a b d) {i j : Nat} (hi : a ≤ i) (hij : i ≤ j) (hj : j < b) : lt d[j]! d[i]! = false := by
  rcases Nat.eq_or_lt_of_le hij with e | e
  · subst e; exact h.irrefl _
  · exact hs i j hi e hj
/-- a single on the left, laid where it belongs -/
theorem merge_left (h : SWO lt) {a b i : Nat} {d d' : Array α} (hs : SortedIn lt (a + 1) b d) (hai : a + 1 ≤ i) (hib : i ≤ b)
    (h1 : ∀ x, a + 1 ≤ x → x < i → lt d[x]! d[a]! = true) (h2 : ∀ x, i ≤ x → x < b → lt d[x]! d[a]! = false) (hr : RotIn a (a + 1) i d d') : SortedIn lt a b d' := by
  intro x y hx hxy hy
  rw [hr.2 x, hr.2 y]
  by_cases c1 : x < a + (i - (a + 1))
  · rw [if_pos (c := a ≤ x ∧ _) (by omega)]
    by_cases c2 : y < a + (i - (a + 1))
    · rw [if_pos (by omega)]; exact hs _ _ (by omega) (by omega) (by omega)
    · rw [if_neg (by omega)]
      by_cases c3 : y < i
      · rw [if_pos (by omega), show y - (i - (a + 1)) = a by omega]
        exact swo_asymm h (h1 _ (by omega) (by omega))
      · rw [if_neg (by omega)]; exact hs _ _ (by omega) (by omega) (by omega)
  · rw [if_neg (c := a ≤ x ∧ _) (by omega), if_neg (c := a ≤ y ∧ _) (by omega), if_neg (c := _ ∧ y < i) (by omega)]
    by_cases c3 : x < i
    · rw [if_pos (by omega), show x - (i - (a + 1)) = a by omega]
      exact h2 _ (by omega) hy
    · rw [if_neg (by omega)]; exact hs _ _ (by omega) (by omega) (by omega)
theorem merge_right (h : SWO lt) {a m i : Nat} {d d' : Array α} (hs : SortedIn lt a m d) (hai : a ≤ i) (him : i ≤ m)
    (h1 : ∀ x, a ≤ x → x < i → lt d[m]! d[x]! = false) (h2 : ∀ x, i ≤ x → x < m → lt d[m]! d[x]! = true) (hr : RotIn i m (m + 1) d d') : SortedIn lt a (m + 1) d' := by
  intro x y hx hxy hy
  rw [hr.2 x, hr.2 y]
  by_cases c1 : x < i
  · rw [if_neg (c := i ≤ x ∧ _) (by omega), if_neg (c := _ ∧ x < m + 1) (by omega)]
    by_cases c2 : y < i
    · rw [if_neg (by omega), if_neg (by omega)]; exact hs _ _ (by omega) (by omega) (by omega)
    · by_cases c3 : y = i
      · rw [if_pos (by omega), show y + (m - i) = m by omega]; exact h1 _ hx c1
      · rw [if_neg (by omega), if_pos (by omega)]; exact hs _ _ (by omega) (by omega) (by omega)
  · by_cases c3 : x = i
    · rw [if_pos (c := i ≤ x ∧ _) (by omega), if_neg (by omega), if_pos (by omega), show x + (m - i) = m by omega]
      exact swo_asymm h (h2 _ (by omega) (by omega))
    · rw [if_neg (c := i ≤ x ∧ _) (by omega), if_pos (c := _ ∧ x < m + 1) (by omega), if_neg (by omega), if_pos (by omega)]
      exact hs _ _ (by omega) (by omega) (by omega)

/-- what the search of a middle finds -/
structure Mid (lt : α → α → Bool) (a m b mid s : Nat) (d : Array α) : Prop where
  has : a ≤ s
  hsm : s ≤ m
  hsd : s ≤ mid
  heb : mid + m - s ≤ b
  low : a < s → mid + m - s < b → lt d[mid + m - s]! d[s - 1]! = false
  high : s < m → s < mid → lt d[mid + m - s - 1]! d[s]! = true

structure Halves (lt : α → α → Bool) (a s mid e b : Nat) (d : Array α) : Prop where
  q1 : SortedIn lt a s d
  q2 : SortedIn lt s mid d
  q3 : SortedIn lt mid e d
  q4 : SortedIn lt e b d
  cross : ∀ x y, a ≤ x → x < mid → mid ≤ y → y < b → lt d[y]! d[x]! = false
theorem halves (h : SWO lt) {a m b mid s : Nat} {d d1 : Array α} (hm : Mid lt a m b mid s d) (ham : a ≤ m) (hmb : m ≤ b) (ha : a ≤ mid) (h1 : SortedIn lt a m d) (h2 : SortedIn lt m b d)
    (hr : RotIn s m (mid + m - s) d d1) : Halves lt a s mid (mid + m - s) b d1 := by
  have b1 := hm.has; have b2 := hm.hsm; have b3 := hm.hsd; have b4 := hm.heb
  -- where each place comes from
  have p1 : ∀ x, x < s → d1[x]! = d[x]! := fun x hx => by rw [hr.2 x, if_neg (by omega), if_neg (by omega)]
  have p2 : ∀ x, s ≤ x → x < mid → d1[x]! = d[x + (m - s)]! := fun x hx hx2 => by rw [hr.2 x, if_pos (by omega)]
  have p3 : ∀ x, mid ≤ x → x < mid + m - s → d1[x]! = d[x - (mid - s)]! := fun x hx hx2 => by
    rw [hr.2 x, if_neg (by omega), if_pos (by omega)]; exact at_eq (by omega)
  have p4 : ∀ x, mid + m - s ≤ x → d1[x]! = d[x]! := fun x hx => by rw [hr.2 x, if_neg (by omega), if_neg (by omega)]
  refine ⟨fun x y hx hxy hy => ?_, fun x y hx hxy hy => ?_, fun x y hx hxy hy => ?_, fun x y hx hxy hy => ?_, fun x y hx hx2 hy hy2 => ?_⟩
  · rw [p1 x (by omega), p1 y hy]; exact h1 _ _ hx hxy (by omega)
  · rw [p2 x hx (by omega), p2 y (by omega) hy]; exact h2 _ _ (by omega) (by omega) (by omega)
  · rw [p3 x hx (by omega), p3 y (by omega) hy]; exact h1 _ _ (by omega) (by omega) (by omega)
  · rw [p4 x hx, p4 y (by omega)]; exact h2 _ _ (by omega) hxy hy
  · by_cases c1 : x < s
    · rw [p1 x c1]
      by_cases c2 : y < mid + m - s
      · rw [p3 y hy c2]; exact h1 _ _ hx (by omega) (by omega)
      · rw [p4 y (by omega)]
        have lo := hm.low (by omega) (by omega)
        exact h.ntrans _ _ _ (sorted_le h h2 (by omega) (Nat.not_lt.mp c2) hy2) (h.ntrans _ _ _ lo (sorted_le h h1 hx (by omega) (by omega)))
    · rw [p2 x (by omega) hx2]
      by_cases c2 : y < mid + m - s
      · rw [p3 y hy c2]
        have hi := swo_asymm h (hm.high (by omega) (by omega))
        exact h.ntrans _ _ _ (sorted_le h h1 b1 (by omega) (by omega)) (h.ntrans _ _ _ hi (sorted_le h h2 (by omega) (by omega) (by omega)))
      · rw [p4 y (by omega)]; exact h2 _ _ (by omega) (by omega) hy2

theorem permIn_sorted_other {a b a' b' : Nat} {d d' : Array α} (hp : PermIn a b d d') (hs : SortedIn lt a' b' d) (hd : b' ≤ a ∨ b ≤ a') : SortedIn lt a' b' d' := fun x y hx hxy hy => by
  rw [hp.2.1 x (by omega), hp.2.1 y (by omega)]; exact hs x y hx hxy hy
/-- both halves sorted, nothing on the right less than anything on the left -/
theorem whole {a mid b : Nat} {d1 d2 d3 : Array α} (hb : b ≤ d1.size) (ha : a ≤ mid) (hmb : mid ≤ b) (hc : ∀ x y, a ≤ x → x < mid → mid ≤ y → y < b → lt d1[y]! d1[x]! = false)
    (p2 : PermIn a mid d1 d2) (p3 : PermIn mid b d2 d3) (s2 : SortedIn lt a mid d2) (s3 : SortedIn lt mid b d3) : SortedIn lt a b d3 := by
  have hl : ∀ x, a ≤ x → x < mid → ∀ y, mid ≤ y → y < b → lt d1[y]! d2[x]! = false := fun x hx hx2 y hy hy2 =>
    permIn_all d1 d2 a mid (fun v => lt d1[y]! v = false) (by omega) p2 (fun i hi hi2 => hc i y hi hi2 hy hy2) x hx hx2
  have hr : ∀ x, a ≤ x → x < mid → ∀ y, mid ≤ y → y < b → lt d3[y]! d2[x]! = false := fun x hx hx2 =>
    permIn_all d2 d3 mid b (fun v => lt v d2[x]! = false) (by rw [p2.1]; exact hb) p3 (fun i hi hi2 => by rw [p2.2.1 i (by omega)]; exact hl x hx hx2 i hi hi2)
  intro x y hx hxy hy
  by_cases c1 : y < mid
  · rw [p3.2.1 x (by omega), p3.2.1 y (by omega)]; exact s2 x y hx hxy c1
  · by_cases c2 : x < mid
    · rw [p3.2.1 x (by omega)]; exact hr x hx c2 y (by omega) hy
    · exact s3 x y (by omega) hxy hy
end
end Go.Proofs.Ytmchkhjchpnmaaa
