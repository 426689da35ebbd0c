/- Straight lines and polygons whose corners turn left: the two ways to ask whether a line meets a polygon agree. No program in sight. -/
import Derived.Test.YtdhobglhjdgboaaDoorRPnt
namespace Go.Proofs.YtdhobglhjdgboaaDoor
open Go.RowKit
set_option linter.unusedVariables false

/-- the cross product of the ways from o to a and to b -/
def crs (o a b : Pnt) : Int := (a.x - o.x) * (b.y - o.y) - (a.y - o.y) * (b.x - o.x)
theorem crs_aff {α β γ : Int} {p q r : Pnt} (hx : γ * r.x = α * p.x + β * q.x) (hy : γ * r.y = α * p.y + β * q.y) (hs : γ = α + β) (o a : Pnt) : γ * crs o a r = α * crs o a p + β * crs o a q := by
  unfold crs; grind
theorem crs_self (o a : Pnt) : crs o a a = 0 := by unfold crs; grind
theorem crs_self0 (o a : Pnt) : crs o a o = 0 := by unfold crs; grind
/-- two lines: their four cross products -/
theorem crs_four (p q a b : Pnt) : crs p q a - crs p q b = crs a b q - crs a b p := by unfold crs; grind
theorem crs_cut (p q a b o c : Pnt) : crs a b q * crs o c p - crs a b p * crs o c q = crs p q a * crs o c b - crs p q b * crs o c a := by unfold crs; grind
theorem crs_cut_x (p q a b : Pnt) : crs a b q * p.x - crs a b p * q.x = crs p q a * b.x - crs p q b * a.x := by unfold crs; grind
theorem crs_cut_y (p q a b : Pnt) : crs a b q * p.y - crs a b p * q.y = crs p q a * b.y - crs p q b * a.y := by unfold crs; grind

def mn (a b : Int) : Int := if a < b then a else b
def mx (a b : Int) : Int := if a < b then b else a
def inIv (n lo hi : Int) : Bool := decide (lo ≤ n) && decide (n ≤ hi)
def boxB (a b p : Pnt) : Bool := inIv p.x (mn a.x b.x) (mx a.x b.x) && inIv p.y (mn a.y b.y) (mx a.y b.y)
theorem iv_mid {α β a b c : Int} (h1 : 0 ≤ α) (h2 : 0 ≤ β) (h3 : 0 < α + β) (h : (α + β) * c = α * a + β * b) : inIv c (mn a b) (mx a b) = true := by
  have key : (a ≤ b → a ≤ c ∧ c ≤ b) ∧ (b ≤ a → b ≤ c ∧ c ≤ a) := by
    constructor
    · intro hab
      constructor
      · rcases Int.lt_or_le c a with h4 | h4
        · exfalso
          have e1 : (α + β) * (a - c) > 0 := Int.mul_pos h3 (by omega)
          have e2 : 0 ≤ β * (b - a) := Int.mul_nonneg h2 (by omega)
          have : (α + β) * (a - c) + β * (b - a) = (α * a + β * b) - (α + β) * c := by grind
          omega
        · exact h4
      · rcases Int.lt_or_le b c with h4 | h4
        · exfalso
          have e1 : (α + β) * (c - b) > 0 := Int.mul_pos h3 (by omega)
          have e2 : 0 ≤ α * (b - a) := Int.mul_nonneg h1 (by omega)
          have : (α + β) * (c - b) + α * (b - a) = (α + β) * c - (α * a + β * b) := by grind
          omega
        · exact h4
    · intro hab
      constructor
      · rcases Int.lt_or_le c b with h4 | h4
        · exfalso
          have e1 : (α + β) * (b - c) > 0 := Int.mul_pos h3 (by omega)
          have e2 : 0 ≤ α * (a - b) := Int.mul_nonneg h1 (by omega)
          have : (α + β) * (b - c) + α * (a - b) = (α * a + β * b) - (α + β) * c := by grind
          omega
        · exact h4
      · rcases Int.lt_or_le a c with h4 | h4
        · exfalso
          have e1 : (α + β) * (c - a) > 0 := Int.mul_pos h3 (by omega)
          have e2 : 0 ≤ β * (a - b) := Int.mul_nonneg h2 (by omega)
          have : (α + β) * (c - a) + β * (a - b) = (α + β) * c - (α * a + β * b) := by grind
          omega
        · exact h4
  unfold inIv mn mx
  rcases Int.lt_or_le a b with h4 | h4
  · rw [if_pos h4, if_pos h4, decide_eq_true (key.1 (by omega)).1, decide_eq_true (key.1 (by omega)).2]; rfl
  · rw [if_neg (by omega), if_neg (by omega), decide_eq_true (key.2 h4).1, decide_eq_true (key.2 h4).2]; rfl
/-- c is a mean of a and b -/
def Mean (a b c : Pnt) : Prop := ∃ α β : Int, 0 ≤ α ∧ 0 ≤ β ∧ 0 < α + β ∧ (α + β) * c.x = α * a.x + β * b.x ∧ (α + β) * c.y = α * a.y + β * b.y
theorem Mean.box {a b c : Pnt} (h : Mean a b c) : boxB a b c = true := by
  obtain ⟨α, β, h1, h2, h3, hx, hy⟩ := h
  unfold boxB; rw [iv_mid h1 h2 h3 hx, iv_mid h1 h2 h3 hy]; rfl
theorem iv_iff {a b c : Int} : inIv c (mn a b) (mx a b) = true ↔ (a ≤ c ∧ c ≤ b) ∨ (b ≤ c ∧ c ≤ a) := by
  unfold inIv mn mx
  simp only [Bool.and_eq_true, decide_eq_true_eq]
  split <;> omega
theorem mean_of {a b c : Pnt} (h0 : crs a b c = 0) (h : boxB a b c = true) : Mean a b c := by
  unfold boxB at h
  simp only [Bool.and_eq_true, iv_iff] at h
  obtain ⟨hx, hy⟩ := h
  unfold crs at h0
  rcases Int.lt_trichotomy a.x b.x with h4 | h4 | h4
  · exact ⟨b.x - c.x, c.x - a.x, by omega, by omega, by omega, by grind, by grind⟩
  · rcases Int.lt_trichotomy a.y b.y with h5 | h5 | h5
    · exact ⟨b.y - c.y, c.y - a.y, by omega, by omega, by omega, by grind, by grind⟩
    · exact ⟨1, 0, by omega, by omega, by omega, by omega, by omega⟩
    · exact ⟨c.y - b.y, a.y - c.y, by omega, by omega, by omega, by grind, by grind⟩
  · exact ⟨c.x - b.x, a.x - c.x, by omega, by omega, by omega, by grind, by grind⟩

def sgn (n : Int) : Int := if 0 < n then 1 else if n < 0 then -1 else 0
/-- two straight lines have a point in common -/
def linesB (a b c d : Pnt) : Bool :=
  (decide (sgn (crs a b c) * sgn (crs a b d) < 0) && decide (sgn (crs c d a) * sgn (crs c d b) < 0)) ||
  (decide (sgn (crs a b c) = 0) && boxB a b c) || (decide (sgn (crs a b d) = 0) && boxB a b d) || (decide (sgn (crs c d a) = 0) && boxB c d a) || (decide (sgn (crs c d b) = 0) && boxB c d b)
theorem sgn_zero {n : Int} : sgn n = 0 ↔ n = 0 := by unfold sgn; split <;> (try split) <;> omega
theorem sgn_neg {m n : Int} : sgn m * sgn n < 0 ↔ (m < 0 ∧ 0 < n) ∨ (0 < m ∧ n < 0) := by
  unfold sgn
  rcases Int.lt_trichotomy m 0 with h | h | h <;> rcases Int.lt_trichotomy n 0 with h2 | h2 | h2 <;> simp [h, h2, Int.lt_asymm] <;> (try omega)
theorem linesB_iff {a b c d : Pnt} : linesB a b c d = true ↔ (((crs a b c < 0 ∧ 0 < crs a b d) ∨ (0 < crs a b c ∧ crs a b d < 0)) ∧ ((crs c d a < 0 ∧ 0 < crs c d b) ∨ (0 < crs c d a ∧ crs c d b < 0))) ∨
    (crs a b c = 0 ∧ boxB a b c = true) ∨ (crs a b d = 0 ∧ boxB a b d = true) ∨ (crs c d a = 0 ∧ boxB c d a = true) ∨ (crs c d b = 0 ∧ boxB c d b = true) := by
  unfold linesB
  simp only [Bool.or_eq_true, Bool.and_eq_true, decide_eq_true_eq, sgn_zero, sgn_neg, or_assoc]

/-- a polygon given by its corners c 0 .. c (n - 1), and what follows each -/
structure Convex (n : Nat) (c : Nat → Pnt) (nx pv : Nat → Nat) : Prop where
  three : 3 ≤ n
  nx_lt : ∀ k, k < n → nx k < n
  pv_lt : ∀ k, k < n → pv k < n
  nx_pv : ∀ k, k < n → nx (pv k) = k
  left : ∀ k i, k < n → i < n → i ≠ k → i ≠ nx k → 0 < crs (c k) (c (nx k)) (c i)
  nx_ne : ∀ k, k < n → nx k ≠ k ∧ nx (nx k) ≠ k ∧ nx k ≠ pv k ∧ pv k ≠ k
section
variable {n : Nat} {c : Nat → Pnt} {nx pv : Nat → Nat} {p q : Pnt}
theorem Convex.ge (h : Convex n c nx pv) {k i : Nat} (hk : k < n) (hi : i < n) : 0 ≤ crs (c k) (c (nx k)) (c i) := by
  by_cases h1 : i = k
  · subst h1; rw [crs_self0]; exact Int.le_refl _
  · by_cases h2 : i = nx k
    · subst h2; rw [crs_self]; exact Int.le_refl _
    · exact Int.le_of_lt (h.left k i hk hi h1 h2)
def sd (c : Nat → Pnt) (nx : Nat → Nat) (k : Nat) (p : Pnt) : Int := crs (c k) (c (nx k)) p
/-- all sides have a mean of p and q on the left: one mean for all -/
def Reach (n : Nat) (c : Nat → Pnt) (nx : Nat → Nat) (p q : Pnt) : Prop := ∃ α β : Int, 0 ≤ α ∧ 0 ≤ β ∧ 0 < α + β ∧ ∀ k, k < n → 0 ≤ α * sd c nx k p + β * sd c nx k q
theorem Mean.ge {a b p : Pnt} (h : Mean a b p) {o d : Pnt} (h1 : 0 ≤ crs o d a) (h2 : 0 ≤ crs o d b) : 0 ≤ crs o d p := by
  obtain ⟨α, β, hα, hβ, hs, hx, hy⟩ := h
  have e := crs_aff hx hy rfl o d
  have : 0 ≤ (α + β) * crs o d p := by rw [e]; exact Int.add_nonneg (Int.mul_nonneg hα h1) (Int.mul_nonneg hβ h2)
  exact Int.nonneg_of_mul_nonneg_right this hs
theorem Convex.reach_of_lines (h : Convex n c nx pv) {k : Nat} (hk : k < n) (hl : linesB p q (c k) (c (nx k)) = true) : Reach n c nx p q := by
  have hA : ∀ j, j < n → 0 ≤ sd c nx j (c k) := fun j hj => h.ge hj hk
  have hB : ∀ j, j < n → 0 ≤ sd c nx j (c (nx k)) := fun j hj => h.ge hj (h.nx_lt k hk)
  have mean : ∀ r, Mean p q r → (∀ j, j < n → 0 ≤ sd c nx j r) → Reach n c nx p q := by
    rintro r ⟨α, β, h1, h2, h3, hx, hy⟩ hr
    refine ⟨α, β, h1, h2, h3, fun j hj => ?_⟩
    have e := crs_aff hx hy rfl (c j) (c (nx j))
    show 0 ≤ α * crs _ _ p + β * crs _ _ q
    rw [← e]; exact Int.mul_nonneg (by omega) (hr j hj)
  have pin : ∀ r, Mean (c k) (c (nx k)) r → ∀ j, j < n → 0 ≤ sd c nx j r := fun r hr j hj => hr.ge (hA j hj) (hB j hj)
  rcases linesB_iff.1 hl with ⟨h1, h2⟩ | ⟨h1, h2⟩ | ⟨h1, h2⟩ | ⟨h1, h2⟩ | ⟨h1, h2⟩
  · have e4 := crs_four p q (c k) (c (nx k))
    have ec := fun j => crs_cut p q (c k) (c (nx k)) (c j) (c (nx j))
    rcases h2 with ⟨h3, h4⟩ | ⟨h3, h4⟩
    · refine ⟨crs (c k) (c (nx k)) q, -crs (c k) (c (nx k)) p, by omega, by omega, by omega, fun j hj => ?_⟩
      have h5 : 0 < crs p q (c k) ∧ crs p q (c (nx k)) < 0 := by omega
      have e1 := ec j
      have e2 : 0 ≤ crs p q (c k) * sd c nx j (c (nx k)) := Int.mul_nonneg (by omega) (hB j hj)
      have e3 : 0 ≤ -crs p q (c (nx k)) * sd c nx j (c k) := Int.mul_nonneg (by omega) (hA j hj)
      unfold sd at *
      rw [Int.neg_mul] at *
      omega
    · refine ⟨-crs (c k) (c (nx k)) q, crs (c k) (c (nx k)) p, by omega, by omega, by omega, fun j hj => ?_⟩
      have h5 : crs p q (c k) < 0 ∧ 0 < crs p q (c (nx k)) := by omega
      have e1 := ec j
      have e2 : 0 ≤ -crs p q (c k) * sd c nx j (c (nx k)) := Int.mul_nonneg (by omega) (hB j hj)
      have e3 : 0 ≤ crs p q (c (nx k)) * sd c nx j (c k) := Int.mul_nonneg (by omega) (hA j hj)
      unfold sd at *
      rw [Int.neg_mul] at *
      omega
  · exact mean _ (mean_of h1 h2) hA
  · exact mean _ (mean_of h1 h2) hB
  · have := pin _ (mean_of h1 h2)
    exact ⟨1, 0, by omega, by omega, by omega, fun j hj => by have := this j hj; omega⟩
  · have := pin _ (mean_of h1 h2)
    exact ⟨0, 1, by omega, by omega, by omega, fun j hj => by have := this j hj; omega⟩
/-- a side at which p is outside and q is not, whose cut with the line is outside of no other side: the line meets that very side -/
theorem Convex.lines_of_cut (h : Convex n c nx pv) {k : Nat} (hk : k < n) (hm : sd c nx k p < 0) (hn : 0 ≤ sd c nx k q) (hall : ∀ j, j < n → 0 ≤ sd c nx k q * sd c nx j p - sd c nx k p * sd c nx j q) : linesB p q (c k) (c (nx k)) = true := by
  rw [linesB_iff]
  unfold sd at *
  have hnk := h.nx_lt k hk
  have hpk := h.pv_lt k hk
  obtain ⟨n1, n2, n3, n4⟩ := h.nx_ne k hk
  have e4 := crs_four p q (c k) (c (nx k))
  -- the side ahead
  have a1 := hall (pv k) hpk
  rw [h.nx_pv k hk, crs_cut, crs_self (c (pv k)) (c k), Int.mul_zero, Int.sub_zero] at a1
  have b1 : 0 < crs (c (pv k)) (c k) (c (nx k)) := by
    have := h.left (pv k) (nx k) hpk hnk n3 (by rw [h.nx_pv k hk]; exact n1)
    rwa [h.nx_pv k hk] at this
  have one : 0 ≤ crs p q (c k) := by
    rcases Int.lt_or_le (crs p q (c k)) 0 with h8 | h8
    · have := Int.mul_neg_of_neg_of_pos h8 b1; omega
    · exact h8
  -- the side behind
  have a2 := hall (nx k) hnk
  rw [crs_cut, crs_self0 (c (nx k)), Int.mul_zero, Int.zero_sub] at a2
  have b2 : 0 < crs (c (nx k)) (c (nx (nx k))) (c k) := h.left (nx k) k hnk hk (fun e => n1 e.symm) (fun e => n2 e.symm)
  have two : crs p q (c (nx k)) ≤ 0 := by
    rcases Int.lt_or_le 0 (crs p q (c (nx k))) with h8 | h8
    · have := Int.mul_pos h8 b2; omega
    · exact h8
  have ex := crs_cut_x p q (c k) (c (nx k))
  have ey := crs_cut_y p q (c k) (c (nx k))
  generalize crs p q (c k) = one' at *
  generalize crs p q (c (nx k)) = two' at *
  generalize crs (c k) (c (nx k)) p = m at *
  generalize crs (c k) (c (nx k)) q = r at *
  by_cases hr : r = 0
  · refine .inr (.inr (.inr (.inr ⟨hr, Mean.box ⟨-two', one', by omega, by omega, by omega, ?_, ?_⟩⟩)))
    · subst hr; rw [show -two' + one' = -m by omega, Int.neg_mul, Int.neg_mul]; omega
    · subst hr; rw [show -two' + one' = -m by omega, Int.neg_mul, Int.neg_mul]; omega
  · by_cases h1 : one' = 0
    · refine .inr (.inl ⟨h1, Mean.box ⟨r, -m, by omega, by omega, by omega, ?_, ?_⟩⟩)
      · subst h1; rw [show r + -m = -two' by omega, Int.neg_mul, Int.neg_mul]; omega
      · subst h1; rw [show r + -m = -two' by omega, Int.neg_mul, Int.neg_mul]; omega
    · by_cases h2 : two' = 0
      · refine .inr (.inr (.inl ⟨h2, Mean.box ⟨r, -m, by omega, by omega, by omega, ?_, ?_⟩⟩))
        · subst h2; rw [show r + -m = one' by omega, Int.neg_mul]; omega
        · subst h2; rw [show r + -m = one' by omega, Int.neg_mul]; omega
      · exact .inl ⟨.inr ⟨by omega, by omega⟩, .inl ⟨hm, by omega⟩⟩
end
/-- fractions (num, den) with positive denominators -/
def fle (a b : Int × Int) : Prop := a.1 * b.2 ≤ b.1 * a.2
theorem fle_refl (a : Int × Int) : fle a a := Int.le_refl _
theorem fle_trans {a b c : Int × Int} (hb : 0 < b.2) (ha : 0 < a.2) (hc : 0 < c.2) (h1 : fle a b) (h2 : fle b c) : fle a c := by
  unfold fle at *
  have e1 : a.1 * b.2 * c.2 ≤ b.1 * a.2 * c.2 := Int.mul_le_mul_of_nonneg_right h1 (by omega)
  have e2 : b.1 * c.2 * a.2 ≤ c.1 * b.2 * a.2 := Int.mul_le_mul_of_nonneg_right h2 (by omega)
  have e3 : a.1 * c.2 * b.2 ≤ c.1 * a.2 * b.2 := by grind
  exact Int.le_of_mul_le_mul_right e3 hb
def laterF (a b : Int × Int) : Int × Int := if a.1 * b.2 < b.1 * a.2 then b else a
def earlierF (a b : Int × Int) : Int × Int := if b.1 * a.2 < a.1 * b.2 then b else a
theorem later_ge (a b : Int × Int) : fle a (laterF a b) ∧ fle b (laterF a b) := by
  unfold laterF fle; split
  · exact ⟨by omega, by omega⟩
  · exact ⟨by omega, by omega⟩
theorem earlier_le (a b : Int × Int) : fle (earlierF a b) a ∧ fle (earlierF a b) b := by
  unfold earlierF fle; split
  · exact ⟨by omega, by omega⟩
  · exact ⟨by omega, by omega⟩
theorem later_or (a b : Int × Int) : laterF a b = a ∨ laterF a b = b := by unfold laterF; split <;> simp
theorem earlier_or (a b : Int × Int) : earlierF a b = a ∨ earlierF a b = b := by unfold earlierF; split <;> simp
section
variable (m r : Nat → Int)
/-- the part of the line that is left behind k sides: from low to high -/
def lowTo : Nat → Int × Int
  | 0 => (0, 1)
  | k + 1 => if m k < 0 ∧ ¬ r k < 0 then laterF (lowTo k) (-m k, r k - m k) else lowTo k
def highTo : Nat → Int × Int
  | 0 => (1, 1)
  | k + 1 => if r k < 0 ∧ ¬ m k < 0 then earlierF (highTo k) (m k, m k - r k) else highTo k
variable {m r}
theorem low_is : ∀ k, lowTo m r k = (0, 1) ∨ ∃ j, j < k ∧ m j < 0 ∧ 0 ≤ r j ∧ lowTo m r k = (-m j, r j - m j)
  | 0 => .inl rfl
  | k + 1 => by
    unfold lowTo
    split
    · rename_i h
      rcases later_or (lowTo m r k) (-m k, r k - m k) with e | e <;> rw [e]
      · rcases low_is k with h2 | ⟨j, h2, h3⟩
        · exact .inl h2
        · exact .inr ⟨j, by omega, h3⟩
      · exact .inr ⟨k, by omega, h.1, by omega, rfl⟩
    · rcases low_is k with h2 | ⟨j, h2, h3⟩
      · exact .inl h2
      · exact .inr ⟨j, by omega, h3⟩
theorem high_is : ∀ k, highTo m r k = (1, 1) ∨ ∃ j, j < k ∧ r j < 0 ∧ 0 ≤ m j ∧ highTo m r k = (m j, m j - r j)
  | 0 => .inl rfl
  | k + 1 => by
    unfold highTo
    split
    · rename_i h
      rcases earlier_or (highTo m r k) (m k, m k - r k) with e | e <;> rw [e]
      · rcases high_is k with h2 | ⟨j, h2, h3⟩
        · exact .inl h2
        · exact .inr ⟨j, by omega, h3⟩
      · exact .inr ⟨k, by omega, h.1, by omega, rfl⟩
    · rcases high_is k with h2 | ⟨j, h2, h3⟩
      · exact .inl h2
      · exact .inr ⟨j, by omega, h3⟩
theorem low_pos (k : Nat) : 0 < (lowTo m r k).2 ∧ 0 ≤ (lowTo m r k).1 := by
  rcases low_is (m := m) (r := r) k with e | ⟨j, _, h1, h2, e⟩ <;> rw [e]
  · exact ⟨by decide, by decide⟩
  · exact ⟨by show 0 < _ - _; omega, by show 0 ≤ - _; omega⟩
theorem high_pos (k : Nat) : 0 < (highTo m r k).2 ∧ 0 ≤ (highTo m r k).1 := by
  rcases high_is (m := m) (r := r) k with e | ⟨j, _, h1, h2, e⟩ <;> rw [e]
  · exact ⟨by decide, by decide⟩
  · exact ⟨by show 0 < _ - _; omega, h2⟩
theorem low_all : ∀ k j, j < k → m j < 0 → 0 ≤ r j → fle (-m j, r j - m j) (lowTo m r k)
  | 0, j, h, _, _ => absurd h (by omega)
  | k + 1, j, h, h1, h2 => by
    by_cases hj : j = k
    · subst hj
      show fle _ (if m j < 0 ∧ ¬ r j < 0 then laterF (lowTo m r j) (-m j, r j - m j) else lowTo m r j)
      rw [if_pos ⟨h1, by omega⟩]; exact (later_ge _ _).2
    · have ih := low_all k j (by omega) h1 h2
      show fle _ (if m k < 0 ∧ ¬ r k < 0 then laterF (lowTo m r k) (-m k, r k - m k) else lowTo m r k)
      split
      · rename_i h3
        have hp : 0 < (laterF (lowTo m r k) (-m k, r k - m k)).2 := by
          rcases later_or (lowTo m r k) (-m k, r k - m k) with e | e <;> rw [e]
          · exact (low_pos k).1
          · show 0 < _ - _; omega
        exact fle_trans (low_pos k).1 (show 0 < r j - m j by omega) hp ih (later_ge _ _).1
      · exact ih
theorem high_all : ∀ k j, j < k → r j < 0 → 0 ≤ m j → fle (highTo m r k) (m j, m j - r j)
  | 0, j, h, _, _ => absurd h (by omega)
  | k + 1, j, h, h1, h2 => by
    by_cases hj : j = k
    · subst hj
      show fle (if r j < 0 ∧ ¬ m j < 0 then earlierF (highTo m r j) (m j, m j - r j) else highTo m r j) _
      rw [if_pos ⟨h1, by omega⟩]; exact (earlier_le _ _).2
    · have ih := high_all k j (by omega) h1 h2
      show fle (if r k < 0 ∧ ¬ m k < 0 then earlierF (highTo m r k) (m k, m k - r k) else highTo m r k) _
      split
      · rename_i h3
        have hp : 0 < (earlierF (highTo m r k) (m k, m k - r k)).2 := by
          rcases earlier_or (highTo m r k) (m k, m k - r k) with e | e <;> rw [e]
          · exact (high_pos k).1
          · show 0 < _ - _; omega
        exact fle_trans (high_pos k).1 hp (show 0 < m j - r j by omega) (earlier_le _ _).1 ih
      · exact ih
end
section
variable {n : Nat} {c : Nat → Pnt} {nx pv : Nat → Nat} {p q : Pnt}
/-- what the clipping answers -/
def Clip (n : Nat) (m r : Nat → Int) : Prop := (∀ j, j < n → ¬ (m j < 0 ∧ r j < 0)) ∧ fle (lowTo m r n) (highTo m r n)
def InP (n : Nat) (c : Nat → Pnt) (nx : Nat → Nat) (p : Pnt) : Prop := ∀ j, j < n → 0 ≤ sd c nx j p
theorem clip_of_reach (h : Reach n c nx p q) : Clip n (fun k => sd c nx k p) (fun k => sd c nx k q) := by
  obtain ⟨α, β, h1, h2, h3, hall⟩ := h
  refine ⟨fun j hj hn => ?_, ?_⟩
  · have := hall j hj
    have hn : sd c nx j p < 0 ∧ sd c nx j q < 0 := hn
    rcases Int.lt_or_le 0 α with h4 | h4
    · have e1 := Int.mul_neg_of_pos_of_neg h4 hn.1
      have e2 := Int.mul_nonneg h2 (show 0 ≤ -sd c nx j q by omega)
      rw [Int.mul_neg] at e2; omega
    · obtain rfl : α = 0 := by omega
      have e1 := Int.mul_neg_of_pos_of_neg (show 0 < β by omega) hn.2
      rw [Int.zero_mul] at this; omega
  · have l1 : fle (lowTo (fun k => sd c nx k p) (fun k => sd c nx k q) n) (β, α + β) := by
      rcases low_is (m := fun k => sd c nx k p) (r := fun k => sd c nx k q) n with e | ⟨j, hj, _, _, e⟩ <;> rw [e] <;> unfold fle
      · show 0 * (α + β) ≤ β * 1; omega
      · show -sd c nx j p * (α + β) ≤ β * (sd c nx j q - sd c nx j p)
        have := hall j hj; grind
    have l2 : fle (β, α + β) (highTo (fun k => sd c nx k p) (fun k => sd c nx k q) n) := by
      rcases high_is (m := fun k => sd c nx k p) (r := fun k => sd c nx k q) n with e | ⟨j, hj, _, _, e⟩ <;> rw [e] <;> unfold fle
      · show β * 1 ≤ 1 * (α + β); omega
      · show β * (sd c nx j p - sd c nx j q) ≤ sd c nx j p * (α + β)
        have := hall j hj; grind
    exact fle_trans h3 (low_pos n).1 (high_pos n).1 l1 l2
theorem Convex.of_clip (h : Convex n c nx pv) (hc : Clip n (fun k => sd c nx k p) (fun k => sd c nx k q)) : InP n c nx p ∨ InP n c nx q ∨ ∃ k, k < n ∧ linesB p q (c k) (c (nx k)) = true := by
  obtain ⟨hno, hle⟩ := hc
  have L := low_all (m := fun k => sd c nx k p) (r := fun k => sd c nx k q) n
  have H := high_all (m := fun k => sd c nx k p) (r := fun k => sd c nx k q) n
  have hp := high_pos (m := fun k => sd c nx k p) (r := fun k => sd c nx k q) n
  have lp := low_pos (m := fun k => sd c nx k p) (r := fun k => sd c nx k q) n
  by_cases hP : InP n c nx p
  · exact .inl hP
  rcases low_is (m := fun k => sd c nx k p) (r := fun k => sd c nx k q) n with e | ⟨k, hk, hm, hr, e⟩
  · exfalso
    apply hP
    intro j hj
    rcases Int.lt_or_le (sd c nx j p) 0 with h1 | h1
    · have h2 : 0 ≤ sd c nx j q := by have := hno j hj; simp only [h1, true_and] at this; omega
      have := L j hj h1 h2
      rw [e] at this
      have : -sd c nx j p * 1 ≤ 0 * (sd c nx j q - sd c nx j p) := this
      omega
    · exact h1
  · refine .inr (.inr ⟨k, hk, h.lines_of_cut hk hm hr fun j hj => ?_⟩)
    rw [e] at hle L
    have hm : sd c nx k p < 0 := hm
    have hr : 0 ≤ sd c nx k q := hr
    rcases Int.lt_or_le (sd c nx j p) 0 with h1 | h1
    · have h2 : 0 ≤ sd c nx j q := by have := hno j hj; simp only [h1, true_and] at this; omega
      have := L j hj h1 h2
      have : -sd c nx j p * (sd c nx k q - sd c nx k p) ≤ -sd c nx k p * (sd c nx j q - sd c nx j p) := this
      grind
    · rcases Int.lt_or_le (sd c nx j q) 0 with h2 | h2
      · have h3 := H j hj h2 h1
        have h4 := fle_trans hp.1 (show 0 < sd c nx k q - sd c nx k p by omega) (show 0 < sd c nx j p - sd c nx j q by omega) hle h3
        have : -sd c nx k p * (sd c nx j p - sd c nx j q) ≤ sd c nx j p * (sd c nx k q - sd c nx k p) := h4
        grind
      · have e1 := Int.mul_nonneg hr h1
        have e2 := Int.mul_nonneg (show 0 ≤ -sd c nx k p by omega) h2
        rw [Int.neg_mul] at e2; omega
/-- the two ways to ask whether a line meets a polygon agree -/
theorem Convex.clip_iff (h : Convex n c nx pv) : Clip n (fun k => sd c nx k p) (fun k => sd c nx k q) ↔ (InP n c nx p ∨ InP n c nx q ∨ ∃ k, k < n ∧ linesB p q (c k) (c (nx k)) = true) := by
  constructor
  · exact h.of_clip
  · rintro (h1 | h1 | ⟨k, hk, h1⟩)
    · exact clip_of_reach ⟨1, 0, by omega, by omega, by omega, fun j hj => by have := h1 j hj; omega⟩
    · exact clip_of_reach ⟨0, 1, by omega, by omega, by omega, fun j hj => by have := h1 j hj; omega⟩
    · exact clip_of_reach (h.reach_of_lines hk h1)
end
end Go.Proofs.YtdhobglhjdgboaaDoor
