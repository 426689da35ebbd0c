/- NeededLifts: all that a lift needs, directly and through others (ndI), as the bits of a number; and as a set that is filled step by step. No program in sight. -/
import Derived.Test.YtbklbhbjlbojdaaReady
import Derived.Test.YtbklbhbjlbojdaaIntSet
namespace Go.Proofs.Ytbklbhbjlbojdaa
open Go.RowKit
set_option linter.unusedVariables false

def orI (a b : Int) : Int := ((a.toNat ||| b.toNat : Nat) : Int)
theorem orI_nonneg (a b : Int) : 0 ≤ orI a b := by unfold orI; omega
theorem or_or {a b : Int} (ha0 : 0 ≤ a) (ha : a < 4611686018427387904) (hb0 : 0 ≤ b) (hb : b < 4611686018427387904) : bits .or .i64 a b = orI a b := by
  obtain ⟨x, rfl⟩ := Int.eq_ofNat_of_zero_le ha0
  obtain ⟨y, rfl⟩ := Int.eq_ofNat_of_zero_le hb0
  unfold orI
  rw [Int.toNat_natCast, Int.toNat_natCast]
  exact or_i64 x y (by omega) (by omega)
theorem nat_lt_pow {x n : Nat} : ((x : Nat) : Int) < (2 : Int) ^ n ↔ x < 2 ^ n := by
  have e : ((2 ^ n : Nat) : Int) = (2 : Int) ^ n := by push_cast; rfl
  rw [← e]; omega
theorem orI_lt {a b : Int} {n : Nat} (ha0 : 0 ≤ a) (ha : a < 2 ^ n) (hb0 : 0 ≤ b) (hb : b < 2 ^ n) : orI a b < 2 ^ n := by
  obtain ⟨x, rfl⟩ := Int.eq_ofNat_of_zero_le ha0
  obtain ⟨y, rfl⟩ := Int.eq_ofNat_of_zero_le hb0
  unfold orI
  rw [Int.toNat_natCast, Int.toNat_natCast, nat_lt_pow]
  exact Nat.or_lt_two_pow (nat_lt_pow.1 ha) (nat_lt_pow.1 hb)
theorem hasI_or (a b j : Int) : hasI (orI a b) j = (hasI a j || hasI b j) := by
  unfold hasI orI
  rw [Int.toNat_natCast, Nat.testBit_or]
theorem hasI_pow (a j : Int) (ha : 0 ≤ a) (hj : 0 ≤ j) : hasI (2 ^ a.toNat) j = decide (j = a) := by
  obtain ⟨x, rfl⟩ := Int.eq_ofNat_of_zero_le ha
  obtain ⟨y, rfl⟩ := Int.eq_ofNat_of_zero_le hj
  unfold hasI
  have e : ((2 : Int) ^ (x : Int).toNat).toNat = 2 ^ x := by
    have e2 : ((2 ^ x : Nat) : Int) = (2 : Int) ^ x := by push_cast; rfl
    rw [Int.toNat_natCast, ← e2, Int.toNat_natCast]
  rw [e, Int.toNat_natCast, Nat.testBit_two_pow, Bool.eq_iff_iff]
  simp; omega
theorem hasI_ext {a b : Int} (ha : 0 ≤ a) (hb : 0 ≤ b) (h : ∀ j : Nat, hasI a j = hasI b j) : a = b := by
  obtain ⟨x, rfl⟩ := Int.eq_ofNat_of_zero_le ha
  obtain ⟨y, rfl⟩ := Int.eq_ofNat_of_zero_le hb
  have : x = y := by
    apply Nat.eq_of_testBit_eq
    intro i
    have := h i
    unfold hasI at this
    simpa using this
  rw [this]

theorem pow_b2 {n : Nat} (h : n ≤ 61) : (1 : Int) ≤ 2 ^ n ∧ (2 : Int) ^ n ≤ 2305843009213693952 := by
  have h1 : (2 : Nat) ^ n ≤ 2 ^ 61 := Nat.pow_le_pow_right (by omega) h
  have h2 : 1 ≤ (2 : Nat) ^ n := Nat.one_le_two_pow
  have e : (2 : Int) ^ n = ((2 ^ n : Nat) : Int) := by push_cast; rfl
  rw [e]; constructor <;> omega
/-- the numbers that lift k names -/
def aft (vs : List LV) (k : Nat) : List Int := match vs[k]? with | some v => v.2 | none => []
theorem aft_of {vs : List LV} {k : Nat} {v : LV} (h : vs[k]? = some v) : aft vs k = v.2 := by simp only [aft, h]
def Down (vs : List LV) : Prop := ∀ k, ∀ a ∈ aft vs k, 0 ≤ a ∧ a < (k : Int)
theorem rises_at {xs : List Int} {n : Int} (h : risesB xs n = true) : ∀ (j : Nat) (x : Int), xs[j]? = some x → (j : Int) ≤ x
  | 0, x, hx => by
    have := rise_at h (List.getElem?_eq_some_iff.1 hx).1 hx
    omega
  | j + 1, x, hx => by
    have hl := (List.getElem?_eq_some_iff.1 hx).1
    have hp : xs[j]? = some (xs[j]'(by omega)) := List.getElem?_eq_getElem _
    have h1 := rises_at h j _ hp
    have h2 := (rise_at h hl hx).2.2
    rw [prv_succ hp] at h2
    omega
theorem rises_len {xs : List Int} {n : Nat} (h : risesB xs n = true) : xs.length ≤ n := by
  rcases Nat.lt_or_ge n xs.length with h1 | h1
  · have hx : xs[n]? = some (xs[n]'h1) := List.getElem?_eq_getElem h1
    have h2 := rises_at h n _ hx
    have h3 := (rise_at h h1 hx).2.1
    omega
  · exact h1
theorem down_of {vs : List LV} (h : liftsOk vs = true) : Down vs := by
  intro k a ha
  unfold aft at ha
  split at ha
  · rename_i v hv
    exact risesB_mem (liftsOk_at h hv).2 ha
  · cases ha
theorem aft_len {vs : List LV} (h : liftsOk vs = true) (k : Nat) : (aft vs k).length ≤ 10 := by
  unfold aft
  split
  · rename_i v hv
    have := rises_len (liftsOk_at h hv).2
    have h2 := (List.getElem?_eq_some_iff.1 hv).1
    have h3 := liftsOk_len h
    omega
  · simp

def ndF (vs : List LV) : Nat → Nat → Int
  | 0, _ => 0
  | f + 1, k => (aft vs k).foldl (fun s a => orI s (orI (2 ^ a.toNat) (ndF vs f a.toNat))) 0
/-- all that lift k needs -/
def ndI (vs : List LV) (k : Nat) : Int := ndF vs (k + 1) k
theorem foldl_same {α β : Type} {f g : β → α → β} : ∀ (xs : List α) (b : β), (∀ b, ∀ x ∈ xs, f b x = g b x) → xs.foldl f b = xs.foldl g b
  | [], _, _ => rfl
  | x :: xs, b, h => by
    rw [List.foldl_cons, List.foldl_cons, h b x (by simp)]
    exact foldl_same xs _ fun b y hy => h b y (by simp [hy])
theorem ndF_fuel {vs : List LV} (hd : Down vs) : ∀ f g k, k < f → k < g → ndF vs f k = ndF vs g k
  | 0, _, _, h, _ => absurd h (by omega)
  | _, 0, _, _, h => absurd h (by omega)
  | f + 1, g + 1, k, h1, h2 => by
    simp only [ndF]
    refine foldl_same _ _ fun b a ha => ?_
    have := hd k a ha
    rw [ndF_fuel hd f g a.toNat (by omega) (by omega)]
def neTo (vs : List LV) (k j : Nat) : Int := ((aft vs k).take j).foldl (fun s a => orI s (orI (2 ^ a.toNat) (ndI vs a.toNat))) 0
theorem neTo_zero (vs : List LV) (k : Nat) : neTo vs k 0 = 0 := rfl
theorem neTo_succ {vs : List LV} {k j : Nat} {a : Int} (h : (aft vs k)[j]? = some a) : neTo vs k (j + 1) = orI (neTo vs k j) (orI (2 ^ a.toNat) (ndI vs a.toNat)) := by
  obtain ⟨hj, rfl⟩ := List.getElem?_eq_some_iff.1 h
  unfold neTo
  rw [List.take_succ_eq_append_getElem hj, List.foldl_append]; rfl
theorem neTo_all {vs : List LV} (hd : Down vs) {k j : Nat} (hj : (aft vs k).length ≤ j) : neTo vs k j = ndI vs k := by
  unfold neTo
  rw [List.take_of_length_le hj]
  show _ = ndF vs (k + 1) k
  simp only [ndF]
  refine foldl_same _ _ fun b a ha => ?_
  have := hd k a ha
  unfold ndI
  rw [ndF_fuel hd (a.toNat + 1) k a.toNat (by omega) (by omega)]
theorem fold_bd {g : Int → Int} {n : Nat} : ∀ (xs : List Int) (b : Int), 0 ≤ b → b < 2 ^ n → (∀ a ∈ xs, 0 ≤ g a ∧ g a < 2 ^ n) → 0 ≤ xs.foldl (fun s a => orI s (g a)) b ∧ xs.foldl (fun s a => orI s (g a)) b < 2 ^ n
  | [], b, h1, h2, _ => ⟨h1, h2⟩
  | x :: xs, b, h1, h2, h => by
    rw [List.foldl_cons]
    have := h x (by simp)
    exact fold_bd xs _ (orI_nonneg _ _) (orI_lt h1 h2 this.1 this.2) fun a ha => h a (by simp [ha])
theorem pow_mono {a n : Nat} (h : a ≤ n) : (2 : Int) ^ a ≤ 2 ^ n := by
  have e : ∀ m : Nat, ((2 ^ m : Nat) : Int) = (2 : Int) ^ m := fun m => by push_cast; rfl
  rw [← e, ← e]
  have := Nat.pow_le_pow_right (n := 2) (by omega) h
  omega
theorem pow_lt {a n : Nat} (h : a < n) : (2 : Int) ^ a < 2 ^ n := by
  have e : ∀ m : Nat, ((2 ^ m : Nat) : Int) = (2 : Int) ^ m := fun m => by push_cast; rfl
  rw [← e, ← e]
  have := Nat.pow_lt_pow_right (a := 2) (by omega) h
  omega
theorem pow_nn (a : Nat) : (0 : Int) ≤ 2 ^ a := by
  have e : ((2 ^ a : Nat) : Int) = (2 : Int) ^ a := by push_cast; rfl
  rw [← e]; exact Int.natCast_nonneg _
theorem ndF_bd {vs : List LV} (hd : Down vs) : ∀ f k, 0 ≤ ndF vs f k ∧ ndF vs f k < 2 ^ k
  | 0, k => ⟨Int.le_refl _, by have := pow_mono (Nat.zero_le k); simp only [ndF]; omega⟩
  | f + 1, k => by
    simp only [ndF]
    refine fold_bd (g := fun a => orI (2 ^ a.toNat) (ndF vs f a.toNat)) _ _ (Int.le_refl _) (by have := pow_mono (Nat.zero_le k); omega) fun a ha => ?_
    have h1 := hd k a ha
    have h2 := ndF_bd hd f a.toNat
    have h3 := pow_lt (a := a.toNat) (n := k) (by omega)
    exact ⟨orI_nonneg _ _, orI_lt (pow_nn _) h3 h2.1 (by omega)⟩
theorem ndI_bd {vs : List LV} (hd : Down vs) (k : Nat) : 0 ≤ ndI vs k ∧ ndI vs k < 2 ^ k := ndF_bd hd _ _
theorem neTo_bd {vs : List LV} (hd : Down vs) (k j : Nat) : 0 ≤ neTo vs k j ∧ neTo vs k j < 2 ^ k := by
  unfold neTo
  refine fold_bd (g := fun a => orI (2 ^ a.toNat) (ndI vs a.toNat)) _ _ (Int.le_refl _) (by have := pow_mono (Nat.zero_le k); omega) fun a ha => ?_
  have h1 := hd k a (List.mem_of_mem_take ha)
  have h2 := ndI_bd hd a.toNat
  have h3 := pow_lt (a := a.toNat) (n := k) (by omega)
  exact ⟨orI_nonneg _ _, orI_lt (pow_nn _) h3 h2.1 (by omega)⟩
theorem nd_small {vs : List LV} (hd : Down vs) {k : Nat} (hk : k ≤ 10) : 0 ≤ ndI vs k ∧ ndI vs k < 1024 := by
  have h1 := ndI_bd hd k
  have h2 := pow_mono hk
  have h3 : (2 : Int) ^ 10 = 1024 := by decide
  omega
theorem neTo_small {vs : List LV} (hd : Down vs) {k : Nat} (hk : k ≤ 10) (j : Nat) : 0 ≤ neTo vs k j ∧ neTo vs k j < 1024 := by
  have h1 := neTo_bd hd k j
  have h2 := pow_mono hk
  have h3 : (2 : Int) ^ 10 = 1024 := by decide
  omega

/-! as a set that is filled -/
def hasP (m r : Int) : Bool := decide (0 ≤ r) && hasI m r
theorem fold_has {g : Int → Int} (r : Int) : ∀ (xs : List Int) (b : Int), hasI (xs.foldl (fun s a => orI s (g a)) b) r = (hasI b r || xs.any fun a => hasI (g a) r)
  | [], b => by simp
  | x :: xs, b => by rw [List.foldl_cons, fold_has r xs, hasI_or, List.any_cons, Bool.or_assoc]
theorem any_same {α : Type} {f g : α → Bool} : ∀ (xs : List α), (∀ x ∈ xs, f x = g x) → xs.any f = xs.any g
  | [], _ => rfl
  | x :: xs, h => by rw [List.any_cons, List.any_cons, h x (by simp), any_same xs fun y hy => h y (by simp [hy])]
theorem hasP_to {vs : List LV} (hd : Down vs) (k j : Nat) (r : Int) : hasP (neTo vs k j) r = ((aft vs k).take j).any fun a => decide (r = a) || hasP (ndI vs a.toNat) r := by
  unfold hasP
  by_cases hr : 0 ≤ r
  · rw [decide_eq_true hr, Bool.true_and]
    unfold neTo
    rw [fold_has (g := fun a => orI (2 ^ a.toNat) (ndI vs a.toNat)), hasI_zero, Bool.false_or]
    refine any_same _ fun a ha => ?_
    have h1 := hd k a (List.mem_of_mem_take ha)
    rw [hasI_or, hasI_pow a r h1.1 hr, Bool.true_and]
  · rw [decide_eq_false hr, Bool.false_and]
    symm
    rw [List.any_eq_false]
    intro a ha
    have h1 := hd k a (List.mem_of_mem_take ha)
    have : ¬ r = a := by omega
    simp [this]
theorem hasP_nd {vs : List LV} (hd : Down vs) (k : Nat) (r : Int) : hasP (ndI vs k) r = (aft vs k).any fun a => decide (r = a) || hasP (ndI vs a.toNat) r := by
  rw [← neTo_all hd (Nat.le_refl (aft vs k).length), hasP_to hd, List.take_of_length_le (Nat.le_refl _)]
/-- what a needed lift names is needed -/
theorem reach_named {vs : List LV} (hd : Down vs) : ∀ (k x : Nat), hasP (ndI vs k) x = true → ∀ c ∈ aft vs x, hasP (ndI vs k) c = true := by
  intro k
  induction k using Nat.strongRecOn with
  | ind k ih =>
    intro x hx c hc
    rw [hasP_nd hd, List.any_eq_true] at hx ⊢
    obtain ⟨b, hb, h1⟩ := hx
    have h2 := hd k b hb
    refine ⟨b, hb, ?_⟩
    rw [Bool.or_eq_true]
    right
    rw [Bool.or_eq_true, decide_eq_true_eq] at h1
    rcases h1 with h1 | h1
    · rw [hasP_nd hd, List.any_eq_true]
      refine ⟨c, ?_, by simp⟩
      have e : b.toNat = x := by omega
      rw [e]; exact hc
    · exact ih b.toNat (by omega) x h1 c hc
/-- whatever is in the set and below k has all that it names in the set -/
def Cl (vs : List LV) (S : Int → Bool) (k : Nat) : Prop := ∀ x : Nat, x < k → S x = true → ∀ a ∈ aft vs x, S a = true
theorem cl_reach {vs : List LV} (hd : Down vs) {S : Int → Bool} {k : Nat} (hc : Cl vs S k) : ∀ x : Nat, x < k → S x = true → ∀ r, hasP (ndI vs x) r = true → S r = true := by
  intro x
  induction x using Nat.strongRecOn with
  | ind x ih =>
    intro hx hs r hr
    rw [hasP_nd hd, List.any_eq_true] at hr
    obtain ⟨a, ha, h1⟩ := hr
    have h2 := hd x a ha
    have h3 := hc x hx hs a ha
    rw [Bool.or_eq_true, decide_eq_true_eq] at h1
    rcases h1 with h1 | h1
    · rw [h1]; exact h3
    · have e : ((a.toNat : Nat) : Int) = a := by omega
      exact ih a.toNat (by omega) (by omega) (by rw [e]; exact h3) r h1
def sTo (vs : List LV) (k : Nat) (S : Int → Bool) (j : Nat) (r : Int) : Bool := S r || hasP (neTo vs k j) r
theorem hasP_zero (r : Int) : hasP 0 r = false := by unfold hasP; rw [hasI_zero, Bool.and_false]
theorem sTo_zero (vs : List LV) (k : Nat) (S : Int → Bool) (r : Int) : sTo vs k S 0 r = S r := by unfold sTo; rw [neTo_zero, hasP_zero, Bool.or_false]
theorem sTo_all {vs : List LV} (hd : Down vs) {k j : Nat} (hj : (aft vs k).length ≤ j) (S : Int → Bool) (r : Int) : sTo vs k S j r = (S r || hasP (ndI vs k) r) := by unfold sTo; rw [neTo_all hd hj]
theorem sTo_succ {vs : List LV} (hd : Down vs) {k j : Nat} {a : Int} (h : (aft vs k)[j]? = some a) (S : Int → Bool) (r : Int) : sTo vs k S (j + 1) r = ((decide (r = a) || sTo vs k S j r) || hasP (ndI vs a.toNat) r) := by
  unfold sTo
  rw [hasP_to hd, hasP_to hd]
  obtain ⟨hj, rfl⟩ := List.getElem?_eq_some_iff.1 h
  rw [List.take_succ_eq_append_getElem hj, List.any_append, List.any_cons, List.any_nil, Bool.or_false]
  cases S r <;> cases decide (r = (aft vs k)[j]) <;> simp
theorem cl_to {vs : List LV} (hd : Down vs) {S : Int → Bool} {k : Nat} (hc : Cl vs S k) (j : Nat) : Cl vs (sTo vs k S j) k := by
  intro x hx hs a ha
  unfold sTo at hs ⊢
  rw [Bool.or_eq_true] at hs ⊢
  rcases hs with hs | hs
  · exact .inl (hc x hx hs a ha)
  · right
    rw [hasP_to hd, List.any_eq_true] at hs ⊢
    obtain ⟨b, hb, h1⟩ := hs
    refine ⟨b, hb, ?_⟩
    rw [Bool.or_eq_true, decide_eq_true_eq] at h1
    rw [Bool.or_eq_true]
    right
    have h2 := hd k b (List.mem_of_mem_take hb)
    rcases h1 with h1 | h1
    · rw [hasP_nd hd, List.any_eq_true]
      refine ⟨a, ?_, by simp⟩
      have e : b.toNat = x := by omega
      rw [e]; exact ha
    · -- a is named by x, x is needed by b
      have hcl : Cl vs (fun r => hasP (ndI vs b.toNat) r) k := by
        intro y hy hs2 c hc2
        exact reach_named hd b.toNat y hs2 c hc2
      exact hcl x hx h1 a ha
theorem sTo_old {vs : List LV} (hd : Down vs) {S : Int → Bool} {k j : Nat} (hc : Cl vs S k) {a : Int} (h : (aft vs k)[j]? = some a) (hs : sTo vs k S j a = true) (r : Int) : sTo vs k S (j + 1) r = sTo vs k S j r := by
  rw [sTo_succ hd h]
  have h1 := hd k a (List.mem_of_getElem? h)
  by_cases e : r = a
  · subst e; rw [hs]; simp
  · rw [decide_eq_false e, Bool.false_or]
    cases h2 : hasP (ndI vs a.toNat) r
    · rw [Bool.or_false]
    · rw [Bool.or_true]
      have e2 : ((a.toNat : Nat) : Int) = a := by omega
      exact (cl_reach hd (cl_to hd hc j) a.toNat (by omega) (by rw [e2]; exact hs) r h2).symm
/-- the set with a put in, for the call at a -/
theorem cl_in {vs : List LV} (hd : Down vs) {S : Int → Bool} {k j : Nat} (hc : Cl vs S k) {a : Int} (h : (aft vs k)[j]? = some a) : Cl vs (fun r => decide (r = a) || sTo vs k S j r) a.toNat := by
  intro x hx hs b hb
  have h1 := hd k a (List.mem_of_getElem? h)
  have hne : ¬ (x : Int) = a := by omega
  dsimp only at hs ⊢
  rw [decide_eq_false hne, Bool.false_or] at hs
  rw [cl_to hd hc j x (by omega) hs b hb, Bool.or_true]
/-- how often a call may put something in -/
def tnN : Nat → Nat
  | 0 => 0
  | k + 1 => 10 * (1 + tnN k)
theorem tnN_mono {a b : Nat} (h : a ≤ b) : tnN a ≤ tnN b := by
  induction b with
  | zero => have : a = 0 := by omega
            subst this; exact Nat.le_refl _
  | succ b ih =>
    rcases Nat.lt_or_ge b a with h1 | h1
    · have : a = b + 1 := by omega
      subst this; exact Nat.le_refl _
    · have := ih h1
      simp only [tnN]; omega
theorem tnN_le {k : Nat} (h : k ≤ 10) : tnN k ≤ 20000000000 := Nat.le_trans (tnN_mono h) (by decide)

/-- what comes out of the set's keys, whatever their order -/
theorem keys_or {m : Int} (hm : 0 ≤ m) {xs : List Int} (h0 : ∀ x ∈ xs, 0 ≤ x) (h : ∀ r : Int, r ∈ xs ↔ hasP m r = true) : xs.foldl withI 0 = m := by
  have hw : ∀ (ys : List Int) (b : Int), 0 ≤ b → (∀ y ∈ ys, 0 ≤ y) → 0 ≤ ys.foldl withI b ∧ ∀ j : Nat, hasI (ys.foldl withI b) j = (hasI b j || ys.any fun y => decide ((j : Int) = y)) := by
    intro ys
    induction ys with
    | nil => intro b hb _; exact ⟨hb, fun j => by simp⟩
    | cons y ys ih =>
      intro b hb hy
      rw [List.foldl_cons]
      have h1 := ih (withI b y) (withI_nonneg _ _) fun z hz => hy z (by simp [hz])
      refine ⟨h1.1, fun j => ?_⟩
      rw [h1.2 j, hasI_with b y j (by omega) (hy y (by simp)), List.any_cons, Bool.or_assoc]
  have h1 := hw xs 0 (Int.le_refl _) h0
  refine hasI_ext h1.1 hm fun j => ?_
  rw [h1.2 j, hasI_zero, Bool.false_or, Bool.eq_iff_iff, List.any_eq_true]
  have h2 := h (j : Int)
  unfold hasP at h2
  rw [decide_eq_true (by omega), Bool.true_and] at h2
  rw [← h2]
  constructor
  · rintro ⟨y, hy, e⟩; rw [decide_eq_true_eq] at e; rw [e]; exact hy
  · intro hy; exact ⟨(j : Int), hy, by simp⟩
end Go.Proofs.Ytbklbhbjlbojdaa
