/- FnLiftOrders: a further lift that needs nothing and is needed by nothing can be anywhere in each order; how many orders there are at most. Plain. -/
import Derived.Test.YtbklbhbjlbojdaaCountLaw
import Derived.Test.YtbklbhbjlbojdaaNeedLaw
namespace Go.Proofs.Ytbklbhbjlbojdaa
open Go.RowKit
set_option linter.unusedVariables false

/-- two sets with the same numbers below n -/
def SameTo (n : Nat) (m m0 : Int) : Prop := ∀ j : Nat, j < n → hasI m j = hasI m0 j
theorem SameTo.with_ {n : Nat} {m m0 : Int} (h : SameTo n m m0) (x : Nat) : SameTo n (withI m x) (withI m0 x) := by
  intro j hj
  rw [hasI_with _ _ _ (by omega) (by omega), hasI_with _ _ _ (by omega) (by omega), h j hj]
theorem SameTo.miss_ {n : Nat} {m m0 : Int} (h : SameTo n m m0) : miss n m = miss n m0 := by
  unfold miss; rw [cntTo_same n h]
theorem allTo_same {p q : Nat → Bool} : ∀ (k : Nat), (∀ j, j < k → p j = q j) → allTo p k = allTo q k
  | 0, _ => rfl
  | k + 1, h => by rw [allTo_succ, allTo_succ, allTo_same k fun j hj => h j (by omega), h k (by omega)]
theorem canB_same {vs : List LV} (hd : Down vs) {n : Nat} {m m0 : Int} (h : SameTo n m m0) {k : Nat} (hk : k < n) : canB vs m k = canB vs m0 k := by
  cases hv : vs[k]? with
  | none => simp only [canB, hv]
  | some v =>
    rw [canB_of hv, canB_of hv, h k hk]
    congr 1
    refine allTo_same _ fun j hj => ?_
    have hx : v.2[j]? = some (v.2[j]'hj) := List.getElem?_eq_getElem hj
    rw [inAt_of hx, inAt_of hx]
    have h1 := hd k (v.2[j]'hj) (by rw [aft_of hv]; exact List.getElem_mem hj)
    obtain ⟨a, ha⟩ := Int.eq_ofNat_of_zero_le h1.1
    rw [ha] at h1 ⊢
    exact h a (by omega)
theorem rdTo_same {vs ws : List LV} {m m0 : Int} : ∀ k : Nat, (∀ j, j < k → canB vs m j = canB ws m0 j) → rdTo vs m k = rdTo ws m0 k
  | 0, _ => rfl
  | k + 1, h => by
    have ih := rdTo_same k fun j hj => h j (by omega)
    cases hc : canB vs m k
    · rw [rdTo_no hc, rdTo_no (by rw [← h k (by omega)]; exact hc), ih]
    · rw [rdTo_yes hc, rdTo_yes (by rw [← h k (by omega)]; exact hc), ih]
theorem canB_app {vs : List LV} {v : LV} {m : Int} {k : Nat} (hk : k < vs.length) : canB (vs ++ [v]) m k = canB vs m k := by
  simp only [canB, List.getElem?_append_left hk]
theorem gSum_same {vs ws : List LV} {n n2 : Nat} {m m0 : Int} : ∀ (xs : List Int), (∀ x ∈ xs, gOf vs n (withI m x) = gOf ws n2 (withI m0 x)) → gSum vs n m xs = gSum ws n2 m0 xs
  | [], _ => rfl
  | x :: xs, h => by rw [gSum_cons, gSum_cons, h x (by simp), gSum_same xs fun y hy => h y (by simp [hy])]
section
variable {vs : List LV} {v : LV} {n : Nat}
/-- the further lift is in the set -/
theorem g_in (hd : Down vs) (hn : vs.length = n) : ∀ (f : Nat) (m m0 : Int), hasI m n = true → SameTo n m m0 → miss n m0 = f → gOf (vs ++ [v]) (n + 1) m = gOf vs n m0 := by
  intro f
  induction f with
  | zero =>
    intro m m0 he hs hf
    have h1 : miss (n + 1) m = 0 := by
      have h2 := hs.miss_
      have h3 := cntTo_le (hasI m) n
      unfold miss at h2 hf ⊢
      simp only [cntTo, he, if_true]; omega
    rw [gOf_zero h1, gOf_zero hf]
  | succ f ih =>
    intro m m0 he hs hf
    have h1 : miss (n + 1) m = f + 1 := by
      have h2 := hs.miss_
      have h3 := cntTo_le (hasI m) n
      unfold miss at h2 hf ⊢
      simp only [cntTo, he, if_true]; omega
    rw [gOf_step h1, gOf_step hf]
    have hr : rdTo (vs ++ [v]) m (n + 1) = rdTo vs m0 n := by
      have hno : canB (vs ++ [v]) m n = false := by
        cases hc : canB (vs ++ [v]) m n
        · rfl
        · have := canB_not hc; rw [he] at this; cases this
      rw [rdTo_no hno]
      exact rdTo_same n fun j hj => by rw [canB_app (by omega)]; exact canB_same hd hs hj
    rw [hr]
    refine gSum_same _ fun x hx => ?_
    obtain ⟨j, rfl, hj, hc⟩ := rdTo_mem hx
    have h5 := miss_with hj (canB_not hc)
    exact ih _ _ (by rw [hasI_with _ _ _ (by omega) (by omega), he]; rfl) (hs.with_ j) (by omega)
theorem rdTo_none {m : Int} (h : miss n m = 0) : rdTo vs m n = [] := by
  rw [List.eq_nil_iff_forall_not_mem]
  intro x hx
  obtain ⟨j, rfl, hj, hc⟩ := rdTo_mem hx
  have := miss_with hj (canB_not hc)
  omega
theorem gSum_app (vs : List LV) (n : Nat) (m : Int) (xs ys : List Int) : gSum vs n m (xs ++ ys) = gSum vs n m xs + gSum vs n m ys := by
  unfold gSum; rw [List.map_append, List.sum_append]
theorem gSum_mul {ws : List LV} {n2 : Nat} {m : Int} {c : Int} : ∀ (xs : List Int), (∀ x ∈ xs, gOf ws n2 (withI m x) = c * gOf vs n (withI m x)) → gSum ws n2 m xs = c * gSum vs n m xs
  | [], _ => by rw [gSum_nil, gSum_nil, Int.mul_zero]
  | x :: xs, h => by rw [gSum_cons, gSum_cons, h x (by simp), gSum_mul xs fun y hy => h y (by simp [hy]), Int.mul_add]
/-- the further lift is not in the set -/
theorem g_out (hd : Down vs) (hn : vs.length = n) (hv : v.2 = []) : ∀ (f : Nat) (m : Int), hasI m n = false → miss n m = f → gOf (vs ++ [v]) (n + 1) m = ((f : Int) + 1) * gOf vs n m := by
  intro f
  induction f with
  | zero =>
    intro m he hf
    have h1 : miss (n + 1) m = 0 + 1 := by
      have h3 := cntTo_le (hasI m) n
      unfold miss at hf ⊢
      simp only [cntTo, he]; simp; omega
    have hyes : canB (vs ++ [v]) m n = true := by
      rw [canB_of (show (vs ++ [v])[n]? = some v by rw [← hn]; simp), he, hv]; rfl
    rw [gOf_step h1, rdTo_yes hyes, rdTo_same (ws := vs) (m0 := m) n (fun j hj => canB_app (by omega)), rdTo_none hf, List.nil_append, gSum_cons, gSum_nil,
      g_in hd hn 0 (withI m n) m (by rw [hasI_with _ _ _ (by omega) (by omega)]; simp) (fun j hj => by rw [hasI_with _ _ _ (by omega) (by omega), decide_eq_false (by omega), Bool.or_false]) hf]
    omega
  | succ f ih =>
    intro m he hf
    have h1 : miss (n + 1) m = (f + 1) + 1 := by
      have h3 := cntTo_le (hasI m) n
      unfold miss at hf ⊢
      simp only [cntTo, he]; simp; omega
    have hyes : canB (vs ++ [v]) m n = true := by
      rw [canB_of (show (vs ++ [v])[n]? = some v by rw [← hn]; simp), he, hv]; rfl
    rw [gOf_step h1, rdTo_yes hyes, rdTo_same (ws := vs) (m0 := m) n (fun j hj => canB_app (by omega)), gSum_app, gSum_cons, gSum_nil,
      g_in hd hn (f + 1) (withI m n) m (by rw [hasI_with _ _ _ (by omega) (by omega)]; simp) (fun j hj => by rw [hasI_with _ _ _ (by omega) (by omega), decide_eq_false (by omega), Bool.or_false]) hf]
    rw [gSum_mul (vs := vs) (n := n) (c := (f : Int) + 1) _ (fun x hx => by
      obtain ⟨j, rfl, hj, hc⟩ := rdTo_mem hx
      have h5 := miss_with hj (canB_not hc)
      exact ih _ (by rw [hasI_with _ _ _ (by omega) (by omega), he, decide_eq_false (by omega)]; rfl) (by omega)), ← gOf_step hf]
    push_cast
    rw [Int.add_mul ((f : Int) + 1) 1, Int.one_mul]; omega
theorem miss_start (n : Nat) : miss n 0 = n := by
  unfold miss
  rw [cntTo_same (S' := fun _ => false) n (fun j _ => hasI_zero j), cntTo_none]; omega
/-- orders with a further lift -/
theorem orders_more (hd : Down vs) (hv : v.2 = []) : gOf (vs ++ [v]) (vs.length + 1) 0 = gOf vs vs.length 0 * ((vs.length : Int) + 1) := by
  rw [g_out hd rfl hv vs.length 0 (hasI_zero _) (miss_start _), Int.mul_comm]

/-! how many orders -/
theorem miss_some {m : Int} (h : miss n m ≠ 0) : ∃ k : Nat, k < n ∧ hasI m k = false ∧ ∀ j : Nat, j < k → hasI m j = true := by
  have h2 : ∃ k : Nat, k < n ∧ hasI m k = false := by
    rcases Classical.em (∃ k : Nat, k < n ∧ hasI m k = false) with h3 | h3
    · exact h3
    · exfalso
      apply h
      unfold miss
      rw [cntTo_same (S' := fun _ => true) n (fun j hj => by
        cases hc : hasI m j
        · exact absurd ⟨j, hj, hc⟩ h3
        · rfl), cnt_true]; omega
  obtain ⟨k0, hk0, hc0⟩ := h2
  clear h
  induction k0 using Nat.strongRecOn with
  | ind k0 ih =>
    rcases Classical.em (∃ j : Nat, j < k0 ∧ hasI m j = false) with ⟨j, hj, hc⟩ | h3
    · exact ih j hj (by omega) hc
    · refine ⟨k0, hk0, hc0, fun j hj => ?_⟩
      cases hc : hasI m j
      · exact absurd ⟨j, hj, hc⟩ h3
      · rfl
theorem rdTo_has {m : Int} {k : Nat} (hk : k < n) (hc : canB vs m k = true) : (k : Int) ∈ rdTo vs m n := by
  unfold rdTo
  exact List.mem_map.2 ⟨k, by rw [List.mem_filter, List.mem_range]; exact ⟨hk, hc⟩, rfl⟩
theorem gSum_pos {m : Int} : ∀ (xs : List Int), (∀ x ∈ xs, 1 ≤ gOf vs n (withI m x)) → xs ≠ [] → 1 ≤ gSum vs n m xs
  | [], _, h => absurd rfl h
  | x :: xs, h, _ => by
    rw [gSum_cons]
    have h1 := h x (by simp)
    cases xs with
    | nil => rw [gSum_nil]; omega
    | cons y ys =>
      have := gSum_pos (y :: ys) (fun z hz => h z (by simp [hz])) (by simp)
      omega
theorem orders_pos (hd : Down vs) (hn : vs.length = n) : ∀ (f : Nat) (m : Int), miss n m = f → 1 ≤ gOf vs n m := by
  intro f
  induction f with
  | zero => intro m hf; rw [gOf_zero hf]; omega
  | succ f ih =>
    intro m hf
    obtain ⟨k, hk, hc, hlt⟩ := miss_some (n := n) (m := m) (by omega)
    rw [gOf_step hf]
    refine gSum_pos _ (fun x hx => ?_) ?_
    · obtain ⟨j, rfl, hj, hc2⟩ := rdTo_mem hx
      have h5 := miss_with hj (canB_not hc2)
      exact ih _ (by omega)
    · have hv : vs[k]? = some (vs[k]'(by omega)) := List.getElem?_eq_getElem _
      have hcan : canB vs m k = true := by
        rw [canB_of hv, hc]
        show allTo _ _ = true
        rw [allTo_iff]
        intro j hj
        have hx : (vs[k]'(by omega)).2[j]? = some ((vs[k]'(by omega)).2[j]'hj) := List.getElem?_eq_getElem hj
        rw [inAt_of hx]
        have h1 := hd k _ (by rw [aft_of hv]; exact List.getElem_mem hj)
        obtain ⟨a, ha⟩ := Int.eq_ofNat_of_zero_le h1.1
        rw [ha] at h1 ⊢
        exact hlt a (by omega)
      intro he
      have := rdTo_has hk hcan
      rw [he] at this; cases this
def facI : Nat → Int
  | 0 => 1
  | k + 1 => facI k * ((k : Int) + 1)
theorem facI_pos : ∀ k, 1 ≤ facI k
  | 0 => by decide
  | k + 1 => by
    have h1 := facI_pos k
    simp only [facI]
    have := Int.mul_le_mul h1 (show (1 : Int) ≤ (k : Int) + 1 by omega) (by omega) (by omega)
    omega
theorem rdTo_cnt {m : Int} : ∀ k : Nat, (rdTo vs m k).length + cntTo (hasI m) k ≤ k
  | 0 => by simp [rdTo, cntTo]
  | k + 1 => by
    have ih := rdTo_cnt (m := m) k
    simp only [cntTo]
    cases hc : canB vs m k
    · rw [rdTo_no hc]; split <;> omega
    · rw [rdTo_yes hc, canB_not hc, List.length_append, List.length_singleton]; simp; omega
theorem orders_le : ∀ (f : Nat) (m : Int), miss n m = f → 0 ≤ gOf vs n m ∧ gOf vs n m ≤ facI f := by
  intro f
  induction f with
  | zero => intro m hf; rw [gOf_zero hf]; simp [facI]
  | succ f ih =>
    intro m hf
    have hc := rdTo_cnt (vs := vs) (m := m) n
    have hl : (rdTo vs m n).length ≤ f + 1 := by unfold miss at hf; omega
    have hp := facI_pos f
    have h := sum_bd (g := fun x => gOf vs n (withI m x)) (B := facI f) (by omega) (rdTo vs m n) (fun x hx => by
      obtain ⟨j, rfl, hj, hc2⟩ := rdTo_mem hx
      have h5 := miss_with hj (canB_not hc2)
      exact ih _ (by omega))
    rw [gOf_step hf]
    refine ⟨h.1, Int.le_trans h.2 ?_⟩
    simp only [facI]
    rw [Int.mul_comm (facI f)]
    exact Int.mul_le_mul_of_nonneg_right (by omega) (by omega)
def freeB (vs : List LV) : Bool := vs.all fun v => decide (v.2.length = 0)
theorem rdTo_free {m : Int} (hfree : freeB vs = true) : ∀ k : Nat, k ≤ vs.length → (rdTo vs m k).length + cntTo (hasI m) k = k
  | 0, _ => by simp [rdTo, cntTo]
  | k + 1, hk => by
    have ih := rdTo_free (m := m) hfree k (by omega)
    have hv : vs[k]? = some (vs[k]'(by omega)) := List.getElem?_eq_getElem _
    have h0 : (vs[k]'(by omega)).2.length = 0 := by
      unfold freeB at hfree
      rw [List.all_eq_true] at hfree
      exact of_decide_eq_true (hfree _ (List.getElem_mem _))
    have hcan : canB vs m k = !hasI m k := by rw [canB_of hv, h0, allTo_zero, Bool.and_true]
    simp only [cntTo]
    cases hc : hasI m k
    · rw [hc] at hcan; rw [rdTo_yes hcan, List.length_append, List.length_singleton]; simp; omega
    · rw [hc] at hcan; rw [rdTo_no hcan]; simp; omega
theorem gSum_const {m c : Int} : ∀ (xs : List Int), (∀ x ∈ xs, gOf vs n (withI m x) = c) → gSum vs n m xs = (xs.length : Int) * c
  | [], _ => by rw [gSum_nil]; simp
  | x :: xs, h => by
    rw [gSum_cons, h x (by simp), gSum_const xs fun y hy => h y (by simp [hy]), List.length_cons]
    push_cast
    rw [Int.add_mul, Int.one_mul]; omega
theorem orders_free (hn : vs.length = n) (hfree : freeB vs = true) : ∀ (f : Nat) (m : Int), miss n m = f → gOf vs n m = facI f := by
  intro f
  induction f with
  | zero => intro m hf; rw [gOf_zero hf]; rfl
  | succ f ih =>
    intro m hf
    have hl : (rdTo vs m n).length = f + 1 := by
      have := rdTo_free (m := m) hfree n (by omega)
      have h3 := cntTo_le (hasI m) n
      unfold miss at hf; omega
    rw [gOf_step hf, gSum_const (c := facI f) _ (fun x hx => by
      obtain ⟨j, rfl, hj, hc2⟩ := rdTo_mem hx
      have h5 := miss_with hj (canB_not hc2)
      exact ih _ (by omega)), hl]
    simp only [facI]
    push_cast
    rw [Int.mul_comm]
theorem rdTo_miss1 {m : Int} {k0 : Nat} (h0 : canB vs m k0 = false) (h1 : hasI m k0 = false) : ∀ k : Nat, (rdTo vs m k).length + cntTo (hasI m) k + (if k0 < k then 1 else 0) ≤ k
  | 0 => by simp [rdTo, cntTo]
  | k + 1 => by
    have ih := rdTo_miss1 h0 h1 k
    simp only [cntTo]
    by_cases hk : k0 = k
    · subst hk
      rw [rdTo_no h0, h1]
      simp at ih ⊢; omega
    · cases hc : canB vs m k
      · rw [rdTo_no hc]
        by_cases h2 : k0 < k
        · rw [if_pos h2] at ih; rw [if_pos (show k0 < k + 1 by omega)]; split <;> omega
        · rw [if_neg h2] at ih; rw [if_neg (show ¬ k0 < k + 1 by omega)]; split <;> omega
      · rw [rdTo_yes hc, canB_not hc, List.length_append, List.length_singleton]
        by_cases h2 : k0 < k
        · rw [if_pos h2] at ih; rw [if_pos (show k0 < k + 1 by omega)]; simp; omega
        · rw [if_neg h2] at ih; rw [if_neg (show ¬ k0 < k + 1 by omega)]; simp; omega
theorem orders_less (hd : Down vs) (hfree : freeB vs = false) : gOf vs vs.length 0 < facI vs.length := by
  unfold freeB at hfree
  rw [List.all_eq_false] at hfree
  obtain ⟨v, hv, hne⟩ := hfree
  obtain ⟨k0, hk0, rfl⟩ := List.getElem_of_mem hv
  have hvk : vs[k0]? = some (vs[k0]'hk0) := List.getElem?_eq_getElem _
  have hpos : 0 < (vs[k0]'hk0).2.length := by
    rcases Nat.eq_zero_or_pos (vs[k0]'hk0).2.length with h | h
    · rw [h] at hne; simp at hne
    · exact h
  have hno : canB vs 0 k0 = false := by
    rw [canB_of hvk, allTo_bad hpos (by rw [inAt_of (List.getElem?_eq_getElem hpos)]; exact hasI_zero _), Bool.and_false]
  have hl := rdTo_miss1 hno (hasI_zero _) vs.length
  rw [if_pos hk0] at hl
  obtain ⟨f, hf⟩ : ∃ f, vs.length = f + 1 := ⟨vs.length - 1, by omega⟩
  have hms : miss vs.length 0 = f + 1 := by rw [miss_start]; exact hf
  have hp := facI_pos f
  have h := sum_bd (g := fun x => gOf vs vs.length (withI 0 x)) (B := facI f) (by omega) (rdTo vs 0 vs.length) (fun x hx => by
    obtain ⟨j, rfl, hj, hc2⟩ := rdTo_mem hx
    have h5 := miss_with hj (canB_not hc2)
    exact orders_le _ _ (by omega))
  rw [gOf_step hms]
  have h6 : (((rdTo vs 0 vs.length).length : Nat) : Int) * facI f ≤ (f : Int) * facI f := Int.mul_le_mul_of_nonneg_right (by omega) (by omega)
  have h7 : facI vs.length = (f : Int) * facI f + facI f := by rw [hf]; simp only [facI]; rw [Int.mul_add, Int.mul_one, Int.mul_comm]
  rw [h7]
  have h8 : gSum vs vs.length 0 (rdTo vs 0 vs.length) ≤ (((rdTo vs 0 vs.length).length : Nat) : Int) * facI f := h.2
  omega
theorem orders_iff (hd : Down vs) : (gOf vs vs.length 0 = facI vs.length) ↔ freeB vs = true := by
  constructor
  · intro h
    cases hf : freeB vs
    · have := orders_less hd hf; omega
    · rfl
  · intro h
    exact orders_free rfl h _ _ (miss_start _)
end
end Go.Proofs.Ytbklbhbjlbojdaa
