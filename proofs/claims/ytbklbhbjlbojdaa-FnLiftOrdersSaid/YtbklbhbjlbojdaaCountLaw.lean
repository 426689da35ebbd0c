/- Orders counted: from a set on (gOf), and over all sets (dot); a memo of numbers kept in a map. Plain but for the words on memory; no program in sight. -/
import Derived.Test.YtbklbhbjlbojdaaReady
import Derived.Test.YtbklbhbjlbojdaaIntSet
import Derived.Test.YtbklbhbjlbojdaaRawMap
import Derived.Maps.OwnSet
namespace Go.Proofs.Ytbklbhbjlbojdaa
open Go.RowKit Go.WideMaps Go.Maps
set_option linter.unusedVariables false

theorem canB_not {vs : List LV} {m : Int} {k : Nat} (h : canB vs m k = true) : hasI m k = false := by
  unfold canB at h
  split at h
  · rw [Bool.and_eq_true] at h; simpa using h.1
  · cases h
/-- how many lifts are not in the set -/
def miss (n : Nat) (m : Int) : Nat := n - cntTo (hasI m) n
theorem miss_with {n k : Nat} {m : Int} (hk : k < n) (h : hasI m k = false) : miss n (withI m k) + 1 = miss n m := by
  unfold miss
  have e : cntTo (hasI (withI m k)) n = cntTo (hasI m) n + 1 := by
    rw [cntTo_same (S' := fun r => decide (r = (k : Int)) || hasI m r) n (fun q hq => by rw [hasI_with _ _ _ (by omega) (by omega), Bool.or_comm]), cntTo_new h n hk]
  have := cntTo_le (hasI (withI m k)) n
  omega
theorem miss_le (n : Nat) (m : Int) : miss n m ≤ n := by unfold miss; omega
theorem cnt_all {S : Int → Bool} : ∀ n : Nat, cntTo S n = n → ∀ k : Nat, k < n → S k = true
  | 0, _, k, hk => absurd hk (by omega)
  | n + 1, h, k, hk => by
    simp only [cntTo] at h
    have h1 := cntTo_le S n
    cases hs : S (n : Int) with
    | false => rw [hs] at h; simp at h; omega
    | true =>
      rw [hs] at h
      by_cases e : k = n
      · subst e; exact hs
      · exact cnt_all n (by simp at h; omega) k (by omega)
theorem cnt_true : ∀ n : Nat, cntTo (fun _ => true) n = n
  | 0 => rfl
  | n + 1 => by simp only [cntTo]; simp [cnt_true n]
theorem miss_full (n : Nat) : miss n (((2 ^ n - 1 : Nat)) : Int) = 0 := by
  unfold miss
  have : cntTo (hasI (((2 ^ n - 1 : Nat)) : Int)) n = n := by
    rw [cntTo_same (S' := fun _ => true) n (fun j hj => by unfold hasI; rw [Int.toNat_natCast, Int.toNat_natCast, Nat.testBit_two_pow_sub_one]; exact decide_eq_true hj)]
    exact cnt_true n
  omega
theorem miss_zero {n a : Nat} (ha : a < 2 ^ n) (h : miss n (a : Int) = 0) : a = 2 ^ n - 1 := by
  unfold miss at h
  have h1 := cntTo_le (hasI (a : Int)) n
  have h2 := cnt_all n (show cntTo (hasI (a : Int)) n = n by omega)
  apply Nat.eq_of_testBit_eq
  intro i
  rw [Nat.testBit_two_pow_sub_one]
  by_cases hi : i < n
  · have := h2 i hi
    unfold hasI at this
    rw [Int.toNat_natCast, Int.toNat_natCast] at this
    rw [this, decide_eq_true hi]
  · rw [decide_eq_false hi]
    exact Nat.testBit_lt_two_pow (Nat.lt_of_lt_of_le ha (Nat.pow_le_pow_right (by omega) (by omega)))

def cmpF (vs : List LV) (n : Nat) : Nat → Int → Int
  | 0, _ => 1
  | f + 1, m => ((rdTo vs m n).map fun x => cmpF vs n f (withI m x)).sum
/-- the number of orders of the lifts that are not in the set -/
def gOf (vs : List LV) (n : Nat) (m : Int) : Int := cmpF vs n (miss n m) m
def gSum (vs : List LV) (n : Nat) (m : Int) (xs : List Int) : Int := (xs.map fun x => gOf vs n (withI m x)).sum
theorem gOf_zero {vs : List LV} {n : Nat} {m : Int} (h : miss n m = 0) : gOf vs n m = 1 := by unfold gOf; rw [h]; rfl
theorem gOf_step {vs : List LV} {n f : Nat} {m : Int} (h : miss n m = f + 1) : gOf vs n m = gSum vs n m (rdTo vs m n) := by
  unfold gOf gSum; rw [h]
  show ((rdTo vs m n).map fun x => cmpF vs n f (withI m x)).sum = _
  congr 1
  apply List.map_congr_left
  intro x hx
  obtain ⟨j, rfl, hj, hc⟩ := rdTo_mem hx
  have := miss_with hj (canB_not hc)
  unfold gOf
  rw [show miss n (withI m (j : Int)) = f by omega]
theorem gSum_nil (vs : List LV) (n : Nat) (m : Int) : gSum vs n m [] = 0 := rfl
theorem gSum_cons (vs : List LV) (n : Nat) (m x : Int) (xs : List Int) : gSum vs n m (x :: xs) = gOf vs n (withI m x) + gSum vs n m xs := by unfold gSum; rw [List.map_cons, List.sum_cons]
theorem gSum_take {vs : List LV} {n : Nat} {m x : Int} {xs : List Int} {q : Nat} (h : xs[q]? = some x) : gSum vs n m (xs.take (q + 1)) = gSum vs n m (xs.take q) + gOf vs n (withI m x) := by
  obtain ⟨hq, rfl⟩ := List.getElem?_eq_some_iff.1 h
  unfold gSum
  rw [List.take_succ_eq_append_getElem hq, List.map_append, List.sum_append, List.map_cons, List.map_nil, List.sum_cons, List.sum_nil, Int.add_zero]

def tenP : Nat → Int
  | 0 => 1
  | f + 1 => 10 * tenP f
def tenN : Nat → Nat
  | 0 => 0
  | f + 1 => 1 + 10 * tenN f
theorem tenP_pos : ∀ f, 1 ≤ tenP f
  | 0 => by decide
  | f + 1 => by have := tenP_pos f; simp only [tenP]; omega
theorem tenP_mono : ∀ a b, tenP a ≤ tenP (a + b)
  | a, 0 => Int.le_refl _
  | a, b + 1 => by have := tenP_mono a b; have := tenP_pos (a + b); rw [← Nat.add_assoc]; simp only [tenP]; omega
theorem tenP_le {f : Nat} (h : f ≤ 10) : tenP f ≤ 10000000000 := by
  have := tenP_mono f (10 - f)
  rw [show f + (10 - f) = 10 by omega] at this
  exact Int.le_trans this (by decide)
theorem tenN_mono : ∀ a b, tenN a ≤ tenN (a + b)
  | a, 0 => Nat.le_refl _
  | a, b + 1 => by have := tenN_mono a b; rw [← Nat.add_assoc]; simp only [tenN]; omega
theorem tenN_le {f : Nat} (h : f ≤ 10) : tenN f ≤ 2000000000 := by
  have := tenN_mono f (10 - f)
  rw [show f + (10 - f) = 10 by omega] at this
  exact Nat.le_trans this (by decide)
theorem sum_bd {g : Int → Int} {B : Int} (hB : 0 ≤ B) : ∀ xs : List Int, (∀ y ∈ xs, 0 ≤ g y ∧ g y ≤ B) → 0 ≤ (xs.map g).sum ∧ (xs.map g).sum ≤ (xs.length : Int) * B
  | [], _ => by simp
  | y :: ys, h => by
    have h1 := h y (by simp)
    have h2 := sum_bd hB ys (fun z hz => h z (by simp [hz]))
    rw [List.map_cons, List.sum_cons, List.length_cons]
    have e : ((ys.length + 1 : Nat) : Int) * B = (ys.length : Int) * B + B := by push_cast; rw [Int.add_mul, Int.one_mul]
    omega
theorem cmpF_bd (vs : List LV) {n : Nat} (hn : n ≤ 10) : ∀ f m, 0 ≤ cmpF vs n f m ∧ cmpF vs n f m ≤ tenP f
  | 0, m => by simp [cmpF, tenP]
  | f + 1, m => by
    have hp := tenP_pos f
    have h := sum_bd (g := fun x => cmpF vs n f (withI m x)) (B := tenP f) (by omega) (rdTo vs m n) (fun y _ => cmpF_bd vs hn f _)
    have hl := rdTo_len vs m n
    refine ⟨h.1, Int.le_trans h.2 ?_⟩
    simp only [tenP]
    exact Int.mul_le_mul_of_nonneg_right (by omega) (by omega)
theorem gOf_bd (vs : List LV) {n : Nat} (hn : n ≤ 10) (m : Int) : 0 ≤ gOf vs n m ∧ gOf vs n m ≤ tenP (miss n m) := cmpF_bd vs hn _ m
theorem gOf_big (vs : List LV) {n : Nat} (hn : n ≤ 10) (m : Int) : 0 ≤ gOf vs n m ∧ gOf vs n m ≤ 10000000000 := by
  have h := gOf_bd vs hn m
  have h2 := tenP_le (f := miss n m) (by have := miss_le n m; omega)
  omega
theorem gSum_big (vs : List LV) {n : Nat} (hn : n ≤ 10) (m : Int) (xs : List Int) (hx : xs.length ≤ 10) : 0 ≤ gSum vs n m xs ∧ gSum vs n m xs ≤ 100000000000 := by
  have h := sum_bd (g := fun x => gOf vs n (withI m x)) (B := 10000000000) (by omega) xs (fun y _ => gOf_big vs hn _)
  unfold gSum
  omega

/-! over all sets -/
def dot (g : Nat → Int) : Nat → List Int → Int
  | _, [] => 0
  | s, x :: xs => x * g s + dot g (s + 1) xs
theorem dot_add (g : Nat → Int) (d : Int) : ∀ (xs : List Int) (s i : Nat) (x : Int), xs[i]? = some x → dot g s (xs.set i (x + d)) = dot g s xs + d * g (s + i)
  | [], _, _, _, h => by simp at h
  | y :: ys, s, 0, x, h => by
    simp at h; subst h
    simp only [List.set_cons_zero, dot, Nat.add_zero]
    rw [Int.add_mul]; omega
  | y :: ys, s, i + 1, x, h => by
    simp only [List.set_cons_succ, dot]
    rw [dot_add g d ys (s + 1) i x (by simpa using h), show s + 1 + i = s + (i + 1) by omega]; omega
theorem dot_pos {g : Nat → Int} (hg : ∀ t, 0 ≤ g t) : ∀ (xs : List Int) (s : Nat), (∀ x ∈ xs, 0 ≤ x) → 0 ≤ dot g s xs
  | [], _, _ => Int.le_refl _
  | y :: ys, s, h => by
    simp only [dot]
    have h1 := Int.mul_nonneg (h y (by simp)) (hg s)
    have h2 := dot_pos hg ys (s + 1) (fun x hx => h x (by simp [hx]))
    omega
theorem dot_ge {g : Nat → Int} (hg : ∀ t, 0 ≤ g t) : ∀ (xs : List Int) (s i : Nat) (x : Int), (∀ x ∈ xs, 0 ≤ x) → xs[i]? = some x → x * g (s + i) ≤ dot g s xs
  | [], _, _, _, _, h => by simp at h
  | y :: ys, s, 0, x, hx, h => by
    simp at h; subst h
    simp only [dot, Nat.add_zero]
    have := dot_pos hg ys (s + 1) (fun x hx' => hx x (by simp [hx'])); omega
  | y :: ys, s, i + 1, x, hx, h => by
    simp only [dot]
    have h1 := Int.mul_nonneg (hx y (by simp)) (hg s)
    have h2 := dot_ge hg ys (s + 1) i x (fun x hx' => hx x (by simp [hx'])) (by simpa using h)
    rw [show s + 1 + i = s + (i + 1) by omega] at h2; omega
def dotAt (g : Nat → Int) (s : Nat) (ws : List Int) : Int := dot g s (ws.drop s)
theorem dotAt_step {g : Nat → Int} {s : Nat} {ws : List Int} {x : Int} (h : ws[s]? = some x) : dotAt g s ws = x * g s + dotAt g (s + 1) ws := by
  obtain ⟨hs, rfl⟩ := List.getElem?_eq_some_iff.1 h
  unfold dotAt
  rw [List.drop_eq_getElem_cons hs]; rfl
theorem dotAt_add {g : Nat → Int} {s u : Nat} {ws : List Int} {y d : Int} (hu : s ≤ u) (h : ws[u]? = some y) : dotAt g s (ws.set u (y + d)) = dotAt g s ws + d * g u := by
  unfold dotAt
  obtain ⟨i, rfl⟩ := Nat.exists_eq_add_of_le hu
  have e : (ws.set (s + i) (y + d)).drop s = (ws.drop s).set i (y + d) := by rw [List.set_drop]
  rw [e, dot_add g d (ws.drop s) s i y (by rw [List.getElem?_drop]; exact h)]
theorem dotAt_ge {g : Nat → Int} (hg : ∀ t, 0 ≤ g t) {s u : Nat} {ws : List Int} {y : Int} (hn : ∀ x ∈ ws, 0 ≤ x) (hu : s ≤ u) (h : ws[u]? = some y) : y * g u ≤ dotAt g s ws := by
  unfold dotAt
  obtain ⟨i, rfl⟩ := Nat.exists_eq_add_of_le hu
  exact dot_ge hg _ _ _ _ (fun x hx => hn x (List.mem_of_mem_drop hx)) (by rw [List.getElem?_drop]; exact h)
theorem dotAt_pos {g : Nat → Int} (hg : ∀ t, 0 ≤ g t) {s : Nat} {ws : List Int} (hn : ∀ x ∈ ws, 0 ≤ x) : 0 ≤ dotAt g s ws := dot_pos hg _ _ (fun x hx => hn x (List.mem_of_mem_drop hx))
theorem dotAt_last {g : Nat → Int} {s : Nat} {ws : List Int} {x : Int} (h : ws[s]? = some x) (hl : ws.length = s + 1) : dotAt g s ws = x * g s := by
  rw [dotAt_step h]
  unfold dotAt
  rw [List.drop_of_length_le (by omega)]; simp [dot]

theorem bump {x y b B D : Int} (hx : 0 ≤ x) (hy : 0 ≤ y) (hb : 1 ≤ b) (h1 : y * b ≤ D) (h2 : D + x * b ≤ B) : y + x ≤ B := by
  have e : (y + x) * b = y * b + x * b := Int.add_mul _ _ _
  have h3 : (y + x) * 1 ≤ (y + x) * b := Int.mul_le_mul_of_nonneg_left hb (by omega)
  omega

/-- what the sets from s on are worth -/
structure Inv (vs : List LV) (n M s : Nat) (ws : List Int) : Prop where
  len : ws.length = M
  nn : ∀ x ∈ ws, 0 ≤ x
  val : dotAt (fun t => gOf vs n t) s ws = gOf vs n 0
  bd : dotAt (fun t => tenP (miss n t)) s ws ≤ tenP n
/-- .. while set s (worth x) hands on what it has, the sets rs still to come -/
structure Mid (vs : List LV) (n M s : Nat) (x : Int) (rs : List Int) (f : Nat) (ws : List Int) : Prop where
  len : ws.length = M
  nn : ∀ x ∈ ws, 0 ≤ x
  here : ws[s]? = some x
  val : dotAt (fun t => gOf vs n t) (s + 1) ws + x * gSum vs n s rs = gOf vs n 0
  bd : dotAt (fun t => tenP (miss n t)) (s + 1) ws + x * ((rs.length : Int) * tenP f) ≤ tenP n
section
variable {vs : List LV} {n M s f : Nat} {ws rs : List Int} {x : Int}
theorem Inv.mid (h : Inv vs n M s ws) (hn : n ≤ 10) (hx : ws[s]? = some x) (hf : miss n (s : Int) = f + 1) : Mid vs n M s x (rdTo vs s n) f ws := by
  have hx0 : 0 ≤ x := h.nn x (List.mem_of_getElem? hx)
  refine ⟨h.len, h.nn, hx, ?_, ?_⟩
  · have h1 := h.val
    rw [dotAt_step hx] at h1
    try dsimp only at h1
    rw [gOf_step hf] at h1; omega
  · have h1 := h.bd
    rw [dotAt_step hx] at h1
    try dsimp only at h1
    rw [hf] at h1
    have hl := rdTo_len vs (s : Int) n
    have hp := tenP_pos f
    have h2 : ((rdTo vs (s : Int) n).length : Int) * tenP f ≤ tenP (f + 1) := by
      simp only [tenP]; exact Int.mul_le_mul_of_nonneg_right (by omega) (by omega)
    have h3 := Int.mul_le_mul_of_nonneg_left h2 hx0
    omega
theorem Mid.inv (h : Mid vs n M s x rs f ws) (hx : rs = [] ∨ x = 0) : Inv vs n M (s + 1) ws := by
  refine ⟨h.len, h.nn, ?_, ?_⟩
  · have h1 := h.val
    rcases hx with rfl | rfl
    · rw [gSum_nil] at h1; simpa using h1
    · simpa using h1
  · have h1 := h.bd
    rcases hx with rfl | rfl
    · simpa using h1
    · simpa using h1
theorem Mid.next {r y : Int} {u : Nat} (h : Mid vs n M s x (r :: rs) f ws) (hu : withI (s : Int) r = (u : Int)) (hsu : s < u) (hy : ws[u]? = some y) (hm : miss n (u : Int) = f) : 0 ≤ x ∧ 0 ≤ y ∧ y + x ≤ tenP n ∧ Mid vs n M s x rs f (ws.set u (y + x)) := by
  have hx0 : 0 ≤ x := h.nn x (List.mem_of_getElem? h.here)
  have hy0 : 0 ≤ y := h.nn y (List.mem_of_getElem? hy)
  have hp := tenP_pos f
  have e1 : x * (((r :: rs).length : Int) * tenP f) = x * ((rs.length : Int) * tenP f) + x * tenP f := by
    rw [List.length_cons]; push_cast; rw [Int.add_mul, Int.one_mul, Int.mul_add]
  have h1 := h.bd
  rw [e1] at h1
  have h0 : 0 ≤ x * ((rs.length : Int) * tenP f) := Int.mul_nonneg hx0 (Int.mul_nonneg (by omega) (by omega))
  have h2 := dotAt_ge (g := fun t => tenP (miss n t)) (fun t => by have := tenP_pos (miss n (t : Int)); omega) h.nn (show s + 1 ≤ u by omega) hy
  try dsimp only at h2
  rw [hm] at h2
  refine ⟨hx0, hy0, bump hx0 hy0 hp h2 (by omega), by rw [List.length_set]; exact h.len, ?_, ?_, ?_, ?_⟩
  · intro z hz
    rcases List.mem_or_eq_of_mem_set hz with hz | rfl
    · exact h.nn z hz
    · omega
  · rw [List.getElem?_set_ne (by omega)]; exact h.here
  · rw [dotAt_add (by omega) hy]
    have h3 := h.val
    rw [gSum_cons, hu, Int.mul_add] at h3
    omega
  · rw [dotAt_add (by omega) hy]
    try dsimp only
    rw [hm]; omega
end
theorem inv_start {vs : List LV} {n M : Nat} (hM : M = 2 ^ n) : Inv vs n M 0 ((List.replicate M (0 : Int)).set 0 1) := by
  have hM0 : 0 < M := by rw [hM]; exact Nat.two_pow_pos n
  have hz : ∀ (g : Nat → Int) (k s : Nat), dot g s (List.replicate k (0 : Int)) = 0 := by
    intro g k
    induction k with
    | zero => intro s; rfl
    | succ k ih => intro s; rw [List.replicate_succ]; simp only [dot]; rw [ih]; simp
  have e : ∀ g : Nat → Int, dotAt g 0 ((List.replicate M (0 : Int)).set 0 1) = g 0 := by
    intro g
    unfold dotAt
    rw [List.drop_zero, show (1 : Int) = 0 + 1 from rfl, dot_add g 1 _ 0 0 0 (by simp [hM0]), hz]; simp
  have hm : miss n (0 : Int) = n := by
    unfold miss
    have : hasI 0 = fun _ => false := funext fun j => hasI_zero j
    rw [this, cntTo_none]; rfl
  refine ⟨by simp, ?_, by rw [e]; rfl, by rw [e]; show tenP (miss n (0 : Int)) ≤ _; rw [hm]; exact Int.le_refl _⟩
  intro z hz2
  rcases List.mem_or_eq_of_mem_set hz2 with h | rfl
  · rw [List.mem_replicate] at h; omega
  · decide
theorem inv_end {vs : List LV} {n M s : Nat} {ws : List Int} {x : Int} (h : Inv vs n M s ws) (hM : M = 2 ^ n) (hs : s + 1 = M) (hx : ws[s]? = some x) : x = gOf vs n 0 := by
  have h1 := h.val
  rw [dotAt_last hx (by rw [h.len]; omega)] at h1
  try dsimp only at h1
  rw [gOf_zero (by rw [show s = 2 ^ n - 1 by omega]; exact miss_full n)] at h1
  omega
theorem rd_full {vs : List LV} {n : Nat} : rdTo vs (((2 ^ n - 1 : Nat)) : Int) n = [] := by
  apply List.eq_nil_iff_forall_not_mem.2
  intro x hx
  obtain ⟨j, rfl, hj, hc⟩ := rdTo_mem hx
  have := miss_with hj (canB_not hc)
  rw [miss_full] at this; omega

/-! a memo: a map[int64]int64; what it holds is what F says -/
def Memo (P : Program) (k : TypeId) (w : World) (b N : Nat) (S : Int → Bool) (F : Int → Int) : Prop :=
  ∃ D : DataW Value, w.ownsMap P k (fun v => some (.held v, [])) b N D ∧ Maps.IsMap D ∧ (∀ i : Int, Maps.has D (.int .i64 i) = S i) ∧ ∀ i : Int, S i = true → D.atKey (.int .i64 i) (.held (.int .i64 0)) = .held (.int .i64 (F i))
section
variable {P : Program} {k e t : TypeId} {w w' : World} {b N : Nat} {S : Int → Bool} {F : Int → Int}
theorem Memo.made (w : World) (F : Int → Int) : Memo P k (w.alloc (.map #[] 0)) w.heap.size 0 (fun _ => false) F :=
  ⟨.map [], World.ownsMap_made _ _ _ _, Maps.isMap_empty, fun _ => rfl, fun _ h => by cases h⟩
theorem Memo.lt (h : Memo P k w b N S F) : b < w.heap.size := by obtain ⟨D, h1, _⟩ := h; exact h1.lt
theorem Memo.block (h : Memo P k w b N S F) (hb : w'.heap[b]? = w.heap[b]?) : Memo P k w' b N S F := by
  obtain ⟨D, ⟨es, clock, h1, h3⟩, h2⟩ := h; exact ⟨D, ⟨es, clock, hb.trans h1, h3⟩, h2⟩
theorem Memo.bel {B : Nat} (h : Memo P k w b N S F) (hb : Below B w w') (hB : b < B) : Memo P k w' b N S F := h.block (hb.block b hB)
theorem Memo.drew (h : Memo P k w b N S F) : Memo P k w.drew b N S F := h.block rfl
theorem Memo.alloc (h : Memo P k w b N S F) (o : Obj) : Memo P k (w.alloc o) b N S F := h.bel ((Below.refl _ _).alloc (Nat.le_refl _) _) h.lt
theorem Memo.look (h : Memo P k w b N S F) (ht : P.underlying t = some (.map k e)) (hk : P.underlying k = some (.int .i64)) (hz : (zeroValue e).run P w = .ok (.int .i64 0) w) {i : Int} (hi : (Lit.int .i64 i).wf = true) :
    (Instr.lookup t (.map (some b)) (.int .i64 i) true).run P w = .ok (.tuple #[.int .i64 (if S i then F i else 0), .bool (S i)]) w := by
  obtain ⟨D, h1, h2, h3, h4⟩ := h
  obtain ⟨v, ps, hrun, hv⟩ := h1.look_ok (int_keyed hk) ht hz (zd := .held (.int .i64 0)) rfl (keyOf_int_mk hk hi)
  rw [hrun, h3]
  simp only [Option.some.injEq, Prod.mk.injEq] at hv
  have hv1 := hv.1
  cases hs : S i with
  | true =>
    rw [h4 i hs] at hv1
    simp only [DataW.held.injEq] at hv1
    rw [hv1]; rfl
  | false =>
    rw [Maps.atKey_of_not_has (by rw [h3, hs])] at hv1
    simp only [DataW.held.injEq] at hv1
    rw [hv1]; rfl
theorem wpList_put_memo {ops : Array Oper} {rest : List Oper} {o : Oper} {a : Act} {Q : Exit → Act → World → Prop}
    (hg : o.guard = none) (mo x v : Operand) (t : TypeId) (hop : o.op = Op.mapUpdate t mo x v)
    (k e : TypeId) (ht : P.underlying t = some (.map k e)) (hk : P.underlying k = some (.int .i64)) (b N : Nat) (S : Int → Bool) (F : Int → Int)
    (hm : a.eval mo = .map (some b)) (hown : Memo P k w b N S F) (hn : N < 9223372036854775807) (i : Int) (hx : a.eval x = .int .i64 i) (hv : a.eval v = .int .i64 (F i)) (hi : (Lit.int .i64 i).wf = true)
    (hK : ∀ w', Memo P k w' b (N + 1) (fun r => decide (r = i) || S r) F → w.grownBy w' (some b) → wpList P ops Q rest (a.put o.dst undef) w') :
    wpList P ops Q (o :: rest) a w := by
  obtain ⟨D, h1, h2, h3, h4⟩ := hown
  refine wpList_mapUpdate_own w hg mo x v t hop k e (int_keyed hk) ht _ b N D hm h1 (by unfold maxLen; omega) _ _ _ hx hv (keyOf_int_mk hk hi) (.held (.int .i64 (F i))) [] rfl fun w' r1 r2 => hK w' ⟨_, r1, h2.put _ _, fun r => ?_, fun r hr => ?_⟩ r2
  · by_cases hr : r = i
    · subst hr
      rw [Maps.has_put_same h2 (by simp [WideAt.IsKeyLit])]; simp
    · rw [Maps.has_put_other (fun h => hr (by injection h)), h3]; simp [hr]
  · by_cases hri : r = i
    · subst hri
      rw [Maps.atKey_put_same h2 (by simp [WideAt.IsKeyLit])]
    · rw [Maps.atKey_put_other (fun h => hri (by injection h))]
      exact h4 r (by simpa [hri] using hr)
end
end Go.Proofs.Ytbklbhbjlbojdaa
