/- A row that grows by append, its tail cut off or one of its cells written. No program in sight. -/
import Derived.Test.YtkegncanmfmmmaaDoorGrow
import Derived.Test.YtkegncanmfmmmaaDoorFind
namespace Go.Proofs.YtkegncanmfmmmaaDoor
open Go.RowKit
set_option linter.unusedVariables false
section
variable {α : Type} {c : α → List Value} {k : Nat} {w w' : World} {lo : Nat} {e : TypeId} {v : Value} {xs : List α}
theorem heap_new_at (w : World) (o : Obj) {g : Nat} (h : w.heap.size = g) : (w.alloc o).heap[g]? = some o := by subst h; exact heap_alloc_new _ _
theorem flat_len (hc : ∀ x, (c x).length = k) (zs : List α) : (zs.flatMap c).length = zs.length * k := by
  induction zs with
  | nil => simp
  | cons y zs ih => rw [List.flatMap_cons, List.length_append, hc, ih, List.length_cons, Nat.succ_mul]; omega
theorem flat_take (hc : ∀ x, (c x).length = k) : ∀ (zs : List α) (m : Nat), (zs.flatMap c).take (m * k) = (zs.take m).flatMap c
  | [], m => by simp
  | z :: zs, 0 => by simp
  | z :: zs, m + 1 => by
    rw [List.flatMap_cons, List.take_succ_cons, List.flatMap_cons, List.take_append, hc, ← flat_take hc zs m]
    rw [List.take_of_length_le (by rw [hc, Nat.succ_mul]; omega), show (m + 1) * k - k = m * k by rw [Nat.succ_mul]; omega]
/-- a row that holds something: its block, its length, its capacity -/
theorem Grow.parts (h : Grow c k w lo e v xs) (hn : 0 < xs.length) : ∃ g cap cs, v = .slice (some ⟨g, 0, none⟩) xs.length cap ∧ lo ≤ g ∧ g < w.heap.size ∧ w.heap[g]? = some (.cells cs e (0, 0)) ∧ xs.length ≤ cap ∧ cap ≤ maxLen ∧ cs.size = cap * k ∧ cs.toList.take (xs.length * k) = xs.flatMap c := by
  rcases h.2 with ⟨rfl, h0⟩ | ⟨g, cap, cs, rfl, h1, h2, h3, h4, h5, h6⟩
  · omega
  · exact ⟨g, cap, cs, rfl, h1, heap_lt h2, h2, h3, h4, h5, h6⟩
theorem Grow.cut (h : Grow c k w lo e v xs) (hc : ∀ x, (c x).length = k) {m : Nat} (hm : m ≤ xs.length) {A : Option Addr} {cap : Nat} (hv : v = .slice A xs.length cap) (hn : 0 < xs.length) : Grow c k w lo e (.slice A m cap) (xs.take m) := by
  have hl : (xs.take m).length = m := by rw [List.length_take]; omega
  obtain ⟨g, cap', cs, e1, h1, h2, h3, h4, h5, h6, h7⟩ := h.parts hn
  rw [e1] at hv; injection hv with e2 e3 e4
  subst e4; subst e2
  refine ⟨by rw [flat_len hc], .inr ⟨g, cap', cs, by rw [hl], h1, h3, by omega, h5, h6, ?_⟩⟩
  rw [hl, ← flat_take hc xs m, ← h7, List.take_take, Nat.min_eq_left (Nat.mul_le_mul_right k hm)]
theorem Grow.put (h : Grow c k w lo e v xs) (hc : ∀ x, (c x).length = k) {g n cap : Nat} (hv : v = .slice (some ⟨g, 0, none⟩) n cap) {i j0 : Nat} {x y : α} {u : Value} (hx : xs[i]? = some x)
    (hj : j0 < k) (hy : (c y)[j0]? = some u) (hother : ∀ j, j < k → j ≠ j0 → (c y)[j]? = (c x)[j]?) : Grow c k (w.setCell ⟨g, i * k + j0, none⟩ u) lo e v (xs.set i y) := by
  have hi : i < xs.length := (List.getElem?_eq_some_iff.1 hx).1
  have hn : 0 < xs.length := by omega
  obtain ⟨g', cap', cs, e1, h1, h2, h3, h4, h5, h6, h7⟩ := h.parts hn
  rw [e1] at hv; injection hv with e2 e3 e4
  injection e2 with e5; injection e5 with e6
  subst e6
  have hik : i * k + k ≤ xs.length * k := by rw [← Nat.succ_mul]; exact Nat.mul_le_mul_right k hi
  refine ⟨by rw [flat_len hc], .inr ⟨g', cap', cs.setIfInBounds (i * k + j0) u, by rw [e1, List.length_set], h1, by simp [World.setCell, Array.getElem?_modify, h3], by rw [List.length_set]; exact h4, h5, by simpa using h6, ?_⟩⟩
  rw [List.length_set]
  apply List.ext_getElem?
  intro t
  by_cases ht : t < xs.length * k
  · rw [List.getElem?_take, if_pos ht]
    have hk : 0 < k := by omega
    have hd : t / k < xs.length := Nat.div_lt_of_lt_mul (by rw [Nat.mul_comm]; exact ht)
    have hr : t % k < k := Nat.mod_lt _ hk
    have htt : t / k * k + t % k = t := by rw [Nat.mul_comm]; exact Nat.div_add_mod t k
    by_cases hti : t / k = i
    · have hf := flat_at hc (xs.set i y) i y (List.getElem?_set_self hi) (t % k) hr
      rw [← hti] at hf
      rw [htt, hti] at hf
      rw [hf]
      by_cases htj : t % k = j0
      · have e9 : t = i * k + j0 := by rw [← htt, hti, htj]
        have h8 : xs.length * k ≤ cap' * k := Nat.mul_le_mul_right k h4
        rw [htj, hy, e9, Array.getElem?_toList, Array.getElem?_setIfInBounds_self_of_lt (by rw [h6]; omega)]
      · have e9 : t = i * k + t % k := by rw [← hti]; exact htt.symm
        have hne : t ≠ i * k + j0 := by omega
        rw [hother _ hr htj, ← flat_at hc xs i x hx (t % k) hr, ← e9, ← h7, List.getElem?_take, if_pos ht, Array.getElem?_toList, Array.getElem?_toList, Array.getElem?_setIfInBounds_ne (by omega)]
    · have hne : t ≠ i * k + j0 := by
        intro he
        apply hti
        rw [he, Nat.mul_comm, Nat.mul_add_div hk, Nat.div_eq_of_lt hj]; rfl
      have hz : xs[t / k]? = some (xs[t / k]'hd) := List.getElem?_eq_getElem hd
      have f1 := flat_at hc xs (t / k) _ hz (t % k) hr
      have f2 := flat_at hc (xs.set i y) (t / k) _ (by rw [List.getElem?_set_ne (fun h => hti h.symm)]; exact hz) (t % k) hr
      rw [htt] at f1 f2
      rw [f2, ← f1, ← h7, List.getElem?_take, if_pos ht, Array.getElem?_toList, Array.getElem?_toList, Array.getElem?_setIfInBounds_ne (by omega)]
  · rw [List.getElem?_take, if_neg ht, List.getElem?_eq_none (by rw [flat_len hc, List.length_set]; omega)]
end
end Go.Proofs.YtkegncanmfmmmaaDoor
