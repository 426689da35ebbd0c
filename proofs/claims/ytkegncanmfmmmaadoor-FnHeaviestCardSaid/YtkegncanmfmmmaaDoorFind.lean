/- The first place where a test says yes; a slice appended whole. No program in sight. -/
import Derived.Test.YtkegncanmfmmmaaDoorWords3
import Derived.Test.YtkegncanmfmmmaaDoorGrow
import Derived.Laws.AppendOwnNone
namespace Go.Proofs.YtkegncanmfmmmaaDoor
open Go.RowKit
set_option linter.unusedVariables false
section
variable {α : Type} {q : α → Bool} {xs : List α} {k : Nat} {x : α}
def noTo (q : α → Bool) (xs : List α) (k : Nat) : Bool := allTo (fun j => match xs[j]? with | some x => !q x | none => true) k
theorem noTo_step (h : noTo q xs k = true) (hx : xs[k]? = some x) (hq : q x = false) : noTo q xs (k + 1) = true := allTo_step h (by simp only [hx, hq]; rfl)
theorem noTo_zero : noTo q xs 0 = true := rfl
theorem noTo_iff : noTo q xs k = true ↔ ∀ j, j < k → ∀ y, xs[j]? = some y → q y = false := by
  unfold noTo; rw [allTo_iff]
  constructor
  · intro h j hj y hy; have := h j hj; simp only [hy] at this; simpa using this
  · intro h j hj
    cases hy : xs[j]? with
    | none => rfl
    | some y => simp only [h j hj y hy]; rfl
def fIdx (q : α → Bool) (xs : List α) : Int := match xs.findIdx? q with | some i => (i : Int) | none => -1
theorem fIdx_hit (h : noTo q xs k = true) (hx : xs[k]? = some x) (hq : q x = true) : fIdx q xs = k := by
  unfold fIdx
  have hk : k < xs.length := (List.getElem?_eq_some_iff.1 hx).1
  have : xs.findIdx? q = some k := by
    rw [List.findIdx?_eq_some_iff_getElem]
    refine ⟨hk, by rw [(List.getElem?_eq_some_iff.1 hx).2]; exact hq, fun j hj => ?_⟩
    rw [noTo_iff.1 h j hj _ (List.getElem?_eq_getElem (by omega))]; simp
  rw [this]
theorem fIdx_none (h : noTo q xs xs.length = true) : fIdx q xs = -1 := by
  unfold fIdx
  have : xs.findIdx? q = none := by
    rw [List.findIdx?_eq_none_iff]
    intro y hy
    obtain ⟨j, hj, rfl⟩ := List.getElem_of_mem hy
    exact noTo_iff.1 h j hj _ (List.getElem?_eq_getElem hj)
  rw [this]
theorem fIdx_cases (q : α → Bool) (xs : List α) : (fIdx q xs = -1 ∧ noTo q xs xs.length = true ∧ xs.findIdx? q = none) ∨ ∃ (k : Nat) (x : α), fIdx q xs = (k : Int) ∧ k < xs.length ∧ xs[k]? = some x ∧ q x = true ∧ noTo q xs k = true ∧ xs.findIdx? q = some k := by
  cases h : xs.findIdx? q with
  | none =>
    left
    rw [List.findIdx?_eq_none_iff] at h
    have : noTo q xs xs.length = true := noTo_iff.2 fun j hj y hy => h y (List.mem_of_getElem? hy)
    exact ⟨fIdx_none this, this, rfl⟩
  | some k =>
    right
    rw [List.findIdx?_eq_some_iff_getElem] at h
    obtain ⟨hk, h1, h2⟩ := h
    have hx : xs[k]? = some xs[k] := List.getElem?_eq_getElem hk
    have hn : noTo q xs k = true := noTo_iff.2 fun j hj y hy => by
      have := h2 j hj
      rw [(List.getElem?_eq_some_iff.1 hy).2] at this; simpa using this
    exact ⟨k, xs[k], fIdx_hit hn hx h1, hk, hx, h1, hn, rfl⟩
end

theorem any_fIdx {α : Type} (q : α → Bool) (xs : List α) : xs.any q = decide (0 ≤ fIdx q xs) := by
  rcases fIdx_cases q xs with ⟨h, h2, _⟩ | ⟨k, x, h, hk, hx, hq, _, _⟩
  · rw [h]
    have : xs.any q = false := by
      rw [List.any_eq_false]; intro y hy
      obtain ⟨j, hj, rfl⟩ := List.getElem_of_mem hy
      rw [noTo_iff.1 h2 j hj _ (List.getElem?_eq_getElem hj)]; simp
    rw [this]; rfl
  · rw [h, decide_eq_true (by omega), List.any_eq_true]
    exact ⟨x, List.mem_of_getElem? hx, hq⟩

/-- one cell of a fresh row is written -/
theorem Own.put {α : Type} {c : α → List Value} {k : Nat} {w : World} {lo hi : Nat} {e : TypeId} {g n : Nat} {xs : List α} (h : Own c k w lo hi e (some ⟨g, 0, none⟩) n xs) {i j0 : Nat} {x y : α} {u : Value} (hx : xs[i]? = some x)
    (hj : j0 < k) (hy : (c y)[j0]? = some u) (hother : ∀ j, j < k → j ≠ j0 → (c y)[j]? = (c x)[j]?) : Own c k (w.setCell ⟨g, i * k + j0, none⟩ u) lo hi e (some ⟨g, 0, none⟩) n (xs.set i y) := by
  have hi' : i < n := by rw [← h.1]; exact (List.getElem?_eq_some_iff.1 hx).1
  obtain ⟨g', cs, e1, h1, h2, h3, h4, h5⟩ := h.2 (by omega)
  cases e1
  have hik : i * k + k ≤ n * k := by rw [← Nat.succ_mul]; exact Nat.mul_le_mul_right k hi'
  refine ⟨by simp [h.1], fun _ => ⟨g, cs.setIfInBounds (i * k + j0) u, rfl, h1, h2, by simp [World.setCell, Array.getElem?_modify, h3], by simpa using h4, fun m z hz j hjk => ?_⟩⟩
  by_cases hm : m = i
  · subst hm
    rw [List.getElem?_set_self (by rw [h.1]; exact hi')] at hz
    cases hz
    by_cases hjj : j = j0
    · subst hjj
      rw [Array.getElem?_setIfInBounds_self_of_lt (by omega), hy]
    · rw [Array.getElem?_setIfInBounds_ne (by omega), h5 m x hx j hjk, hother j hjk hjj]
  · rw [List.getElem?_set_ne (by omega)] at hz
    rw [Array.getElem?_setIfInBounds_ne, h5 m z hz j hjk]
    intro he
    have : m = i := by
      have a1 : (m * k + j) / k = m := by rw [Nat.mul_comm, Nat.mul_add_div (by omega), Nat.div_eq_of_lt hjk]; rfl
      have a2 : (i * k + j0) / k = i := by rw [Nat.mul_comm, Nat.mul_add_div (by omega), Nat.div_eq_of_lt hj]; rfl
      rw [← a1, ← a2, he]
    exact hm this

/-- append(ys, xs...) at the operation, xs a slice that is read. -/
theorem wpList_join {α : Type} {P : Program} {c : α → List Value} {k : Nat} (w : World) {ops : Array Oper} {rest : List Oper} {o : Oper} {a : Act} {Q : Exit → Act → World → Prop} (hgd : o.guard = none) (s x : Operand) (t : TypeId)
    (ho : o.op = .call { callee := .builtin .append, args := #[s, x], argTypes := #[t, t] })
    (lo : Nat) (e : TypeId) (z : Value) (bytes : Nat) (ht : P.underlying t = some (.slice e)) (hinfo : (P.info? e).map (fun i => (i.zero, i.size, i.bytes)) = some (some z, k, bytes)) (hzs : z.cells.size = k) (hk : 0 < k)
    (v : Value) (ys xs : List α) (hs : a.eval s = v) (hown : Grow c k w lo e v ys) (ad : Addr) (n cp : Nat) (hx : a.eval x = .slice (some ad) n cp) (l2 h2 : Nat) (harr : Arr c k w l2 h2 (some ad) n xs)
    (hlen : ∀ y, (c y).length = k) (h1 : ∀ y, ∀ u ∈ c y, u.oneCell' = true) (h63 : ys.length + n ≤ 4194304) (hbytes : bytes ≤ 4096) (hbase : lo ≤ w.heap.size)
    (h : ∀ v' w', Grow c k w' lo e v' (ys ++ xs) → w.grownBy w' v.ownBlock → wpList P ops Q rest (a.put o.dst v') w') : wpList P ops Q (o :: rest) a w := by
  obtain ⟨i0, hi, hz0, hz1, hz2⟩ := info_parts hinfo
  have hfl : ∀ zs : List α, (zs.flatMap c).length = zs.length * k := by
    intro zs; induction zs with
    | nil => simp
    | cons y zs ih => rw [List.flatMap_cons, List.length_append, hlen, ih, List.length_cons, Nat.succ_mul]; omega
  refine wpList_append_own w hgd s x t ho lo e i0 z k bytes ht hi hz0 hz1 hz2 hzs hk v ys.length (ys.flatMap c) hs hown ad n cp (xs.flatMap c) hx (by rw [hfl, harr.1]) (fun j u hu => ?_) (fun u hu => ?_) (by unfold maxLen; omega)
    (Nat.le_trans (Nat.mul_le_mul h63 hbytes) (by decide)) hbase fun v' w' r1 r2 _ => h v' w' (by have := harr.1; simpa [Grow, this] using r1) r2
  · have hj : j < n * k := by have := (List.getElem?_eq_some_iff.1 hu).1; rw [hfl, harr.1] at this; exact this
    have hkp : 0 < k := hk
    have hn : 0 < n := by rcases Nat.eq_zero_or_pos n with h | h; · rw [h] at hj; simp at hj
                          · exact h
    obtain ⟨b, off, e1, _, _, hc⟩ := harr.2 hn
    cases e1
    have hdiv : j / k < n := Nat.div_lt_of_lt_mul (by rw [Nat.mul_comm]; exact hj)
    have hx2 : xs[j / k]? = some (xs[j / k]'(by rw [harr.1]; exact hdiv)) := List.getElem?_eq_getElem _
    have hm : j % k < k := Nat.mod_lt _ hkp
    have hjj : j / k * k + j % k = j := by rw [Nat.mul_comm]; exact Nat.div_add_mod j k
    have hu2 := flat_at hlen xs (j / k) _ hx2 (j % k) hm
    rw [hjj, hu] at hu2
    have := hc (j / k) _ hx2 (j % k) u hu2.symm
    have hadd : (⟨b, off, none⟩ : Addr).add j = ⟨b, off + j, none⟩ := by unfold Addr.add; split <;> simp_all
    rw [hadd, ← this, Nat.add_assoc, hjj]
  · obtain ⟨y, _, hu⟩ := List.mem_flatMap.1 hu
    exact h1 y u hu
end Go.Proofs.YtkegncanmfmmmaaDoor
