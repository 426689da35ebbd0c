/- More words: sums of sizes, a block known whole, a block that is filled record by record, make of records of several cells. No program in sight. -/
import Derived.Test.YtkegncanmfmmmaaDoorWords
import Derived.Laws.MakeOwn
namespace Go.Proofs.YtkegncanmfmmmaaDoor
open Go.RowKit
set_option linter.unusedVariables false

theorem ret_int {k : IntKind} {a b : Int} (h : a = b) : Ending.returned (.int k a) = .returned (.int k b) := by rw [h]

def tot {α : Type} (f : α → Nat) (xs : List α) : Nat := (xs.map f).sum
theorem tot_snoc {α : Type} (f : α → Nat) (xs : List α) (k : Nat) (x : α) (h : xs[k]? = some x) : tot f (xs.take (k + 1)) = tot f (xs.take k) + f x := by
  obtain ⟨hk, rfl⟩ := List.getElem?_eq_some_iff.1 h
  rw [List.take_succ_eq_append_getElem hk]
  simp only [tot, List.map_append, List.sum_append, List.map_cons, List.map_nil, List.sum_cons, List.sum_nil, Nat.add_zero]
theorem tot_le {α : Type} (f : α → Nat) (xs : List α) (k : Nat) : tot f (xs.take k) ≤ tot f xs := by
  conv => rhs; rw [← List.take_append_drop k xs]
  simp only [tot, List.map_append, List.sum_append]; omega

def Blk (w : World) (g : Nat) (t : TypeId) (cs : Array Value) : Prop := w.heap[g]? = some (.cells cs t (0, 0))
section
variable {w w' : World} {g : Nat} {t : TypeId} {cs : Array Value}
theorem Blk.lt (h : Blk w g t cs) : g < w.heap.size := heap_lt h
theorem Blk.cell (h : Blk w g t cs) (i : Nat) : w.cell? ⟨g, i, none⟩ = cs[i]? := cell_of_row w g i cs t (0, 0) h
theorem Blk.there (h : Blk w g t cs) {i : Nat} (hi : i < cs.size) : ∃ u, w.cell? ⟨g, i, none⟩ = some u := ⟨cs[i], by rw [h.cell, Array.getElem?_eq_getElem hi]⟩
theorem Blk.frozen (h : Blk w g t cs) (i : Nat) : w.frozen? ⟨g, i, none⟩ = false := by
  unfold Blk at h
  simp [World.frozen?, h]
theorem Blk.new (w : World) (t : TypeId) (cs : Array Value) : Blk (w.alloc (.cells cs t)) w.heap.size t cs := heap_alloc_new w _
theorem Blk.alloc (h : Blk w g t cs) (o : Obj) : Blk (w.alloc o) g t cs := (Below.heap_alloc w o g h.lt).trans h
theorem Blk.set_ (h : Blk w g t cs) (i : Nat) (u : Value) : Blk (w.setCell ⟨g, i, none⟩ u) g t (cs.setIfInBounds i u) := by
  unfold Blk at h ⊢
  simp [World.setCell, Array.getElem?_modify, h]
theorem Blk.far (h : Blk w g t cs) {p : Addr} (hp : g ≠ p.block) (u : Value) : Blk (w.setCell p u) g t cs := (Below.heap_setCell w p u g hp).trans h
theorem Blk.below {B : Nat} (h : Blk w g t cs) (hb : Below B w w') (hg : g < B) : Blk w' g t cs := (hb.block g hg).trans h
theorem Blk.grown {row : Option Nat} (h : Blk w g t cs) (hb : w.grownBy w' row) (hg : some g ≠ row) : Blk w' g t cs := (hb.block g h.lt hg).trans h
end

/-- the first m records of xs lie in cs, k cells each -/
def Filled {α : Type} (c : α → List Value) (k : Nat) (cs : Array Value) (xs : List α) (m : Nat) : Prop :=
  ∀ i x, i < m → xs[i]? = some x → ∀ j, j < k → cs[i * k + j]? = (c x)[j]?
section
variable {α : Type} {c : α → List Value} {k : Nat} {cs : Array Value} {xs : List α} {m : Nat}
theorem Filled.start (cs : Array Value) (xs : List α) : Filled c k cs xs 0 := fun i x h => absurd h (by omega)
theorem Filled.step {cs' : Array Value} {x : α} (h : Filled c k cs xs m) (hx : xs[m]? = some x) (hold : ∀ i, i < m * k → cs'[i]? = cs[i]?) (hnew : ∀ j, j < k → cs'[m * k + j]? = (c x)[j]?) : Filled c k cs' xs (m + 1) := by
  intro i y hi hy j hj
  by_cases e : i = m
  · subst e; rw [hx] at hy; cases hy; exact hnew j hj
  · have hik : i * k + k ≤ m * k := by rw [← Nat.succ_mul]; exact Nat.mul_le_mul_right k (by omega)
    rw [hold _ (by omega)]
    exact h i y (by omega) hy j hj
theorem Filled.own {w : World} {lo e g n : Nat} (h : Filled c k cs xs n) (hl : xs.length = n) (hs : n * k ≤ cs.size) (hb : Blk w g e cs) (hg : lo ≤ g) : Own c k w lo w.heap.size e (some ⟨g, 0, none⟩) n xs :=
  ⟨hl, fun _ => ⟨g, cs, rfl, hg, hb.lt, hb, hs, fun i x hx j hj => h i x (by rw [← hl]; exact (List.getElem?_eq_some_iff.1 hx).1) hx j hj⟩⟩
end
theorem Filled.put1 {α : Type} {c : α → List Value} {cs : Array Value} {xs : List α} {m : Nat} {x : α} {v0 : Value} (h : Filled c 1 cs xs m) (hx : xs[m]? = some x) (hs : m * 1 + 0 < cs.size) (hc : c x = [v0] := by rfl) :
    Filled c 1 (cs.setIfInBounds (m * 1) v0) xs (m + 1) :=
  h.step hx (fun i hi => by simp [Array.getElem?_setIfInBounds]; omega) fun j hj => by
    obtain rfl : j = 0 := by omega
    rw [hc]; simp [Array.getElem?_setIfInBounds]; omega
theorem Filled.put2 {α : Type} {c : α → List Value} {cs : Array Value} {xs : List α} {m : Nat} {x : α} {v0 v1 : Value} (h : Filled c 2 cs xs m) (hx : xs[m]? = some x) (hs : m * 2 + 1 < cs.size) (hc : c x = [v0, v1] := by rfl) :
    Filled c 2 ((cs.setIfInBounds (m * 2) v0).setIfInBounds (m * 2 + 1) v1) xs (m + 1) :=
  h.step hx (fun i hi => by rw [Array.getElem?_setIfInBounds_ne (by omega), Array.getElem?_setIfInBounds_ne (by omega)]) fun j hj => by
    rw [hc]
    have : j = 0 ∨ j = 1 := by omega
    rcases this with rfl | rfl
    · rw [Array.getElem?_setIfInBounds_ne (by omega)]; simp [Array.getElem?_setIfInBounds]; omega
    · simp [Array.getElem?_setIfInBounds]; omega
theorem Filled.put3 {α : Type} {c : α → List Value} {cs : Array Value} {xs : List α} {m : Nat} {x : α} {v0 v1 v2 : Value} (h : Filled c 3 cs xs m) (hx : xs[m]? = some x) (hs : m * 3 + 2 < cs.size) (hc : c x = [v0, v1, v2] := by rfl) :
    Filled c 3 (((cs.setIfInBounds (m * 3) v0).setIfInBounds (m * 3 + 1) v1).setIfInBounds (m * 3 + 2) v2) xs (m + 1) :=
  h.step hx (fun i hi => by rw [Array.getElem?_setIfInBounds_ne (by omega), Array.getElem?_setIfInBounds_ne (by omega), Array.getElem?_setIfInBounds_ne (by omega)]) fun j hj => by
    rw [hc]
    have : j = 0 ∨ j = 1 ∨ j = 2 := by omega
    rcases this with rfl | rfl | rfl
    · rw [Array.getElem?_setIfInBounds_ne (by omega), Array.getElem?_setIfInBounds_ne (by omega)]; simp [Array.getElem?_setIfInBounds]; omega
    · rw [Array.getElem?_setIfInBounds_ne (by omega)]; simp [Array.getElem?_setIfInBounds]; omega
    · simp [Array.getElem?_setIfInBounds]; omega

theorem run_make_rowN {P : Program} (t e : TypeId) (i : TypeInfo) (z : Value) (ht : P.underlying t = some (.slice e)) (hi : P.info? e = some i) (hz : i.zero = some z)
    (kl kc : IntKind) (n c : Nat) (hnc : n ≤ c) (hbytes : i.bytes * c ≤ 281474976710656) (h63 : c ≤ 9223372036854775807) (w : World) :
    (Instr.makeSlice t (.int kl (n : Int)) (.int kc (c : Int))).run P w = .ok (.slice (some ⟨w.heap.size, 0, none⟩) n c) (w.alloc (.cells (madeCells z.cells (c * i.size)) e)) := by
  have hb : (i.bytes : Int) * (c : Int) ≤ 281474976710656 := by
    have h : ((i.bytes * c : Nat) : Int) ≤ 281474976710656 := by omega
    rwa [Int.natCast_mul] at h
  have hr := run_make (P := P) w t e i z ht hi hz kl kc n c (by omega) (by omega) hb (by omega)
  simp only [Int.toNat_natCast] at hr
  exact hr

end Go.Proofs.YtkegncanmfmmmaaDoor
namespace Go.Proofs.YtkegncanmfmmmaaDoor
open Go.RowKit
theorem Arr.next {α : Type} {c : α → List Value} {k : Nat} {w w' : World} {lo : Nat} {A : Option Addr} {n : Nat} {xs : List α} (h : Arr c k w lo w.heap.size A n xs) (hb : Below w.heap.size w w') : Arr c k w' lo w'.heap.size A n xs := (h.below hb).more hb.size
end Go.Proofs.YtkegncanmfmmmaaDoor
