/- Words for memory: a slice that is read (Arr), a fresh row that may be written (Own), and how they are kept. No program in sight. -/
import Derived.WalkKit
import Derived.WalkSpells
import Derived.WalkLawsBesides
import Derived.Lib.Hide
namespace Go.Proofs.YtkegncanmfmmmaaDoor
open Go.RowKit
set_option linter.unusedVariables false

theorem bel_grown {w w' : World} {row : Option Nat} {B : Nat} (hg : w.grownBy w' row) (hB : B ≤ w.heap.size) (hr : ∀ k, row = some k → B ≤ k) : Below B w w' := (Below.refl B w).grown hg hB hr
theorem bel_drewN {B : Nat} {a w : World} (h : Below B a w) (n : Nat) : Below B a (w.drewN n) := h.trans ⟨rfl, rfl, rfl, Nat.le_refl _, fun _ _ => rfl⟩
/-- two Belows in a row, each from its own size on -/
theorem Bel.trans {a b c : World} {B : Nat} (h : Below B a b) (k : Below b.heap.size b c) (hB : B ≤ b.heap.size) : Below B a c := h.trans (k.mono hB)
theorem bel2 {a b c : World} (h : Below a.heap.size a b) (k : Below b.heap.size b c) : Below a.heap.size a c := h.trans (k.mono h.size)

/-- The slice (head A, length n) holds the records xs, each in k cells as c says, in a block from lo on and below hi. -/
def Arr {α : Type} (c : α → List Value) (k : Nat) (w : World) (lo hi : Nat) (A : Option Addr) (n : Nat) (xs : List α) : Prop :=
  xs.length = n ∧ (0 < n → ∃ b off, A = some ⟨b, off, none⟩ ∧ lo ≤ b ∧ b < hi ∧ ∀ i x, xs[i]? = some x → ∀ j u, (c x)[j]? = some u → w.cell? ⟨b, off + i * k + j, none⟩ = some u)

section
variable {α : Type} {c : α → List Value} {k : Nat} {w w' : World} {lo hi hi' : Nat} {A : Option Addr} {n : Nat} {xs : List α}
theorem Arr.len (h : Arr c k w lo hi A n xs) : xs.length = n := h.1
theorem Arr.keep (h : Arr c k w lo hi A n xs) (hk : ∀ p : Addr, lo ≤ p.block → p.block < hi → w'.cell? p = w.cell? p) : Arr c k w' lo hi A n xs :=
  ⟨h.1, fun hn => by
    obtain ⟨b, off, e, h1, h2, hc⟩ := h.2 hn
    exact ⟨b, off, e, h1, h2, fun i x hx j u hu => (hk _ h1 h2).trans (hc i x hx j u hu)⟩⟩
theorem Arr.below (h : Arr c k w lo hi A n xs) (hb : Below hi w w') : Arr c k w' lo hi A n xs := h.keep fun _ _ hp => hb.cell hp
theorem Arr.more (h : Arr c k w lo hi A n xs) (hB : hi ≤ hi') : Arr c k w lo hi' A n xs :=
  ⟨h.1, fun hn => by
    obtain ⟨b, off, e, h1, h2, hc⟩ := h.2 hn
    exact ⟨b, off, e, h1, by omega, hc⟩⟩
theorem Arr.less {lo' : Nat} (h : Arr c k w lo hi A n xs) (hB : lo' ≤ lo) : Arr c k w lo' hi A n xs :=
  ⟨h.1, fun hn => by
    obtain ⟨b, off, e, h1, h2, hc⟩ := h.2 hn
    exact ⟨b, off, e, by omega, h2, hc⟩⟩
theorem Arr.nil (A : Option Addr) : Arr c k w lo hi A 0 [] := ⟨rfl, fun h => absurd h (by omega)⟩
/-- only one block (from lo2 on) and new ones have turned -/
theorem Arr.grown {row : Option Nat} (h : Arr c k w lo hi A n xs) (hg : w.grownBy w' row) (hB : hi ≤ w.heap.size) (hr : ∀ g, row = some g → g < lo ∨ hi ≤ g) : Arr c k w' lo hi A n xs :=
  h.keep fun p h1 h2 => World.cell?_of_block (hg.block p.block (by omega) (fun e => by have := hr _ e.symm; omega))
theorem Arr.take {m : Nat} (h : Arr c k w lo hi A n xs) (hm : m ≤ n) : Arr c k w lo hi A m (xs.take m) :=
  ⟨by rw [List.length_take, h.1]; omega, fun hn => by
    obtain ⟨b, off, e, h1, h2, hc⟩ := h.2 (by omega)
    refine ⟨b, off, e, h1, h2, fun i x hx j u hu => hc i x ?_ j u hu⟩
    rw [List.getElem?_take] at hx
    split at hx
    · exact hx
    · cases hx⟩
theorem Arr.cells (h : Arr c k w lo hi A n xs) {i : Nat} (hi' : i < n) :
    ∃ b off x, A = some ⟨b, off, none⟩ ∧ xs[i]? = some x ∧ lo ≤ b ∧ b < hi ∧ ∀ j u, (c x)[j]? = some u → w.cell? ⟨b, off + i * k + j, none⟩ = some u := by
  obtain ⟨b, off, e, h1, h2, hc⟩ := h.2 (by omega)
  have hl : i < xs.length := by rw [h.1]; exact hi'
  exact ⟨b, off, xs[i], e, List.getElem?_eq_getElem hl, h1, h2, hc i _ (List.getElem?_eq_getElem hl)⟩
end

/-- w' is w but for new blocks and for what lies in blocks from lo on and below hi. -/
structure Within (lo hi : Nat) (w w' : World) : Prop where
  os : w'.os = w.os
  tape : w'.tape = w.tape
  output : w'.output = w.output
  size : w.heap.size ≤ w'.heap.size
  block : ∀ k, k < w.heap.size → (k < lo ∨ hi ≤ k) → w'.heap[k]? = w.heap[k]?
section
variable {lo hi : Nat} {a b w w' : World}
theorem Within.refl (lo hi : Nat) (w : World) : Within lo hi w w := ⟨rfl, rfl, rfl, Nat.le_refl _, fun _ _ _ => rfl⟩
theorem Within.trans {c : World} (h : Within lo hi a b) (k : Within lo hi b c) : Within lo hi a c :=
  ⟨k.os.trans h.os, k.tape.trans h.tape, k.output.trans h.output, Nat.le_trans h.size k.size, fun i hi' ho => (k.block i (Nat.lt_of_lt_of_le hi' h.size) ho).trans (h.block i hi' ho)⟩
theorem Within.of_below (lo hi : Nat) (h : Below w.heap.size w w') : Within lo hi w w' := ⟨h.os, h.tape, h.output, h.size, fun k hk _ => h.block k hk⟩
theorem Within.setCell (h : Within lo hi a w) {p : Addr} (h1 : lo ≤ p.block) (h2 : p.block < hi) (u : Value) : Within lo hi a (w.setCell p u) :=
  h.trans ⟨rfl, rfl, rfl, by simp, fun k _ ho => Below.heap_setCell _ _ _ _ (by omega)⟩
theorem Within.drew (h : Within lo hi a w) : Within lo hi a w.drew := ⟨h.os, h.tape, h.output, h.size, h.block⟩
theorem Within.alloc (h : Within lo hi a w) (o : Obj) : Within lo hi a (w.alloc o) := h.trans (.of_below _ _ ((Below.refl _ _).alloc (Nat.le_refl _) _))
theorem Within.mono {lo2 hi2 : Nat} (h : Within lo hi w w') (h1 : lo2 ≤ lo) (h2 : hi ≤ hi2) : Within lo2 hi2 w w' := ⟨h.os, h.tape, h.output, h.size, fun k hk ho => h.block k hk (by omega)⟩
/-- what lies below lo has not turned -/
theorem Below.within {B : Nat} (h : Below B a w) (k : Within lo hi w w') (hB : B ≤ lo) (hB2 : B ≤ w.heap.size) : Below B a w' :=
  h.trans ⟨k.os, k.tape, k.output, k.size, fun i hi' => k.block i (by omega) (by omega)⟩
theorem Within.cell (h : Within lo hi w w') {p : Addr} (h0 : p.block < w.heap.size) (hp : p.block < lo ∨ hi ≤ p.block) : w'.cell? p = w.cell? p := World.cell?_of_block (h.block p.block h0 hp)
end
theorem Arr.within {α : Type} {c : α → List Value} {k : Nat} {w w' : World} {lo hi lo2 hi2 : Nat} {A : Option Addr} {n : Nat} {xs : List α} (h : Arr c k w lo hi A n xs) (hw : Within lo2 hi2 w w') (hB : hi ≤ w.heap.size) (ho : hi ≤ lo2 ∨ hi2 ≤ lo) : Arr c k w' lo hi A n xs :=
  h.keep fun p h1 h2 => hw.cell (by omega) (by omega)

/-- A fresh row: the slice (head A, length n) has its cells at the head of a block of its own from lo on and below hi, which may be written. -/
def Own {α : Type} (c : α → List Value) (k : Nat) (w : World) (lo hi : Nat) (e : TypeId) (A : Option Addr) (n : Nat) (xs : List α) : Prop :=
  xs.length = n ∧ (0 < n → ∃ g cs, A = some ⟨g, 0, none⟩ ∧ lo ≤ g ∧ g < hi ∧ w.heap[g]? = some (.cells cs e (0, 0)) ∧ n * k ≤ cs.size ∧ ∀ i x, xs[i]? = some x → ∀ j, j < k → cs[i * k + j]? = (c x)[j]?)

section
variable {α : Type} {c : α → List Value} {k : Nat} {w w' : World} {lo hi : Nat} {e : TypeId} {A : Option Addr} {n : Nat} {xs : List α}
theorem heap_lt {o : Obj} {g : Nat} (h : w.heap[g]? = some o) : g < w.heap.size := by
  rcases Nat.lt_or_ge g w.heap.size with hlt | hge
  · exact hlt
  · rw [Array.getElem?_eq_none hge] at h; cases h
theorem Own.arr (h : Own c k w lo hi e A n xs) (hc : ∀ x, (c x).length = k) : Arr c k w lo hi A n xs :=
  ⟨h.1, fun hn => by
    obtain ⟨g, cs, e1, h1, h0, h2, h3, h4⟩ := h.2 hn
    refine ⟨g, 0, e1, h1, h0, fun i x hx j u hu => ?_⟩
    have hj : j < k := by rw [← hc x]; exact (List.getElem?_eq_some_iff.1 hu).1
    rw [cell_of_row w g (0 + i * k + j) cs e (0, 0) h2, Nat.zero_add, h4 i x hx j hj, hu]⟩
theorem Own.nil (A : Option Addr) : Own c k w lo hi e A 0 [] := ⟨rfl, fun h => absurd h (by omega)⟩
theorem Own.wide {lo' hi' : Nat} (h : Own c k w lo hi e A n xs) (hB : lo' ≤ lo) (hB2 : hi ≤ hi') : Own c k w lo' hi' e A n xs :=
  ⟨h.1, fun hn => by
    obtain ⟨g, cs, e1, h1, h0, h2⟩ := h.2 hn
    exact ⟨g, cs, e1, by omega, by omega, h2⟩⟩
theorem Own.within {lo2 hi2 : Nat} (h : Own c k w lo hi e A n xs) (hw : Within lo2 hi2 w w') (hr : hi ≤ lo2 ∨ hi2 ≤ lo) : Own c k w' lo hi e A n xs :=
  ⟨h.1, fun hn => by
    obtain ⟨g, cs, e1, h1, h0, h2, h3, h4⟩ := h.2 hn
    exact ⟨g, cs, e1, h1, h0, by rw [hw.block g (heap_lt h2) (by omega), h2], h3, h4⟩⟩
theorem Own.bel (h : Own c k w lo hi e A n xs) (hb : Below w.heap.size w w') : Own c k w' lo hi e A n xs :=
  ⟨h.1, fun hn => by
    obtain ⟨g, cs, e1, h1, h0, h2, h3, h4⟩ := h.2 hn
    exact ⟨g, cs, e1, h1, h0, by rw [hb.block g (heap_lt h2), h2], h3, h4⟩⟩
end

theorem flat_at {α : Type} {c : α → List Value} {k : Nat} (hc : ∀ x, (c x).length = k) : ∀ (xs : List α) (i : Nat) (x : α), xs[i]? = some x → ∀ j, j < k → (xs.flatMap c)[i * k + j]? = (c x)[j]?
  | [], i, x, h, j, hj => by simp at h
  | y :: ys, 0, x, h, j, hj => by
    simp at h; subst h
    rw [List.flatMap_cons, Nat.zero_mul, Nat.zero_add, List.getElem?_append_left (by rw [hc]; exact hj)]
  | y :: ys, i + 1, x, h, j, hj => by
    rw [List.flatMap_cons, List.getElem?_append_right (by rw [hc, Nat.succ_mul]; omega), hc, show (i + 1) * k + j - k = i * k + j by rw [Nat.succ_mul]; omega]
    exact flat_at hc ys i x (by simpa using h) j hj

end Go.Proofs.YtkegncanmfmmmaaDoor
