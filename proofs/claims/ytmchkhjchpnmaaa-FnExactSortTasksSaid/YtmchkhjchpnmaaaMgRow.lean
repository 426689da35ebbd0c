/- A row of elements of k cells that a sort turns, and the worlds it passes through; a `less` that may lay blocks. -/
import Derived.Shelf.GgSortMore.Stable
import Derived.Shelf.SlSortFuncK.SWK
import Derived.Test.YtmchkhjchpnmaaaMgLaw
namespace Go.Proofs.Ytmchkhjchpnmaaa
open Go.Proofs Go.Shelf Go.RowKit Go.Lib Go.Sort
set_option linter.unusedVariables false
set_option linter.unusedSectionVars false
variable {P : Program} {α : Type} [Inhabited α] {enc : α → List Value} {k : Nat} {w0 W W' : World} {blk off : Nat} {dk d' : Array α}

theorem below_putRow {enc : α → Value} {n : Nat} {X Y : World} (h : Below n X Y) (blk off : Nat) (d : Array α) : Below n (putRow enc X blk off d) (putRow enc Y blk off d) := by
  refine ⟨h.os, h.tape, h.output, by rw [size_putRow, size_putRow]; exact h.size, fun q hq => ?_⟩
  unfold putRow mapBlock
  simp only [Array.getElem?_modify]
  rw [h.block q hq]
theorem below_putRowK {n : Nat} {X Y : World} (h : Below n X Y) (blk off : Nat) (d : Array α) : Below n (putRowK enc k X blk off d) (putRowK enc k Y blk off d) := below_putRow h blk off _

/-- W is w0 but for the row, which holds dk, and for new blocks -/
structure SWR (enc : α → List Value) (k : Nat) (w0 : World) (blk off : Nat) (dk : Array α) (W : World) : Prop where
  held : HoldsK enc k W blk off dk
  kept : Below w0.heap.size (putRowK enc k w0 blk off dk) W

theorem SWR.start (h : HoldsK enc k w0 blk off dk) : SWR enc k w0 blk off dk w0 := ⟨h, by rw [putRowK_self _ _ _ _ _ _ h]; exact Below.refl _ _⟩
theorem SWR.le (h : SWR enc k w0 blk off dk W) : w0.heap.size ≤ W.heap.size := by
  have := h.kept.size; rw [size_putRowK] at this; exact this
theorem SWR.lt (h : SWR enc k w0 blk off dk W) (hblk : blk < w0.heap.size) : blk < W.heap.size := Nat.lt_of_lt_of_le hblk h.le
theorem holdsK_below (h : HoldsK enc k W blk off dk) {n : Nat} (hblk : blk < n) (hb : Below n W W') : HoldsK enc k W' blk off dk := fun j hj => by
  rw [hb.cell hblk, hb.frozen hblk]; exact h j hj
theorem SWR.below (h : SWR enc k w0 blk off dk W) (hblk : blk < w0.heap.size) (hb : Below W.heap.size W W') : SWR enc k w0 blk off dk W' :=
  ⟨holdsK_below h.held (h.lt hblk) hb, h.kept.trans (hb.mono h.le)⟩
theorem SWR.alloc (h : SWR enc k w0 blk off dk W) (hblk : blk < w0.heap.size) (o : Obj) : SWR enc k w0 blk off dk (W.alloc o) :=
  h.below hblk ((Below.refl _ _).alloc (Nat.le_refl _) o)
theorem SWR.holds (h : SWR enc k w0 blk off dk W) : HoldsK enc k W blk off dk := h.held
theorem SWR.put (h : SWR enc k w0 blk off dk W) (hs : d'.size = dk.size) : SWR enc k w0 blk off d' (putRowK enc k W blk off d') := by
  refine ⟨holdsK_putRowK enc k W blk off dk d' h.held hs, ?_⟩
  have := below_putRowK (enc := enc) (k := k) h.kept blk off d'
  have e : putRowK enc k (putRowK enc k w0 blk off dk) blk off d' = putRowK enc k w0 blk off d' := putRow_putRow id w0 blk off _ _ (by simp [hs])
  rw [e] at this
  exact this
theorem swr_trans (h : SWR enc k w0 blk off dk W) (h' : SWR enc k W blk off d' W') (hs : d'.size = dk.size) : SWR enc k w0 blk off d' W' :=
  ⟨h'.held, (h.put hs).kept.trans (h'.kept.mono h.le)⟩
theorem SWR.swap (h : SWR enc k w0 blk off dk W) (hk : ∀ x, (enc x).length = k) (i j : Nat) (hi : i < dk.size) (hj : j < dk.size) :
    SWR enc k w0 blk off (swp dk i j) ((W.setCells blk (off + i * k) (enc dk[j]!)).setCells blk (off + j * k) (enc dk[i]!)) := by
  have e := putRowK_swp enc k hk W blk off dk i j hi hj
  rw [putRowK_self _ _ _ _ _ _ h.held] at e
  rw [e]
  exact h.put (size_swp _ _ _)
theorem swr_cell (h : SWR enc k w0 blk off dk W) {b o : Nat} {v : Value} (hb : b ≠ blk) (hs : b < w0.heap.size) (hc : w0.cell? ⟨b, o, none⟩ = some v) : W.cell? ⟨b, o, none⟩ = some v := by
  rw [h.kept.cell (p := ⟨b, o, none⟩) hs, cell?_putRowK_other enc k _ blk off dk _ hb]; exact hc
/-- what is asked of `less`: in every world that the sort passes through it tells the order of two elements, and may lay blocks of its own -/
def LessG (P : Program) (g : Nat) (lb : Array Value) (enc : α → List Value) (k : Nat) (lt : α → α → Bool) (blk off size : Nat) (w : World) : Prop :=
  ∀ (W : World) (dk : Array α), SWR enc k w blk off dk W → dk.size = size → ∀ i j : Nat, i < size → j < size →
    Calls P g (#[.int .i64 i, .int .i64 j] ++ lb) W fun e w' => e = .returned (.bool (lt dk[i]! dk[j]!)) ∧ Below W.heap.size W w'
theorem SWR.less {g : Nat} {lb : Array Value} {lt : α → α → Bool} {size : Nat} (h : SWR enc k w0 blk off dk W) (hL : LessG P g lb enc k lt blk off size w0) (hs : dk.size = size) (i j : Nat) (hi : i < size) (hj : j < size) :
    Calls P g (#[.int .i64 i, .int .i64 j] ++ lb) W fun e w' => e = .returned (.bool (lt dk[i]! dk[j]!)) ∧ Below W.heap.size W w' := hL W dk h hs i j hi hj
theorem SWR.lessG {g : Nat} {lb : Array Value} {lt : α → α → Bool} {size : Nat} (h : SWR enc k w0 blk off dk W) (hL : LessG P g lb enc k lt blk off size w0) (hs : dk.size = size) : LessG P g lb enc k lt blk off size W :=
  fun W' d' h' hs' i j hi hj => hL W' d' (swr_trans h h' (hs'.trans hs.symm)) hs' i j hi hj
end Go.Proofs.Ytmchkhjchpnmaaa
