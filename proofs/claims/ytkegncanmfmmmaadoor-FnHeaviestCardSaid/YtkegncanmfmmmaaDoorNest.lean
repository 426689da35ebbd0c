/- A slice of slices that is read: rows of records. No program in sight. -/
import Derived.Test.YtkegncanmfmmmaaDoorWords2
namespace Go.Proofs.YtkegncanmfmmmaaDoor
open Go.RowKit
set_option linter.unusedVariables false

structure Row (β : Type) where
  a : Option Addr
  n : Nat
  cap : Nat
  xs : List β
def Row.cs {β : Type} (r : Row β) : List Value := [.slice r.a r.n r.cap]
theorem Row.cs_len {β : Type} (r : Row β) : r.cs.length = 1 := rfl
def vals {β : Type} (rs : List (Row β)) : List (List β) := rs.map Row.xs
/-- the slice (head A, length n) holds slices of which each holds the records of its row -/
def Arr2 {β : Type} (c : β → List Value) (k : Nat) (w : World) (lo hi : Nat) (A : Option Addr) (n : Nat) (rs : List (Row β)) : Prop :=
  Arr Row.cs 1 w lo hi A n rs ∧ ∀ r ∈ rs, Arr c k w lo hi r.a r.n r.xs
section
variable {β : Type} {c : β → List Value} {k : Nat} {w w' : World} {lo hi hi' : Nat} {A : Option Addr} {n : Nat} {rs : List (Row β)}
theorem Arr2.below (h : Arr2 c k w lo hi A n rs) (hb : Below hi w w') : Arr2 c k w' lo hi A n rs := ⟨h.1.below hb, fun r hr => (h.2 r hr).below hb⟩
theorem Arr2.more (h : Arr2 c k w lo hi A n rs) (hB : hi ≤ hi') : Arr2 c k w lo hi' A n rs := ⟨h.1.more hB, fun r hr => (h.2 r hr).more hB⟩
theorem Arr2.at (h : Arr2 c k w lo hi A n rs) {i : Nat} (hi' : i < n) :
    ∃ b off r, A = some ⟨b, off, none⟩ ∧ rs[i]? = some r ∧ lo ≤ b ∧ b < hi ∧ w.cell? ⟨b, off + i, none⟩ = some (.slice r.a r.n r.cap) ∧ Arr c k w lo hi r.a r.n r.xs := by
  obtain ⟨b, off, r, h1, h2, h3, h4, hc⟩ := h.1.cells hi'
  exact ⟨b, off, r, h1, h2, h3, h4, by have := hc 0 _ rfl; rwa [Nat.mul_one] at this, h.2 r (List.mem_of_getElem? h2)⟩
theorem Arr2.len (h : Arr2 c k w lo hi A n rs) : rs.length = n := h.1.1
theorem vals_at {i : Nat} {r : Row β} (h : rs[i]? = some r) : (vals rs)[i]? = some r.xs := by simp [vals, h]
theorem vals_len : (vals rs).length = rs.length := by simp [vals]
/-- two readings of the same content have rows of the same length and content at each place -/
theorem vals_same {rs rs2 : List (Row β)} (h : vals rs = vals rs2) {i : Nat} {r r2 : Row β} (h1 : rs[i]? = some r) (h2 : rs2[i]? = some r2) : r.xs = r2.xs := by
  have a := vals_at h1; have b := vals_at h2
  rw [h, b] at a; exact (Option.some.inj a).symm
/-- rows that are laid one by one -/
structure Rows2 (c : β → List Value) (k : Nat) (w : World) (lo : Nat) (cs : Array Value) (src : List (Row β)) (m : Nat) (out : List (Row β)) : Prop where
  len : out.length = m
  val : vals out = (vals src).take m
  fill : Filled Row.cs 1 cs out m
  rd : ∀ r ∈ out, Arr c k w lo w.heap.size r.a r.n r.xs
theorem Rows2.start (w : World) (lo : Nat) (cs : Array Value) (src : List (Row β)) : Rows2 c k w lo cs src 0 [] := ⟨rfl, by simp [vals], Filled.start _ _, by simp⟩
theorem Rows2.step {cs : Array Value} {src out : List (Row β)} {m : Nat} {r r' : Row β} (h : Rows2 c k w lo cs src m out) (hr : src[m]? = some r) (hx : r'.xs = r.xs) (hm : m < cs.size)
    (hb : Below w.heap.size w w') (ha : Arr c k w' lo w'.heap.size r'.a r'.n r'.xs) : Rows2 c k w' lo (cs.setIfInBounds m (.slice r'.a r'.n r'.cap)) src (m + 1) (out ++ [r']) := by
  have hl := h.len
  refine ⟨by simp [hl], ?_, ?_, ?_⟩
  · have : vals (out ++ [r']) = vals out ++ [r'.xs] := by simp [vals]
    rw [this, h.val, List.take_add_one, vals_at hr, hx]; rfl
  · have h1 : Filled Row.cs 1 cs (out ++ [r']) m := fun i x hi hx j hj => h.fill i x hi (by rw [List.getElem?_append_left (by omega)] at hx; exact hx) j hj
    have := h1.put1 (x := r') (v0 := .slice r'.a r'.n r'.cap) (by rw [← hl]; simp) (by omega) rfl
    rwa [Nat.mul_one] at this
  · intro q hq
    rcases List.mem_append.1 hq with hq | hq
    · exact ((h.rd q hq).below hb).more hb.size
    · simp at hq; subst hq; exact ha
theorem Rows2.below {cs : Array Value} {src out : List (Row β)} {m : Nat} (h : Rows2 c k w lo cs src m out) (hb : Below w.heap.size w w') : Rows2 c k w' lo cs src m out :=
  ⟨h.len, h.val, h.fill, fun r hr => ((h.rd r hr).below hb).more hb.size⟩
theorem Rows2.within {cs : Array Value} {src out : List (Row β)} {m g : Nat} (h : Rows2 c k w lo cs src m out) (hw : Within g (g + 1) w w') (hg : g < lo) : Rows2 c k w' lo cs src m out :=
  ⟨h.len, h.val, h.fill, fun r hr => ((h.rd r hr).within hw (Nat.le_refl _) (.inr (by omega))).more hw.size⟩
end
end Go.Proofs.YtkegncanmfmmmaaDoor
