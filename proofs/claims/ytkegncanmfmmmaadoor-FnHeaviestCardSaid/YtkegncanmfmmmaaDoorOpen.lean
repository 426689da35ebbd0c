/- Arguments opened: a slice of records of one-cell fields that came in reads as a list (Arr). -/
import Derived.Test.YtkegncanmfmmmaaDoorProg
import Derived.Test.YtkegncanmfmmmaaDoorWords2
import Derived.Deep.Slices
import Derived.Deep.Fields
import Derived.ChangeSame
import Derived.ProofKit
import Derived.KernelRfl
namespace Go.Proofs.YtkegncanmfmmmaaDoor
open Go.RowKit Go.ChangeShapes Go.WideShapes Go.Deep
set_option linter.unusedVariables false

section
variable {H : Type} {enc : TypeId × Value → H} {P : Program} {w : World} {base : Nat} {spare : Nat → Bool} {held : Bool}

/-- a record of one-cell fields: its cells, each with its own reading -/
theorem trod_fields {t : TypeId} {fs : Array Field} {n : Nat} {cs : List Value} {x : DataW H × List MemPlace} (hs : P.underlying t = some (.struct fs)) (hone : oneCellFields P fs = true) (hC : P.cellsOf t = fs.size)
    (h : DataW.trod enc P w base spare held n t cs = some x) : cs.length = fs.size ∧ ∃ m, ∀ (j : Nat) (f : Field), fs[j]? = some f → ∃ v y, cs[j]? = some v ∧ DataW.trod enc P w base spare held m f.type [v] = some y := by
  obtain ⟨ys, m, _, hy, hlen, hyl, hf⟩ := DataW.trod_struct hs h
  refine ⟨by omega, m, fun j f hj => ?_⟩
  obtain ⟨ho, hk⟩ := hone_of hone j f hj
  have hjl : j < fs.size := (Array.getElem?_eq_some_iff.1 hj).1
  have h1 := hf j f hj
  rw [ho, hk] at h1
  have hone' : (cs.drop j).take 1 = [cs[j]'(by omega)] := by
    rw [List.drop_eq_getElem_cons (by omega)]; rfl
  rw [hone'] at h1
  have hys : ys[j]? = some (ys[j]'(by omega)) := List.getElem?_eq_getElem (by omega)
  exact ⟨_, _, List.getElem?_eq_getElem (by omega), h1.trans hys⟩

theorem open_recs {α : Type} (c : α → List Value) (k : Nat) (ok : α → Prop) {T E : TypeId} (hk : 0 < k) (ht : P.underlying T = some (.slice E)) (hE : P.cellsOf E = k)
    (hrec : ∀ n cs x, DataW.trod enc P w 0 spare held n E cs = some x → ∃ p : α, cs = c p ∧ ok p)
    {a : Option Addr} {n cp : Nat} {d : DataW H} {pl : List MemPlace} (h : DataW.Trod enc P w 0 spare held T (.slice a n cp) d pl) :
    ∃ xs : List α, n ≤ 9223372036854775807 ∧ Arr c k w 0 w.heap.size a n xs ∧ ∀ p ∈ xs, ok p := by
  obtain ⟨fuel, hf⟩ := h
  rcases open_slice ht hf with ⟨hcs, _⟩ | ⟨ad, len, cap, m, n', D, Pl, hcs, hb, hl, hm, hmm, hx, hi⟩
  · simp [Value.cells] at hcs
    obtain ⟨rfl, rfl, rfl⟩ := hcs
    exact ⟨[], by omega, Arr.nil _, by simp⟩
  · simp [Value.cells] at hcs
    obtain ⟨rfl, rfl, rfl⟩ := hcs
    have hmn : n ≤ m := by rw [hmm]; split <;> omega
    have key : ∀ i, i < n → ∃ p : α, (∀ j u, (c p)[j]? = some u → w.cell? (ad.add (i * k + j)) = some u) ∧ (c p).length = k ∧ ok p := by
      intro i hin
      obtain ⟨cs', hc, ht'⟩ := hi i (by omega)
      obtain ⟨p, rfl, hp⟩ := hrec _ _ _ ht'
      rw [hE] at hc
      obtain ⟨_, hcl, hat⟩ := World.cells?_some hc
      refine ⟨p, fun j u hu => ?_, hcl, hp⟩
      have hj : j < k := by rw [← hcl]; exact (List.getElem?_eq_some_iff.1 hu).1
      have := hat j hj
      rw [Go.Deep.add_add] at this
      rw [this, hu]
    have mk : ∀ q, q ≤ n → ∃ xs : List α, xs.length = q ∧ (∀ i x, xs[i]? = some x → ∀ j u, (c x)[j]? = some u → w.cell? (ad.add (i * k + j)) = some u) ∧ ∀ p ∈ xs, ok p ∧ (c p).length = k := by
      intro q
      induction q with
      | zero => exact fun _ => ⟨[], rfl, by simp, by simp⟩
      | succ q ih =>
        intro hq
        obtain ⟨xs, hxl, hxc, hxo⟩ := ih (by omega)
        obtain ⟨p, hpc, hpl, hpo⟩ := key q (by omega)
        refine ⟨xs ++ [p], by simp [hxl], fun i x hix => ?_, fun y hy => ?_⟩
        · rw [List.getElem?_append] at hix
          split at hix
          · exact hxc i x hix
          · have hi0 : i = q := by
              have := (List.getElem?_eq_some_iff.1 hix).1
              simp at this; omega
            subst hi0
            rw [hxl] at hix
            simp at hix; subst hix
            exact hpc
        · simp at hy
          rcases hy with hy | rfl
          · exact hxo y hy
          · exact ⟨hpo, hpl⟩
    obtain ⟨xs, hxl, hxc, hxo⟩ := mk n (Nat.le_refl _)
    refine ⟨xs, by unfold maxLen at hm; omega, ⟨hxl, fun hn => ?_⟩, fun p hp => (hxo p hp).1⟩
    have h0 : xs[0]? = some (xs[0]'(by omega)) := List.getElem?_eq_getElem (by omega)
    have hl0 : (c (xs[0]'(by omega))).length = k := (hxo _ (List.getElem_mem _)).2
    have hc0 := hxc 0 _ h0 0 _ (List.getElem?_eq_getElem (by omega))
    obtain ⟨b, off, spot⟩ := ad
    have hspot : spot = none := by simpa [Addr.add] using World.cell?_spot hc0
    subst hspot
    have addk : ∀ q, (⟨b, off, none⟩ : Addr).add q = ⟨b, off + q, none⟩ := by
      intro q; unfold Addr.add; split
      · next h => subst h; rfl
      · rfl
    refine ⟨b, off, rfl, Nat.zero_le _, ?_, fun i x hix j u hu => ?_⟩
    · have := World.block_lt_of_cell? w _ hc0
      rw [addk] at this; exact this
    · have := hxc i x hix j u hu
      rw [addk] at this
      rw [Nat.add_assoc]; exact this
end
end Go.Proofs.YtkegncanmfmmmaaDoor
namespace Go.Proofs.YtkegncanmfmmmaaDoor
theorem wf_bounds {n : Int} (h : (Lit.int .i64 n).wf = true) : -9223372036854775808 ≤ n ∧ n ≤ 9223372036854775807 := by
  simp only [Lit.wf, Bool.and_eq_true, decide_eq_true_eq] at h
  have h1 : IntKind.i64.min = -9223372036854775808 := by decide
  have h2 : IntKind.i64.max = 9223372036854775807 := by decide
  omega
end Go.Proofs.YtkegncanmfmmmaaDoor
