/- Lifts that are drawn: valid ones, with names of their own; and a further one. No program in sight. -/
import Derived.Test.YtkegncanmfmmmaaDoorSpecAddLift
namespace Go.Proofs.YtkegncanmfmmmaaDoor
open Go.RowKit
set_option linter.unusedVariables false

def ns : List ByteArray := [⟨#[97]⟩, ⟨#[98]⟩, ⟨#[99]⟩, ⟨#[100]⟩, ⟨#[101]⟩, ⟨#[102]⟩, ⟨#[103]⟩, ⟨#[104]⟩, ⟨#[105]⟩, ⟨#[106]⟩, ⟨#[107]⟩]
theorem ns_len : ns.length = 11 := rfl
theorem ns_ok : ∀ s ∈ ns, nmOk s = true := by decide +kernel
theorem ns_size : ∀ s ∈ ns, s.size ≤ 1 := by decide +kernel
theorem ns_apart : ∀ i, i < 11 → ∀ j, j < 11 → i ≠ j → ns[i]? ≠ ns[j]? := by decide +kernel
def newName : ByteArray := ⟨#[110, 101, 119]⟩
theorem new_ok : nmOk newName = true := by decide +kernel
theorem new_not : ∀ s ∈ ns, s ≠ newName := by decide +kernel
theorem ns_ne {i j : Nat} {s t : ByteArray} (hs : ns[i]? = some s) (ht : ns[j]? = some t) (hne : i ≠ j) : s ≠ t := by
  intro e
  subst e
  have h1 := (List.getElem?_eq_some_iff.1 hs).1
  have h2 := (List.getElem?_eq_some_iff.1 ht).1
  rw [ns_len] at h1 h2
  exact ns_apart i h1 j h2 hne (hs.trans ht.symm)
theorem rises_up {xs : List Int} {n n2 : Int} (h : risesB xs n = true) (hn : n ≤ n2) : risesB xs n2 = true := by
  unfold risesB at h ⊢
  rw [allTo_iff] at h ⊢
  intro i hi
  have h1 := h i hi
  have hx : xs[i]? = some (xs[i]'hi) := List.getElem?_eq_getElem hi
  rw [riseAt_of hx] at h1 ⊢
  simp only [Bool.and_eq_true, decide_eq_true_eq] at h1 ⊢
  omega
theorem prv_app {xs : List Int} {y : Int} {i : Nat} (hi : i ≤ xs.length) : prv (xs ++ [y]) i = prv xs i := by
  cases i with
  | zero => rfl
  | succ i => simp only [prv]; rw [List.getElem?_append_left (by omega)]
theorem rises_snoc {xs : List Int} {n : Int} (h : risesB xs n = true) (h0 : 0 ≤ n) : risesB (xs ++ [n]) (n + 1) = true := by
  have hh := h
  unfold risesB at h ⊢
  rw [allTo_iff] at h ⊢
  intro i hi
  rw [List.length_append, List.length_singleton] at hi
  by_cases hl : i < xs.length
  · have hx : xs[i]? = some (xs[i]'hl) := List.getElem?_eq_getElem hl
    have h1 := h i hl
    rw [riseAt_of hx] at h1
    rw [riseAt_of (show (xs ++ [n])[i]? = some (xs[i]'hl) by rw [List.getElem?_append_left hl]; exact hx), prv_app (by omega)]
    simp only [Bool.and_eq_true, decide_eq_true_eq] at h1 ⊢
    omega
  · obtain rfl : i = xs.length := by omega
    rw [riseAt_of (show (xs ++ [n])[xs.length]? = some n by simp), prv_app (Nat.le_refl _)]
    simp only [Bool.and_eq_true, decide_eq_true_eq]
    refine ⟨h0, by omega, ?_⟩
    cases hxs : xs.length with
    | zero => simp only [prv]; omega
    | succ m =>
      have hx : xs[m]? = some (xs[m]'(by omega)) := List.getElem?_eq_getElem _
      rw [prv_succ hx]
      exact (risesB_mem hh (List.mem_of_getElem? hx)).2
theorem rises_nil (n : Int) : risesB [] n = true := rfl

def GoodV (i : Nat) (v : LV) : Prop := plainB v.1 = true ∧ risesB v.2 (i : Int) = true ∧ ns[i]? = some v.1.name
def Good (vs : List LV) : Prop := ∀ i v, vs[i]? = some v → GoodV i v
theorem good_nil : Good [] := fun i v h => by simp at h
theorem good_snoc {vs : List LV} {v : LV} (h : Good vs) (hv : GoodV vs.length v) : Good (vs ++ [v]) := by
  intro i u hu
  by_cases hl : i < vs.length
  · rw [List.getElem?_append_left hl] at hu; exact h i u hu
  · have hl2 := (List.getElem?_eq_some_iff.1 hu).1
    rw [List.length_append, List.length_singleton] at hl2
    obtain rfl : i = vs.length := by omega
    simp at hu; subst hu; exact hv
theorem good_at {vs : List LV} (h : Good vs) {i : Nat} (hi : i < vs.length) : liftAt vs i = true := by
  have hp : vs[i]? = some (vs[i]'hi) := List.getElem?_eq_getElem hi
  obtain ⟨h1, h2, h3⟩ := h i _ hp
  rw [liftAt_of hp, h1, h2, Bool.true_and, Bool.and_true]
  unfold freshTo
  rw [allTo_iff]
  intro j hj
  have hq : vs[j]? = some (vs[j]'(by omega)) := List.getElem?_eq_getElem _
  simp only [hq]
  have h4 := (h j _ hq).2.2
  rw [decide_eq_false (ns_ne h4 h3 (by omega))]; rfl
theorem good_ok {vs : List LV} (h : Good vs) (hl : vs.length ≤ 10) : liftsOk vs = true := by
  unfold liftsOk
  rw [decide_eq_true hl, Bool.and_true, allTo_iff]
  exact fun i hi => good_at h hi
def newL : LV := (⟨newName, 1, 0, 0, 0, 0, 0, 1⟩, [])
theorem newL_plain : plainB newL.1 = true := by
  unfold plainB newL
  dsimp only
  rw [new_ok]; decide
theorem good_new {vs : List LV} (h : Good vs) (hl : vs.length ≤ 9) : alXs vs newL = vs ++ [newL] ∧ alCode vs newL = 0 ∧ liftsOk (vs ++ [newL]) = true := by
  have hno : ∀ (i : Nat) (v : LV), vs[i]? = some v → v.1.name ≠ newName := fun i v hv => new_not _ (List.mem_of_getElem? (h i v hv).2.2)
  have h2 : ¬ 0 ≤ fIdx (nameIs newL.1.name) vs := by
    rw [fIdx_none (noTo_iff.2 fun j hj y hy => by
      unfold nameIs
      exact decide_eq_false (hno j y hy))]
    omega
  have h4 : liftsOk (vs ++ [newL]) = true := by
    unfold liftsOk
    rw [decide_eq_true (by rw [List.length_append, List.length_singleton]; omega), Bool.and_true, allTo_iff]
    intro i hi
    rw [List.length_append, List.length_singleton] at hi
    by_cases hlt : i < vs.length
    · have h5 := good_at h hlt
      have hp : vs[i]? = some (vs[i]'hlt) := List.getElem?_eq_getElem hlt
      rw [liftAt_of hp] at h5
      rw [liftAt_of (show (vs ++ [newL])[i]? = some (vs[i]'hlt) by rw [List.getElem?_append_left hlt]; exact hp)]
      rw [← h5]
      congr 2
      unfold freshTo
      rw [Bool.eq_iff_iff, allTo_iff, allTo_iff]
      constructor
      · intro g j hj
        have := g j hj
        rw [List.getElem?_append_left (by omega)] at this; exact this
      · intro g j hj
        have := g j hj
        rw [List.getElem?_append_left (by omega)]; exact this
    · obtain rfl : i = vs.length := by omega
      rw [liftAt_of (show (vs ++ [newL])[vs.length]? = some newL by simp), newL_plain, show risesB newL.2 (vs.length : Int) = true from rfl, Bool.true_and, Bool.and_true]
      unfold freshTo
      rw [allTo_iff]
      intro j hj
      have hq : vs[j]? = some (vs[j]'hj) := List.getElem?_eq_getElem _
      simp only [List.getElem?_append_left hj, hq]
      rw [decide_eq_false (show ¬ (vs[j]'hj).1.name = newL.1.name from hno j _ hq)]; rfl
  have h0 := al_0 (v := newL) (good_ok h (by omega)) h2 (by omega) h4
  exact ⟨h0.1, h0.2, h4⟩
end Go.Proofs.YtkegncanmfmmmaaDoor
