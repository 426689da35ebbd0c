/- ready of the program, l08Can and l08Ready of the reference; ReadyLifts of both. -/
import Derived.Test.YtnidnmbicnhflaaLifts3
import Derived.Test.YtnidnmbicnhflaaSets
import Derived.Deep.LoopGhost
namespace Go.Proofs.Ytnidnmbicnhflaa
open Go.RowKit Go.Sort
set_option linter.unusedVariables false

def inAt (xs : List Int) (m : Int) (j : Nat) : Bool := match xs[j]? with | some x => hasI m x | none => true
theorem inAt_of {xs : List Int} {m : Int} {j : Nat} {x : Int} (h : xs[j]? = some x) : inAt xs m j = hasI m x := by simp only [inAt, h]
/-- a lift can be done behind the set m -/
def canB (vs : List LV) (m : Int) (k : Nat) : Bool := match vs[k]? with | some v => !hasI m k && allTo (inAt v.2 m) v.2.length | none => false
theorem canB_of {vs : List LV} {m : Int} {k : Nat} {v : LV} (h : vs[k]? = some v) : canB vs m k = (!hasI m k && allTo (inAt v.2 m) v.2.length) := by simp only [canB, h]
def rdTo (vs : List LV) (m : Int) (k : Nat) : List Int := ((List.range k).filter (canB vs m)).map fun j : Nat => (j : Int)
theorem rdTo_yes {vs : List LV} {m : Int} {k : Nat} (h : canB vs m k = true) : rdTo vs m (k + 1) = rdTo vs m k ++ [(k : Int)] := by
  unfold rdTo; rw [List.range_succ, List.filter_append, List.map_append]; simp [h]
theorem rdTo_no {vs : List LV} {m : Int} {k : Nat} (h : canB vs m k = false) : rdTo vs m (k + 1) = rdTo vs m k := by
  unfold rdTo; rw [List.range_succ, List.filter_append, List.map_append]; simp [h]
theorem rdTo_len (vs : List LV) (m : Int) (k : Nat) : (rdTo vs m k).length ≤ k := by
  unfold rdTo; rw [List.length_map]; exact Nat.le_trans (List.length_filter_le _ _) (by simp)
theorem rdTo_mem {vs : List LV} {m : Int} {k : Nat} {x : Int} (h : x ∈ rdTo vs m k) : ∃ j : Nat, x = (j : Int) ∧ j < k ∧ canB vs m j = true := by
  unfold rdTo at h
  obtain ⟨j, hj, rfl⟩ := List.mem_map.1 h
  rw [List.mem_filter, List.mem_range] at hj
  exact ⟨j, rfl, hj.1, hj.2⟩
/-- the numbers in the lifts' After fit a set -/
def Fits (vs : List LV) : Prop := ∀ v ∈ vs, ∀ x ∈ v.2, 0 ≤ x ∧ x < 62
theorem fits_of {vs : List LV} (h : liftsOk vs = true) : Fits vs := by
  intro v hv x hx
  obtain ⟨j, hj, rfl⟩ := List.getElem_of_mem hv
  have h1 := liftsOk_at h (List.getElem?_eq_getElem hj)
  have h2 := risesB_mem h1.2 hx
  have := liftsOk_len h
  omega

end Go.Proofs.Ytnidnmbicnhflaa
