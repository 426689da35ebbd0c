/- What is asked of lifts: plainB, risesB, liftsOk. Over values; no program in sight. -/
import Derived.Test.YtkegncanmfmmmaaDoorRLift
import Derived.Test.YtkegncanmfmmmaaDoorNames
import Derived.Test.YtkegncanmfmmmaaDoorLow
import Derived.Test.YtkegncanmfmmmaaDoorWords3
namespace Go.Proofs.YtkegncanmfmmmaaDoor
open Go.RowKit
set_option linter.unusedVariables false

abbrev LV := LiftV × List Int
def plcB (x y : Int) : Bool := inB x (-10000) 10000 && inB y (-10000) 10000
def plainB (v : LiftV) : Bool := nmOk v.name && (inB v.weight 1 50000 && (plcB v.fx v.fy && (plcB v.tx v.ty && (inB v.height 0 2000 && inB v.deadline 1 1000000))))
theorem plainB_cases (v : LiftV) : (nmOk v.name = false ∧ plainB v = false) ∨ (nmOk v.name = true ∧ inB v.weight 1 50000 = false ∧ plainB v = false) ∨ (nmOk v.name = true ∧ inB v.weight 1 50000 = true ∧ plcB v.fx v.fy = false ∧ plainB v = false) ∨
    (nmOk v.name = true ∧ inB v.weight 1 50000 = true ∧ plcB v.fx v.fy = true ∧ plcB v.tx v.ty = false ∧ plainB v = false) ∨
    (nmOk v.name = true ∧ inB v.weight 1 50000 = true ∧ plcB v.fx v.fy = true ∧ plcB v.tx v.ty = true ∧ inB v.height 0 2000 = false ∧ plainB v = false) ∨
    (nmOk v.name = true ∧ inB v.weight 1 50000 = true ∧ plcB v.fx v.fy = true ∧ plcB v.tx v.ty = true ∧ inB v.height 0 2000 = true ∧ inB v.deadline 1 1000000 = false ∧ plainB v = false) ∨
    (nmOk v.name = true ∧ inB v.weight 1 50000 = true ∧ plcB v.fx v.fy = true ∧ plcB v.tx v.ty = true ∧ inB v.height 0 2000 = true ∧ inB v.deadline 1 1000000 = true ∧ plainB v = true) := by
  unfold plainB
  cases nmOk v.name <;> cases inB v.weight 1 50000 <;> cases plcB v.fx v.fy <;> cases plcB v.tx v.ty <;> cases inB v.height 0 2000 <;> cases inB v.deadline 1 1000000 <;> simp
theorem plcB_iff {x y : Int} (h : plcB x y = true) : (-10000 ≤ x ∧ x ≤ 10000) ∧ (-10000 ≤ y ∧ y ≤ 10000) := by
  unfold plcB at h; rw [Bool.and_eq_true] at h; exact ⟨inB_true.1 h.1, inB_true.1 h.2⟩
structure PlainV (v : LiftV) : Prop where
  name : nmOk v.name = true
  weight : 1 ≤ v.weight ∧ v.weight ≤ 50000
  fx : -10000 ≤ v.fx ∧ v.fx ≤ 10000
  fy : -10000 ≤ v.fy ∧ v.fy ≤ 10000
  tx : -10000 ≤ v.tx ∧ v.tx ≤ 10000
  ty : -10000 ≤ v.ty ∧ v.ty ≤ 10000
  height : 0 ≤ v.height ∧ v.height ≤ 2000
  deadline : 1 ≤ v.deadline ∧ v.deadline ≤ 1000000
theorem plainB_parts {v : LiftV} (h : plainB v = true) : PlainV v := by
  unfold plainB at h
  simp only [Bool.and_eq_true] at h
  obtain ⟨h1, h2, h3, h4, h5, h6⟩ := h
  exact ⟨h1, inB_true.1 h2, (plcB_iff h3).1, (plcB_iff h3).2, (plcB_iff h4).1, (plcB_iff h4).2, inB_true.1 h5, inB_true.1 h6⟩

/-- the number ahead of place j, -1 at the first -/
def prv (xs : List Int) : Nat → Int
  | 0 => -1
  | j + 1 => xs[j]?.getD (-1)
theorem prv_succ {xs : List Int} {j : Nat} {x : Int} (h : xs[j]? = some x) : prv xs (j + 1) = x := by simp [prv, h]
def riseAt (xs : List Int) (n : Int) (j : Nat) : Bool := match xs[j]? with | some x => decide (0 ≤ x) && (decide (x < n) && decide (prv xs j < x)) | none => true
def risesB (xs : List Int) (n : Int) : Bool := allTo (riseAt xs n) xs.length
theorem riseAt_of {xs : List Int} {n : Int} {j : Nat} {x : Int} (h : xs[j]? = some x) : riseAt xs n j = (decide (0 ≤ x) && (decide (x < n) && decide (prv xs j < x))) := by simp only [riseAt, h]
theorem risesB_bad {xs : List Int} {n : Int} {j : Nat} {x : Int} (h : xs[j]? = some x) (hb : ¬ (0 ≤ x ∧ x < n ∧ prv xs j < x)) : risesB xs n = false := by
  unfold risesB
  refine allTo_bad (List.getElem?_eq_some_iff.1 h).1 ?_
  rw [riseAt_of h]
  by_cases h1 : 0 ≤ x <;> by_cases h2 : x < n <;> by_cases h3 : prv xs j < x <;> simp [h1, h2, h3]
  exact absurd ⟨h1, h2, h3⟩ hb
theorem riseAt_good {xs : List Int} {n : Int} {j : Nat} {x : Int} (h : xs[j]? = some x) (h1 : 0 ≤ x) (h2 : x < n) (h3 : prv xs j < x) : riseAt xs n j = true := by
  rw [riseAt_of h]; simp [h1, h2, h3]
theorem rise_at {xs : List Int} {n : Int} {k j : Nat} {x : Int} (h : allTo (riseAt xs n) k = true) (hj : j < k) (hx : xs[j]? = some x) : 0 ≤ x ∧ x < n ∧ prv xs j < x := by
  have := allTo_iff.1 h j hj
  rw [riseAt_of hx] at this
  simpa using this
theorem prv_low {xs : List Int} {n : Int} {k j : Nat} (h : allTo (riseAt xs n) k = true) (hj : j ≤ k) (hl : k ≤ xs.length) : -1 ≤ prv xs j := by
  cases j with
  | zero => simp [prv]
  | succ j =>
    have hx : xs[j]? = some (xs[j]'(by omega)) := List.getElem?_eq_getElem _
    have := rise_at h (by omega) hx
    rw [prv_succ hx]; omega
theorem risesB_mem {xs : List Int} {n x : Int} (h : risesB xs n = true) (hx : x ∈ xs) : 0 ≤ x ∧ x < n := by
  obtain ⟨j, hj, rfl⟩ := List.getElem_of_mem hx
  have := rise_at h hj (List.getElem?_eq_getElem hj)
  exact ⟨this.1, this.2.1⟩

/-- no lift ahead of place i bears that name -/
def freshTo (vs : List LV) (i : Nat) (s : ByteArray) : Bool := allTo (fun j => match vs[j]? with | some q => !decide (q.1.name = s) | none => true) i
def liftAt (vs : List LV) (i : Nat) : Bool := match vs[i]? with | some p => plainB p.1 && (freshTo vs i p.1.name && risesB p.2 i) | none => true
def liftsOk (vs : List LV) : Bool := allTo (liftAt vs) vs.length && decide (vs.length ≤ 10)
theorem liftAt_of {vs : List LV} {i : Nat} {p : LV} (h : vs[i]? = some p) : liftAt vs i = (plainB p.1 && (freshTo vs i p.1.name && risesB p.2 i)) := by simp only [liftAt, h]
theorem liftsOk_bad {vs : List LV} {i : Nat} {p : LV} (h : vs[i]? = some p) (hb : (plainB p.1 && (freshTo vs i p.1.name && risesB p.2 i)) = false) : liftsOk vs = false := by
  unfold liftsOk; rw [allTo_bad (List.getElem?_eq_some_iff.1 h).1 (by rw [liftAt_of h]; exact hb)]; rfl
theorem liftsOk_end {vs : List LV} {n : Nat} (hl : vs.length = n) (h : allTo (liftAt vs) n = true) : liftsOk vs = decide ((n : Int) ≤ 10) := by
  unfold liftsOk; rw [hl, h]; simp; omega
theorem freshTo_succ {vs : List LV} {i : Nat} {p : LV} (h : vs[i]? = some p) (s : ByteArray) : freshTo vs (i + 1) s = (freshTo vs i s && !decide (p.1.name = s)) := by
  unfold freshTo; rw [allTo_succ]; simp only [h]
/-- what the set of names knows behind k lifts -/
theorem freshTo_set {vs : List LV} {i : Nat} {p : LV} (h : vs[i]? = some p) (r : ByteArray) : (decide (r = p.1.name) || !freshTo vs i r) = !freshTo vs (i + 1) r := by
  rw [freshTo_succ h, Bool.not_and, Bool.not_not, Bool.or_comm]
  congr 1
  exact decide_eq_decide.2 ⟨fun h => h.symm, fun h => h.symm⟩
theorem liftsOk_len {vs : List LV} (h : liftsOk vs = true) : vs.length ≤ 10 := by
  unfold liftsOk at h; rw [Bool.and_eq_true] at h; exact of_decide_eq_true h.2
theorem liftsOk_at {vs : List LV} (h : liftsOk vs = true) {i : Nat} {p : LV} (hp : vs[i]? = some p) : plainB p.1 = true ∧ risesB p.2 i = true := by
  unfold liftsOk at h; rw [Bool.and_eq_true] at h
  have := allTo_iff.1 h.1 i (List.getElem?_eq_some_iff.1 hp).1
  rw [liftAt_of hp, Bool.and_eq_true, Bool.and_eq_true] at this
  exact ⟨this.1, this.2.2⟩
theorem lv_at {ps : List Lift} {vs : List LV} (hv : ps.map Lift.val = vs) {i : Nat} {p : Lift} (h : ps[i]? = some p) : vs[i]? = some (p.v, p.r.xs) := by
  subst hv; simp [h, Lift.val]
theorem lv_len {ps : List Lift} {vs : List LV} (hv : ps.map Lift.val = vs) : vs.length = ps.length := by subst hv; simp
end Go.Proofs.YtkegncanmfmmmaaDoor
