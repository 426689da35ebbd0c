/- What is asked of sites: siteOk. Over values; no program in sight. -/
import Derived.Test.YtkegncanmfmmmaaDoorCranes
import Derived.Test.YtkegncanmfmmmaaDoorWords3
namespace Go.Proofs.YtkegncanmfmmmaaDoor
open Go.RowKit
set_option linter.unusedVariables false

/-- two cranes stand within 10 of one another -/
def nearB (d c : CV) : Bool := decide (sqD d.1.ax d.1.ay c.1.ax c.1.ay ≤ 100)
def clashB (d c : CV) : Bool := decide (d.1.name = c.1.name) || nearB d c
/-- no crane ahead of place i bears that name or stands near -/
def freeTo (cs : List CV) (i : Nat) (c : CV) : Bool := allTo (fun j => match cs[j]? with | some d => !clashB d c | none => true) i
def siteAt (cs : List CV) (i : Nat) : Bool := match cs[i]? with | some c => craneOk c && freeTo cs i c | none => true
def siteOk (cs : List CV) : Bool := allTo (siteAt cs) cs.length && (decide (1 ≤ (cs.length : Int)) && decide ((cs.length : Int) ≤ 6))
theorem siteAt_of {cs : List CV} {i : Nat} {c : CV} (h : cs[i]? = some c) : siteAt cs i = (craneOk c && freeTo cs i c) := by simp only [siteAt, h]
theorem siteOk_bad {cs : List CV} {i : Nat} {c : CV} (h : cs[i]? = some c) (hb : (craneOk c && freeTo cs i c) = false) : siteOk cs = false := by
  unfold siteOk; rw [allTo_bad (List.getElem?_eq_some_iff.1 h).1 (by rw [siteAt_of h]; exact hb)]; rfl
theorem freeTo_bad {cs : List CV} {i j : Nat} {c d : CV} (h : cs[j]? = some d) (hj : j < i) (hb : clashB d c = true) : freeTo cs i c = false := by
  unfold freeTo; exact allTo_bad hj (by simp only [h, hb]; rfl)
theorem freeTo_step {cs : List CV} {j : Nat} {c d : CV} (h : cs[j]? = some d) (h0 : freeTo cs j c = true) (hb : clashB d c = false) : freeTo cs (j + 1) c = true := by
  unfold freeTo at *; exact allTo_step h0 (by simp only [h, hb]; rfl)
theorem siteOk_end {cs : List CV} {n : Nat} (hl : cs.length = n) (h : allTo (siteAt cs) n = true) : siteOk cs = (decide (1 ≤ (n : Int)) && decide ((n : Int) ≤ 6)) := by
  unfold siteOk; rw [hl, h, Bool.true_and]
theorem siteTo_ok {cs : List CV} {i j : Nat} {c : CV} (h : allTo (siteAt cs) i = true) (hj : j < i) (hc : cs[j]? = some c) : craneOk c = true := by
  have := allTo_iff.1 h j hj
  rw [siteAt_of hc, Bool.and_eq_true] at this; exact this.1
theorem siteOk_len {cs : List CV} (h : siteOk cs = true) : 1 ≤ cs.length ∧ cs.length ≤ 6 := by
  unfold siteOk at h; simp only [Bool.and_eq_true, decide_eq_true_eq] at h; omega
theorem siteOk_at {cs : List CV} (h : siteOk cs = true) {i : Nat} {c : CV} (hc : cs[i]? = some c) : craneOk c = true := by
  unfold siteOk at h; simp only [Bool.and_eq_true] at h
  exact siteTo_ok h.1 (List.getElem?_eq_some_iff.1 hc).1 hc
theorem cv_at {ps : List Crane} {cs : List CV} (hv : ps.map Crane.val = cs) {i : Nat} {p : Crane} (h : ps[i]? = some p) : cs[i]? = some p.val := by
  subst hv; simp [h]
theorem cv_len {ps : List Crane} {cs : List CV} (hv : ps.map Crane.val = cs) : cs.length = ps.length := by subst hv; simp
end Go.Proofs.YtkegncanmfmmmaaDoor
