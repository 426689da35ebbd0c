/- markLiftS and heldLiftS: what they write, and that what was written is found again. -/
import Derived.Test.YtdhobglhjdgboaaDoorRLift
import Derived.Test.YtdhobglhjdgboaaDoorNest3
import Derived.Test.YtdhobglhjdgboaaDoorMarkText
import Derived.Deep.RegionHeld3
namespace Go.Proofs.YtdhobglhjdgboaaDoor
open Go.RowKit
set_option linter.unusedVariables false

/-- the record that markLiftS makes of p at number q -/
def Lift.mk_ (q : Int) (p : Lift) : Lift := ⟨⟨(mText (q)), (q + 1), (q + 1 + 1), (q + 1 + 1 + 1), (q + 1 + 1 + 1 + 1), (q + 1 + 1 + 1 + 1 + 1), (q + 1 + 1 + 1 + 1 + 1 + 1), (q + 1 + 1 + 1 + 1 + 1 + 1 + 1)⟩, ⟨p.r.a, p.r.n, p.r.cap, marksInt (q + 1 + 1 + 1 + 1 + 1 + 1 + 1 + 1) p.r.n⟩⟩
def Lift.wide (p : Lift) : Nat := 8 + p.r.xs.length
def markLifts (q : Int) (ps : List Lift) (i : Nat) (p : Lift) : Lift := p.mk_ (q + (tot Lift.wide (ps.take i) : Nat))
theorem tot_wide {ps ps2 : List Lift} (h : ps.map Lift.val = ps2.map Lift.val) : tot Lift.wide ps = tot Lift.wide ps2 := by
  have e : ∀ qs : List Lift, qs.map Lift.wide = (qs.map Lift.val).map (fun v => 8 + v.2.length) := by intro qs; rw [List.map_map]; rfl
  unfold tot; rw [e, e, h]
theorem tot_wide_le {ps : List Lift} (h : ∀ p ∈ ps, p.r.xs.length = p.r.n) : tot Lift.wide ps ≤ 8 * ps.length + tot Lift.sz ps := by
  induction ps with
  | nil => simp [tot]
  | cons p ps ih =>
    have h1 := ih (fun q hq => h q (List.mem_cons_of_mem _ hq))
    have h2 := h p List.mem_cons_self
    simp only [tot, List.map_cons, List.sum_cons, List.length_cons] at *
    unfold Lift.wide Lift.sz at *
    omega
theorem arr8_old (cs : Array Value) (t i : Nat) (u0 u1 u2 u3 u4 u5 u6 u7 : Value) (hi : i < t ∨ t + 8 ≤ i) : (((((((((cs.setIfInBounds (t) u0).setIfInBounds (t + 1) u1).setIfInBounds (t + 2) u2).setIfInBounds (t + 3) u3).setIfInBounds (t + 4) u4).setIfInBounds (t + 5) u5).setIfInBounds (t + 6) u6).setIfInBounds (t + 7) u7))[i]? = cs[i]? := by
  rw [Array.getElem?_setIfInBounds_ne (by omega), Array.getElem?_setIfInBounds_ne (by omega), Array.getElem?_setIfInBounds_ne (by omega), Array.getElem?_setIfInBounds_ne (by omega), Array.getElem?_setIfInBounds_ne (by omega), Array.getElem?_setIfInBounds_ne (by omega), Array.getElem?_setIfInBounds_ne (by omega), Array.getElem?_setIfInBounds_ne (by omega)]
theorem arr8_0 (cs : Array Value) (t : Nat) (u0 u1 u2 u3 u4 u5 u6 u7 : Value) (ht : t + 8 ≤ cs.size) : (((((((((cs.setIfInBounds (t) u0).setIfInBounds (t + 1) u1).setIfInBounds (t + 2) u2).setIfInBounds (t + 3) u3).setIfInBounds (t + 4) u4).setIfInBounds (t + 5) u5).setIfInBounds (t + 6) u6).setIfInBounds (t + 7) u7))[t]? = some u0 := by
  rw [Array.getElem?_setIfInBounds_ne (by omega), Array.getElem?_setIfInBounds_ne (by omega), Array.getElem?_setIfInBounds_ne (by omega), Array.getElem?_setIfInBounds_ne (by omega), Array.getElem?_setIfInBounds_ne (by omega), Array.getElem?_setIfInBounds_ne (by omega), Array.getElem?_setIfInBounds_ne (by omega), Array.getElem?_setIfInBounds_self_of_lt (by first | omega | (simp; omega))]
theorem arr8_1 (cs : Array Value) (t : Nat) (u0 u1 u2 u3 u4 u5 u6 u7 : Value) (ht : t + 8 ≤ cs.size) : (((((((((cs.setIfInBounds (t) u0).setIfInBounds (t + 1) u1).setIfInBounds (t + 2) u2).setIfInBounds (t + 3) u3).setIfInBounds (t + 4) u4).setIfInBounds (t + 5) u5).setIfInBounds (t + 6) u6).setIfInBounds (t + 7) u7))[t + 1]? = some u1 := by
  rw [Array.getElem?_setIfInBounds_ne (by omega), Array.getElem?_setIfInBounds_ne (by omega), Array.getElem?_setIfInBounds_ne (by omega), Array.getElem?_setIfInBounds_ne (by omega), Array.getElem?_setIfInBounds_ne (by omega), Array.getElem?_setIfInBounds_ne (by omega), Array.getElem?_setIfInBounds_self_of_lt (by first | omega | (simp; omega))]
theorem arr8_2 (cs : Array Value) (t : Nat) (u0 u1 u2 u3 u4 u5 u6 u7 : Value) (ht : t + 8 ≤ cs.size) : (((((((((cs.setIfInBounds (t) u0).setIfInBounds (t + 1) u1).setIfInBounds (t + 2) u2).setIfInBounds (t + 3) u3).setIfInBounds (t + 4) u4).setIfInBounds (t + 5) u5).setIfInBounds (t + 6) u6).setIfInBounds (t + 7) u7))[t + 2]? = some u2 := by
  rw [Array.getElem?_setIfInBounds_ne (by omega), Array.getElem?_setIfInBounds_ne (by omega), Array.getElem?_setIfInBounds_ne (by omega), Array.getElem?_setIfInBounds_ne (by omega), Array.getElem?_setIfInBounds_ne (by omega), Array.getElem?_setIfInBounds_self_of_lt (by first | omega | (simp; omega))]
theorem arr8_3 (cs : Array Value) (t : Nat) (u0 u1 u2 u3 u4 u5 u6 u7 : Value) (ht : t + 8 ≤ cs.size) : (((((((((cs.setIfInBounds (t) u0).setIfInBounds (t + 1) u1).setIfInBounds (t + 2) u2).setIfInBounds (t + 3) u3).setIfInBounds (t + 4) u4).setIfInBounds (t + 5) u5).setIfInBounds (t + 6) u6).setIfInBounds (t + 7) u7))[t + 3]? = some u3 := by
  rw [Array.getElem?_setIfInBounds_ne (by omega), Array.getElem?_setIfInBounds_ne (by omega), Array.getElem?_setIfInBounds_ne (by omega), Array.getElem?_setIfInBounds_ne (by omega), Array.getElem?_setIfInBounds_self_of_lt (by first | omega | (simp; omega))]
theorem arr8_4 (cs : Array Value) (t : Nat) (u0 u1 u2 u3 u4 u5 u6 u7 : Value) (ht : t + 8 ≤ cs.size) : (((((((((cs.setIfInBounds (t) u0).setIfInBounds (t + 1) u1).setIfInBounds (t + 2) u2).setIfInBounds (t + 3) u3).setIfInBounds (t + 4) u4).setIfInBounds (t + 5) u5).setIfInBounds (t + 6) u6).setIfInBounds (t + 7) u7))[t + 4]? = some u4 := by
  rw [Array.getElem?_setIfInBounds_ne (by omega), Array.getElem?_setIfInBounds_ne (by omega), Array.getElem?_setIfInBounds_ne (by omega), Array.getElem?_setIfInBounds_self_of_lt (by first | omega | (simp; omega))]
theorem arr8_5 (cs : Array Value) (t : Nat) (u0 u1 u2 u3 u4 u5 u6 u7 : Value) (ht : t + 8 ≤ cs.size) : (((((((((cs.setIfInBounds (t) u0).setIfInBounds (t + 1) u1).setIfInBounds (t + 2) u2).setIfInBounds (t + 3) u3).setIfInBounds (t + 4) u4).setIfInBounds (t + 5) u5).setIfInBounds (t + 6) u6).setIfInBounds (t + 7) u7))[t + 5]? = some u5 := by
  rw [Array.getElem?_setIfInBounds_ne (by omega), Array.getElem?_setIfInBounds_ne (by omega), Array.getElem?_setIfInBounds_self_of_lt (by first | omega | (simp; omega))]
theorem arr8_6 (cs : Array Value) (t : Nat) (u0 u1 u2 u3 u4 u5 u6 u7 : Value) (ht : t + 8 ≤ cs.size) : (((((((((cs.setIfInBounds (t) u0).setIfInBounds (t + 1) u1).setIfInBounds (t + 2) u2).setIfInBounds (t + 3) u3).setIfInBounds (t + 4) u4).setIfInBounds (t + 5) u5).setIfInBounds (t + 6) u6).setIfInBounds (t + 7) u7))[t + 6]? = some u6 := by
  rw [Array.getElem?_setIfInBounds_ne (by omega), Array.getElem?_setIfInBounds_self_of_lt (by first | omega | (simp; omega))]
theorem arr8_7 (cs : Array Value) (t : Nat) (u0 u1 u2 u3 u4 u5 u6 u7 : Value) (ht : t + 8 ≤ cs.size) : (((((((((cs.setIfInBounds (t) u0).setIfInBounds (t + 1) u1).setIfInBounds (t + 2) u2).setIfInBounds (t + 3) u3).setIfInBounds (t + 4) u4).setIfInBounds (t + 5) u5).setIfInBounds (t + 6) u6).setIfInBounds (t + 7) u7))[t + 7]? = some u7 := by
  rw [Array.getElem?_setIfInBounds_self_of_lt (by first | omega | (simp; omega))]

def MarkLiftS (w : World) (lo hi : Nat) (A : Option Addr) (n : Nat) (ps : List Lift) (q : Int) (e : Ending) (w' : World) : Prop :=
  e = .returned (.int .i64 (q + (tot Lift.wide ps : Nat))) ∧ Within lo hi w w' ∧ LiftsOwn w' lo hi A n (upTo (markLifts q ps) ps n)
end Go.Proofs.YtdhobglhjdgboaaDoor
