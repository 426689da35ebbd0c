/- l14Less of the reference: the fractions compared by their parts. -/
import Derived.Test.YtdhobglhjdgboaaDoorRFraction
import Derived.Test.YtdhobglhjdgboaaDoorFracLaw
namespace Go.Proofs.YtdhobglhjdgboaaDoor
open Go.RowKit
set_option linter.unusedVariables false

def lessB (an ad bn bd : Nat) : Bool := decide (an * bd < bn * ad)
theorem lessB_ne {an ad bn bd : Nat} (ha : 0 < ad) (hb : 0 < bd) (h : an / ad ≠ bn / bd) : lessB an ad bn bd = decide (((an / ad : Nat) : Int) < ((bn / bd : Nat) : Int)) := by
  unfold lessB
  rcases Nat.lt_or_gt_of_ne h with h1 | h1
  · rw [decide_eq_true (nat_lt_parts ha hb h1), decide_eq_true (by omega)]
  · have h2 := nat_lt_parts hb ha h1
    rw [decide_eq_false (by omega), decide_eq_false (by omega)]
theorem lessB_same {an ad bn bd : Nat} (h : an / ad = bn / bd) : lessB an ad bn bd = decide (an % ad * bd < bn % bd * ad) := by
  unfold lessB; exact decide_eq_decide.2 (nat_lt_same h)
theorem lessB_x0 {an ad bn bd : Nat} (ha : 0 < ad) (h : an / ad = bn / bd) (hx : an % ad = 0) : lessB an ad bn bd = decide ((0 : Int) < ((bn % bd : Nat) : Int)) := by
  rw [lessB_same h, hx, Nat.zero_mul]
  refine decide_eq_decide.2 ?_
  rw [Int.natCast_pos]
  exact ⟨fun h => Nat.pos_of_mul_pos_right h, fun h => Nat.mul_pos h ha⟩
theorem lessB_y0 {an ad bn bd : Nat} (h : an / ad = bn / bd) (hy : bn % bd = 0) : lessB an ad bn bd = false := by
  rw [lessB_same h, hy, Nat.zero_mul]; exact decide_eq_false (by omega)
theorem lessB_turn {an ad bn bd : Nat} (h : an / ad = bn / bd) : lessB an ad bn bd = lessB bd (bn % bd) ad (an % ad) := by
  rw [lessB_same h]; unfold lessB
  exact decide_eq_decide.2 (by rw [Nat.mul_comm (an % ad) bd, Nat.mul_comm (bn % bd) ad])
def cellN (w : World) (a : Addr) : Nat := match w.cell? a with | some (.int _ n) => n.toNat | _ => 0
theorem cellN_of {w : World} {a : Addr} {n : Nat} {k : IntKind} (h : w.cell? a = some (.int k (n : Int))) : cellN w a = n := by unfold cellN; rw [h]; rfl

end Go.Proofs.YtdhobglhjdgboaaDoor
