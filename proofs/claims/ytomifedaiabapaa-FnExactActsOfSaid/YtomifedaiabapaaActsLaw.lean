/- The acts that are possible, as a plain list. -/
import Derived.Test.YtomifedaiabapaaCanLaw
namespace Go.Proofs.Ytomifedaiabapaa
open Go.RowKit
set_option linter.unusedVariables false

def act (k : Nat) : Dact := ⟨(k : Int) / 12 - 1, (k : Int) / 4 % 3 - 1, (k : Int) / 2 % 2 == 1, (k : Int) % 2 == 1⟩
def actsTo (can : Dact → Bool) : Nat → List Dact
  | 0 => []
  | k + 1 => if can (act k) then actsTo can k ++ [act k] else actsTo can k
theorem actsTo_yes {can : Dact → Bool} {k : Nat} (h : can (act k) = true) : actsTo can (k + 1) = actsTo can k ++ [act k] := by simp only [actsTo]; rw [h]; rfl
theorem actsTo_no {can : Dact → Bool} {k : Nat} (h : can (act k) = false) : actsTo can (k + 1) = actsTo can k := by simp only [actsTo]; rw [h]; rfl
theorem actsTo_len {can : Dact → Bool} : ∀ k, (actsTo can k).length ≤ k
  | 0 => Nat.le_refl _
  | k + 1 => by
    have ih := actsTo_len (can := can) k
    cases h : can (act k)
    · rw [actsTo_no h]; omega
    · rw [actsTo_yes h, List.length_append, List.length_singleton]; omega
theorem act_ijl_fin : ∀ i : Fin 3, ∀ j : Fin 3, ∀ l : Fin 4, act (12 * i.val + 4 * j.val + l.val) = ⟨(i.val : Int) - 1, (j.val : Int) - 1, decide (2 ≤ (l.val : Int)), ((l.val : Int) % 2 == 1)⟩ := by
  intro i j l
  obtain ⟨i, hi⟩ := i
  obtain ⟨j, hj⟩ := j
  obtain ⟨l, hl⟩ := l
  dsimp only
  unfold act
  have e1 : ((12 * i + 4 * j + l : Nat) : Int) / 12 - 1 = (i : Int) - 1 := by omega
  have e2 : ((12 * i + 4 * j + l : Nat) : Int) / 4 % 3 - 1 = (j : Int) - 1 := by omega
  have e3 : (((12 * i + 4 * j + l : Nat) : Int) / 2 % 2 == 1) = decide (2 ≤ (l : Int)) := by
    rw [Bool.eq_iff_iff]
    simp only [beq_iff_eq, decide_eq_true_eq]; omega
  have e4 : (((12 * i + 4 * j + l : Nat) : Int) % 2 == 1) = ((l : Int) % 2 == 1) := by
    rw [Bool.eq_iff_iff]
    simp only [beq_iff_eq]; omega
  rw [e1, e2, e3, e4]
theorem act_ijl {i j l : Nat} (hi : i < 3) (hj : j < 3) (hl : l < 4) : act (12 * i + 4 * j + l) = ⟨(i : Int) - 1, (j : Int) - 1, decide (2 ≤ (l : Int)), ((l : Int) % 2 == 1)⟩ := act_ijl_fin ⟨i, hi⟩ ⟨j, hj⟩ ⟨l, hl⟩
theorem act_range {k : Nat} (hk : k < 36) : (-1 ≤ (k : Int) / 12 - 1 ∧ (k : Int) / 12 - 1 ≤ 1) ∧ (-1 ≤ (k : Int) / 4 % 3 - 1 ∧ (k : Int) / 4 % 3 - 1 ≤ 1) := by omega
/-- a call that hands back the acts -/
def Acts (xs : List Dact) (w : World) (e : Ending) (w' : World) : Prop := ∃ v, e = .returned v ∧ Grow Dact.cs 4 w' w.heap.size 115 v xs ∧ Below w.heap.size w w'
theorem VP.grown {W W' : World} {q : Nat} {v : Watch} {p : Wld} (h : VP W q v p) {row : Option Nat} (hg : W.grownBy W' row) (hr : ∀ k, row = some k → q + 1 < k) : VP W' q v p :=
  ⟨(hg.block q h.1.lt (fun e => by have := hr q e.symm; omega)).trans h.1, (hg.block (q + 1) h.2.lt (fun e => by have := hr _ e.symm; omega)).trans h.2⟩
end Go.Proofs.Ytomifedaiabapaa
