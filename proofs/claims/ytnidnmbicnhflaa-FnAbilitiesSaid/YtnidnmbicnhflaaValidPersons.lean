/- ValidPersons of the program and l24Ok of the reference: both say personsOk. Persons as records. -/
import Derived.Test.YtnidnmbicnhflaaRPerson
import Derived.Test.YtnidnmbicnhflaaNames
import Derived.Test.YtnidnmbicnhflaaLow
import Derived.Test.YtnidnmbicnhflaaWords3
namespace Go.Proofs.Ytnidnmbicnhflaa
open Go.RowKit
set_option linter.unusedVariables false

theorem toList_beq {s t : ByteArray} : (s.toList == t.toList) = decide (s = t) := by
  rw [Bool.eq_iff_iff]; simp only [beq_iff_eq, decide_eq_true_eq, ByteArray.toList_eq]; exact ba_eq

def pOk (p : Person) : Bool := nmOk p.name && (inB p.roles 0 7 && inB p.till 0 10000)
/-- no person ahead of place i bears that name -/
def newTo (ps : List Person) (i : Nat) (s : ByteArray) : Bool := allTo (fun j => match ps[j]? with | some q => !decide (q.name = s) | none => true) i
def okAt (ps : List Person) (i : Nat) : Bool := match ps[i]? with | some p => pOk p && newTo ps i p.name | none => true
def personsOk (ps : List Person) : Bool := allTo (okAt ps) ps.length && decide (ps.length ≤ 30)
theorem okAt_of {ps : List Person} {i : Nat} {p : Person} (h : ps[i]? = some p) : okAt ps i = (pOk p && newTo ps i p.name) := by simp only [okAt, h]
theorem personsOk_bad {ps : List Person} {i : Nat} {p : Person} (h : ps[i]? = some p) (hb : (pOk p && newTo ps i p.name) = false) : personsOk ps = false := by
  unfold personsOk; rw [allTo_bad (List.getElem?_eq_some_iff.1 h).1 (by rw [okAt_of h]; exact hb)]; rfl
theorem newTo_succ {ps : List Person} {i : Nat} {p : Person} (h : ps[i]? = some p) (s : ByteArray) : newTo ps (i + 1) s = (newTo ps i s && !decide (p.name = s)) := by
  unfold newTo; rw [allTo_succ]; simp only [h]

/-- what the set of names knows behind k persons -/
theorem newTo_set {ps : List Person} {i : Nat} {p : Person} (h : ps[i]? = some p) (r : ByteArray) : (decide (r = p.name) || !newTo ps i r) = !newTo ps (i + 1) r := by
  rw [newTo_succ h, Bool.not_and, Bool.not_not, Bool.or_comm]
  congr 1
  exact decide_eq_decide.2 ⟨fun h => h.symm, fun h => h.symm⟩

theorem pOk_cases (p : Person) : (nmOk p.name = false ∧ pOk p = false) ∨ (nmOk p.name = true ∧ inB p.roles 0 7 = false ∧ pOk p = false) ∨ (nmOk p.name = true ∧ inB p.roles 0 7 = true ∧ inB p.till 0 10000 = false ∧ pOk p = false) ∨ (nmOk p.name = true ∧ inB p.roles 0 7 = true ∧ inB p.till 0 10000 = true ∧ pOk p = true) := by
  unfold pOk
  cases nmOk p.name <;> cases inB p.roles 0 7 <;> cases inB p.till 0 10000 <;> simp

theorem zero4 (w : World) : (zeroValue 4).run Try.prog w = .ok (.bool false) w := by kernel_rfl

end Go.Proofs.Ytnidnmbicnhflaa
