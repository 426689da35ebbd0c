/- Tasks: when a list is valid, as a plain law. No program in sight. -/
import Derived.Test.YtkegncanmfmmmaaDoorRTask
import Derived.Test.YtkegncanmfmmmaaDoorLow
import Derived.Test.YtkegncanmfmmmaaDoorFind
import Derived.Test.YtkegncanmfmmmaaDoorCmp
namespace Go.Proofs.YtkegncanmfmmmaaDoor
set_option linter.unusedVariables false

def tTime (t : Task) : Bool := decide (0 ≤ t.start) && (decide (t.start ≤ t.stop) && decide (t.stop ≤ 1000000))
def tOk (t : Task) : Bool := inB t.lift 0 9 && (inB t.crane 0 5 && tTime t)
theorem tOk_cases (t : Task) : (inB t.lift 0 9 = false ∧ tOk t = false) ∨ (inB t.lift 0 9 = true ∧ inB t.crane 0 5 = false ∧ tOk t = false) ∨ (inB t.lift 0 9 = true ∧ inB t.crane 0 5 = true ∧ tOk t = tTime t) := by
  unfold tOk
  cases inB t.lift 0 9 <;> cases inB t.crane 0 5 <;> simp
def cmpT (a b : Task) : Int := if sgn a.start b.start ≠ 0 then sgn a.start b.start else if sgn a.crane b.crane ≠ 0 then sgn a.crane b.crane else sgn a.lift b.lift
def befB (a b : Task) : Bool := decide (cmpT a b < 0)
theorem befB_start {a b : Task} (h : a.start ≠ b.start) : befB a b = decide (a.start < b.start) := by
  unfold befB cmpT
  rcases sgn_cases a.start b.start with ⟨h1, h2⟩ | ⟨_, h1, h2⟩ | ⟨h0, h1, h2⟩
  · rw [h2]; simp [h1]
  · rw [h2]; simp; omega
  · omega
theorem befB_crane {a b : Task} (h : a.start = b.start) (h2 : a.crane ≠ b.crane) : befB a b = decide (a.crane < b.crane) := by
  unfold befB cmpT
  have e : sgn a.start b.start = 0 := by rw [h]; simp [sgn]
  rw [e]
  rcases sgn_cases a.crane b.crane with ⟨h1, h3⟩ | ⟨_, h1, h3⟩ | ⟨h0, h1, h3⟩
  · rw [h3]; simp [h1]
  · rw [h3]; simp; omega
  · omega
theorem befB_lift {a b : Task} (h : a.start = b.start) (h2 : a.crane = b.crane) : befB a b = decide (a.lift < b.lift) := by
  unfold befB cmpT
  have e : sgn a.start b.start = 0 := by rw [h]; simp [sgn]
  have e2 : sgn a.crane b.crane = 0 := by rw [h2]; simp [sgn]
  rw [e, e2]
  rcases sgn_cases a.lift b.lift with ⟨h1, h3⟩ | ⟨_, h1, h3⟩ | ⟨h0, h1, h3⟩
  · rw [h3]; simp [h1]
  · rw [h3]; simp; omega
  · rw [h3]; simp; omega
theorem befB_iff {a b : Task} : befB a b = true ↔ a.start < b.start ∨ a.start = b.start ∧ (a.crane < b.crane ∨ a.crane = b.crane ∧ a.lift < b.lift) := by
  by_cases h : a.start = b.start
  · by_cases h2 : a.crane = b.crane
    · rw [befB_lift h h2]; simp; omega
    · rw [befB_crane h h2]; simp; omega
  · rw [befB_start h]; simp; omega

/-- the task at a place stands behind the one ahead of it -/
def seqAt (xs : List Task) : Nat → Bool
  | 0 => true
  | i + 1 => match xs[i]?, xs[i + 1]? with | some a, some b => befB a b | _, _ => true
def taskAt (xs : List Task) (i : Nat) : Bool := match xs[i]? with | some t => tOk t && seqAt xs i | none => true
def tasksOk (xs : List Task) : Bool := allTo (taskAt xs) xs.length && decide (xs.length ≤ 40)
theorem taskAt_of {xs : List Task} {i : Nat} {t : Task} (h : xs[i]? = some t) : taskAt xs i = (tOk t && seqAt xs i) := by simp only [taskAt, h]
theorem seqAt_succ {xs : List Task} {i : Nat} {a b : Task} (h : xs[i]? = some a) (h2 : xs[i + 1]? = some b) : seqAt xs (i + 1) = befB a b := by simp only [seqAt, h, h2]
theorem tasksOk_bad {xs : List Task} {i : Nat} {t : Task} (h : xs[i]? = some t) (hb : (tOk t && seqAt xs i) = false) : tasksOk xs = false := by
  unfold tasksOk; rw [allTo_bad (List.getElem?_eq_some_iff.1 h).1 (by rw [taskAt_of h]; exact hb)]; rfl
theorem tasksOk_mem {xs : List Task} (h : tasksOk xs = true) {t : Task} (ht : t ∈ xs) : tOk t = true := by
  unfold tasksOk at h
  simp only [Bool.and_eq_true] at h
  obtain ⟨j, hj, rfl⟩ := List.getElem_of_mem ht
  have := allTo_iff.1 h.1 j hj
  rw [taskAt_of (List.getElem?_eq_getElem hj)] at this
  simp only [Bool.and_eq_true] at this; exact this.1
theorem tasksOk_len {xs : List Task} (h : tasksOk xs = true) : xs.length ≤ 40 := by
  unfold tasksOk at h; simp only [Bool.and_eq_true, decide_eq_true_eq] at h; exact h.2
theorem tOk_bounds {t : Task} (h : tOk t = true) : 0 ≤ t.lift ∧ t.lift ≤ 9 ∧ 0 ≤ t.crane ∧ t.crane ≤ 5 ∧ 0 ≤ t.start ∧ t.start ≤ t.stop ∧ t.stop ≤ 1000000 := by
  unfold tOk tTime at h
  simp only [Bool.and_eq_true, decide_eq_true_eq] at h
  obtain ⟨h1, h2, h3, h4, h5⟩ := h
  have := inB_true.1 h1
  have := inB_true.1 h2
  omega
end Go.Proofs.YtkegncanmfmmmaaDoor
