/- Climbs put together and turned back: the lists, as plain laws. No program in sight. -/
import Derived.Test.YtkegncanmfmmmaaDoorRClimb
import Derived.Test.YtkegncanmfmmmaaDoorLow
import Derived.Test.YtkegncanmfmmmaaDoorFind
namespace Go.Proofs.YtkegncanmfmmmaaDoor
set_option linter.unusedVariables false

def cOk (c : Climb) : Bool := inB c.crane 0 5 && (inB c.sections (-100) 100 && (c.sections != 0))
def cBad (c : Climb) : Bool := !cOk c
def climbsOk (xs : List Climb) : Bool := decide (xs.length ≤ 60) && !(xs.any cBad)
theorem cOk_cases (c : Climb) : (inB c.crane 0 5 = false ∧ cOk c = false) ∨ (inB c.crane 0 5 = true ∧ inB c.sections (-100) 100 = false ∧ cOk c = false) ∨ (inB c.crane 0 5 = true ∧ inB c.sections (-100) 100 = true ∧ (c.sections != 0) = false ∧ cOk c = false) ∨ (inB c.crane 0 5 = true ∧ inB c.sections (-100) 100 = true ∧ (c.sections != 0) = true ∧ cOk c = true) := by
  unfold cOk
  cases inB c.crane 0 5 <;> cases inB c.sections (-100) 100 <;> cases c.sections != 0 <;> simp
theorem climbsOk_mem {xs : List Climb} (h : climbsOk xs = true) {c : Climb} (hc : c ∈ xs) : cOk c = true := by
  unfold climbsOk at h
  simp only [Bool.and_eq_true, Bool.not_eq_true', List.any_eq_false] at h
  have := h.2 c hc
  unfold cBad at this
  simpa using this
theorem climbsOk_len {xs : List Climb} (h : climbsOk xs = true) : xs.length ≤ 60 := by
  unfold climbsOk at h; simp only [Bool.and_eq_true, decide_eq_true_eq] at h; exact h.1
theorem cOk_sec {c : Climb} (h : cOk c = true) : -100 ≤ c.sections ∧ c.sections ≤ 100 := by
  unfold cOk at h; simp only [Bool.and_eq_true] at h; exact inB_true.1 h.2.1
theorem climbsOk_noTo {xs : List Climb} (h : noTo cBad xs xs.length = true) : climbsOk xs = decide (xs.length ≤ 60) := by
  unfold climbsOk
  have : xs.any cBad = false := by
    rw [List.any_eq_false]; intro y hy
    obtain ⟨j, hj, rfl⟩ := List.getElem_of_mem hy
    rw [noTo_iff.1 h j hj _ (List.getElem?_eq_getElem hj)]; simp
  rw [this]; simp
theorem climbsOk_bad {xs : List Climb} {k : Nat} {c : Climb} (h : xs[k]? = some c) (hc : cOk c = false) : climbsOk xs = false := by
  unfold climbsOk
  have : xs.any cBad = true := List.any_eq_true.2 ⟨c, List.mem_of_getElem? h, by unfold cBad; rw [hc]; rfl⟩
  rw [this]; simp

def negC (c : Climb) : Climb := ⟨c.crane, -c.sections⟩
/-- the last k climbs, the last one first, turned -/
def backTo (xs : List Climb) : Nat → List Climb
  | 0 => []
  | k + 1 => match xs[xs.length - 1 - k]? with | some c => backTo xs k ++ [negC c] | none => backTo xs k
theorem backTo_len (xs : List Climb) (k : Nat) : (backTo xs k).length ≤ k := by
  induction k with
  | zero => exact Nat.le_refl _
  | succ k ih =>
    unfold backTo; split
    · simp; exact ih
    · omega
theorem backTo_step {xs : List Climb} {k n : Nat} {c : Climb} (hn : xs.length = n) (h : xs[n - 1 - k]? = some c) : backTo xs (k + 1) = backTo xs k ++ [negC c] := by
  subst hn; simp only [backTo, h]
def backXs (xs : List Climb) : List Climb := if climbsOk xs then backTo xs xs.length else []
def backCode (xs : List Climb) : Int := if climbsOk xs then 0 else 1
theorem backXs_len (xs : List Climb) : (backXs xs).length ≤ xs.length := by
  unfold backXs; split
  · exact backTo_len _ _
  · exact Nat.zero_le _

/-- one more climb is joined to others -/
def joinOne (out : List Climb) (c : Climb) : List Climb :=
  match out[out.length - 1]? with
  | some l => if l.crane = c.crane then (if l.sections + c.sections = 0 then out.take (out.length - 1) else out.take (out.length - 1) ++ [⟨l.crane, l.sections + c.sections⟩]) else out ++ [c]
  | none => out ++ [c]
def joinTo (xs : List Climb) : Nat → List Climb
  | 0 => []
  | k + 1 => match xs[k]? with | some c => joinOne (joinTo xs k) c | none => joinTo xs k
theorem joinTo_step {xs : List Climb} {k : Nat} {c : Climb} (h : xs[k]? = some c) : joinTo xs (k + 1) = joinOne (joinTo xs k) c := by simp only [joinTo, h]
theorem joinOne_nil {out : List Climb} {c : Climb} (h : out.length = 0) : joinOne out c = out ++ [c] := by
  have : out = [] := List.length_eq_zero_iff.1 h
  subst this; rfl
theorem joinOne_other {out : List Climb} {c l : Climb} (h : out[out.length - 1]? = some l) (h2 : l.crane ≠ c.crane) : joinOne out c = out ++ [c] := by simp [joinOne, h, h2]
theorem joinOne_gone {out : List Climb} {c l : Climb} (h : out[out.length - 1]? = some l) (h2 : l.crane = c.crane) (h3 : l.sections + c.sections = 0) : joinOne out c = out.take (out.length - 1) := by simp [joinOne, h, h2, h3]
theorem joinOne_sum {out : List Climb} {c l : Climb} (h : out[out.length - 1]? = some l) (h2 : l.crane = c.crane) (h3 : l.sections + c.sections ≠ 0) : joinOne out c = out.take (out.length - 1) ++ [⟨l.crane, l.sections + c.sections⟩] := by simp [joinOne, h, h2, h3]
theorem joinOne_len (out : List Climb) (c : Climb) : (joinOne out c).length ≤ out.length + 1 := by
  unfold joinOne
  split
  · split
    · split
      · rw [List.length_take]; omega
      · rw [List.length_append, List.length_take]; simp
    · simp
  · simp
theorem joinTo_len (xs : List Climb) (k : Nat) : (joinTo xs k).length ≤ k := by
  induction k with
  | zero => exact Nat.le_refl _
  | succ k ih =>
    unfold joinTo; split
    · exact Nat.le_trans (joinOne_len _ _) (by omega)
    · omega
/-- all sums are small -/
def Small (out : List Climb) (k : Nat) : Prop := ∀ c ∈ out, -(100 * (k : Int)) ≤ c.sections ∧ c.sections ≤ 100 * (k : Int)
theorem joinOne_small {out : List Climb} {k : Nat} {c : Climb} (h : Small out k) (hc : -100 ≤ c.sections ∧ c.sections ≤ 100) : Small (joinOne out c) (k + 1) := by
  have hold : ∀ d ∈ out, -(100 * ((k + 1 : Nat) : Int)) ≤ d.sections ∧ d.sections ≤ 100 * ((k + 1 : Nat) : Int) := fun d hd => by have := h d hd; omega
  have hnew : Small (out ++ [c]) (k + 1) := by
    intro d hd
    rcases List.mem_append.1 hd with hd | hd
    · exact hold d hd
    · simp at hd; subst hd; omega
  unfold joinOne
  split
  · next l hl =>
    have hll := h l (List.mem_of_getElem? hl)
    split
    · split
      · exact fun d hd => hold d (List.mem_of_mem_take hd)
      · intro d hd
        rcases List.mem_append.1 hd with hd | hd
        · exact hold d (List.mem_of_mem_take hd)
        · simp at hd; subst hd; simp; omega
    · exact hnew
  · exact hnew
theorem joinTo_small {xs : List Climb} (h : climbsOk xs = true) (k : Nat) : Small (joinTo xs k) k := by
  induction k with
  | zero => intro c hc; simp [joinTo] at hc
  | succ k ih =>
    unfold joinTo
    split
    · next c hc => exact joinOne_small ih (cOk_sec (climbsOk_mem h (List.mem_of_getElem? hc)))
    · intro c hc; have := ih c hc; omega
def joinXs (xs : List Climb) : List Climb := if climbsOk xs then (if climbsOk (joinTo xs xs.length) then joinTo xs xs.length else []) else []
def joinCode (xs : List Climb) : Int := if climbsOk xs then (if climbsOk (joinTo xs xs.length) then 0 else 5) else 1
theorem joinXs_len (xs : List Climb) : (joinXs xs).length ≤ xs.length := by
  unfold joinXs; split
  · split
    · exact joinTo_len _ _
    · exact Nat.zero_le _
  · exact Nat.zero_le _
end Go.Proofs.YtkegncanmfmmmaaDoor
