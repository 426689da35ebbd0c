/- What a controller allows, as a plain law. No program in sight. -/
import Derived.Test.YtomifedaiabapaaRBool
import Derived.Test.YtomifedaiabapaaLow
import Derived.Test.YtomifedaiabapaaFind
namespace Go.Proofs.Ytomifedaiabapaa
set_option linter.unusedVariables false

def rowBad (r : Row Bool) : Bool := !(r.n == 24)
def tabOk (rs : List (Row Bool)) : Bool := decide (rs.length = 24) && !(rs.any rowBad)
def tb (rs : List (Row Bool)) (i j : Nat) : Bool := match rs[i]? with | some r => (match r.xs[j]? with | some b => b | none => false) | none => false
theorem tb_of {rs : List (Row Bool)} {i j : Nat} {r : Row Bool} {b : Bool} (h : rs[i]? = some r) (h2 : r.xs[j]? = some b) : tb rs i j = b := by simp only [tb, h, h2]
def hit (rs : List (Row Bool)) (first : Bool) (d o : Nat) : Bool := if first then tb rs d o else tb rs o d
def absT (s o : Nat) : Nat := if 12 < (o + 24 - s) % 24 then 24 - (o + 24 - s) % 24 else (o + 24 - s) % 24
def mdT (s i m : Nat) : Nat := (s + i + 24 - m) % 24
theorem absT_iff_fin : ∀ s o : Fin 24, ∀ m : Fin 4, decide (absT s.val o.val ≤ m.val) = (List.range (2 * m.val + 1)).any (fun i => decide (mdT s.val i m.val = o.val)) := by decide +kernel
theorem absT_iff {s o m : Nat} (hs : s < 24) (ho : o < 24) (hm : m < 4) : absT s o ≤ m ↔ ∃ i, i < 2 * m + 1 ∧ mdT s i m = o := by
  have := absT_iff_fin ⟨s, hs⟩ ⟨o, ho⟩ ⟨m, hm⟩
  rw [Bool.eq_iff_iff] at this
  simpa only [decide_eq_true_eq, List.any_eq_true, List.mem_range] using this
def clearAt (h : Nat → Bool) (s m o : Nat) : Bool := !(decide (absT s o ≤ m) && h o)
def guardAt (h : Nat → Bool) (s m i : Nat) : Bool := !(h (mdT s i m))
theorem clear_guard {h : Nat → Bool} {s m : Nat} (hs : s < 24) (hm : m < 4) : allTo (clearAt h s m) 24 = allTo (guardAt h s m) (2 * m + 1) := by
  rw [Bool.eq_iff_iff, allTo_iff, allTo_iff]
  constructor
  · intro hc i hi
    have ho : mdT s i m < 24 := Nat.mod_lt _ (by omega)
    have := hc (mdT s i m) ho
    unfold clearAt at this
    rw [decide_eq_true ((absT_iff hs ho hm).2 ⟨i, hi, rfl⟩)] at this
    unfold guardAt; simpa using this
  · intro hg o ho
    unfold clearAt
    by_cases h1 : absT s o ≤ m
    · obtain ⟨i, hi, rfl⟩ := (absT_iff hs ho hm).1 h1
      have := hg i hi
      unfold guardAt at this
      simp only [Bool.not_eq_true'] at this
      rw [this]; simp
    · rw [decide_eq_false h1]; rfl
end Go.Proofs.Ytomifedaiabapaa
