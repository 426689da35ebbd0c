/- HasPermit and what it calls: isRole, permit, l24Role, l24Hour, l24Has. -/
import Derived.Test.YtdhobglhjdgboaaRPerson
import Derived.Test.YtdhobglhjdgboaaValidPersons
namespace Go.Proofs.Ytdhobglhjdgboaa
open Go.RowKit
set_option linter.unusedVariables false

def roleB (r : Int) : Bool := decide (r = 1) || (decide (r = 2) || decide (r = 4))
theorem roleB_cases (r : Int) : (r = 1 ∧ roleB r = true) ∨ (r = 2 ∧ roleB r = true) ∨ (r = 4 ∧ roleB r = true) ∨ (r ≠ 1 ∧ r ≠ 2 ∧ r ≠ 4 ∧ roleB r = false) := by
  unfold roleB
  by_cases h1 : r = 1
  · exact .inl ⟨h1, by simp [h1]⟩
  · by_cases h2 : r = 2
    · exact .inr (.inl ⟨h2, by simp [h2]⟩)
    · by_cases h4 : r = 4
      · exact .inr (.inr (.inl ⟨h4, by simp [h4]⟩))
      · exact .inr (.inr (.inr ⟨h1, h2, h4, by simp [h1, h2, h4]⟩))
theorem roleB_iff {r : Int} : roleB r = true ↔ r = 1 ∨ r = 2 ∨ r = 4 := by simp [roleB]

theorem isRole_any (r : Int) (w : World) : Calls Try.prog 101 #[.int .i64 r] w fun e w' => e = .returned (.bool (roleB r)) ∧ w = w' := by
  rcases roleB_cases r with ⟨rfl, h⟩ | ⟨rfl, h⟩ | ⟨rfl, h⟩ | ⟨h1, h2, h4, h⟩
  · go_enter Try.func101, Try.ntmps101
    go_wp2
    go_ret
    exact ⟨rfl, rfl⟩
  · go_enter Try.func101, Try.ntmps101
    go_wp2
    go_ret
    exact ⟨rfl, rfl⟩
  · go_enter Try.func101, Try.ntmps101
    go_wp2
    go_ret
    exact ⟨rfl, rfl⟩
  · have e1 : (r == 1) = false := beq_eq_false_iff_ne.2 h1
    have e2 : (r == 2) = false := beq_eq_false_iff_ne.2 h2
    have e4 : (r == 4) = false := beq_eq_false_iff_ne.2 h4
    have H := Lib.hid h
    clear h h1 h2 h4
    go_enter Try.func101, Try.ntmps101
    go_wp2
    go_ret
    exact ⟨by rw [H.out]; rfl, rfl⟩
theorem specRole_any (r : Int) (w : World) : Calls Try.prog 98 #[.int .i64 r] w fun e w' => e = .returned (.bool (roleB r)) ∧ w = w' := by
  rcases roleB_cases r with ⟨rfl, h⟩ | ⟨rfl, h⟩ | ⟨rfl, h⟩ | ⟨h1, h2, h4, h⟩
  · go_enter Try.func98, Try.ntmps98
    go_wp2
    go_ret
    exact ⟨rfl, rfl⟩
  · go_enter Try.func98, Try.ntmps98
    go_wp2
    go_ret
    exact ⟨rfl, rfl⟩
  · go_enter Try.func98, Try.ntmps98
    go_wp2
    go_ret
    exact ⟨rfl, rfl⟩
  · have e1 : (r == 1) = false := beq_eq_false_iff_ne.2 h1
    have e2 : (r == 2) = false := beq_eq_false_iff_ne.2 h2
    have e4 : (r == 4) = false := beq_eq_false_iff_ne.2 h4
    have H := Lib.hid h
    clear h h1 h2 h4
    go_enter Try.func98, Try.ntmps98
    go_wp2
    go_ret
    exact ⟨by rw [H.out]; rfl, rfl⟩
theorem specHour_any (r : Int) (w : World) : Calls Try.prog 99 #[.int .i64 r] w fun e w' => e = .returned (.bool (inB r 0 240000)) ∧ w = w' := by
  go_enter Try.func99, Try.ntmps99
  go_wp2_with (go_at_call 34; refine (l00In_any _ _ _ _).mono ?_; rintro e w1 ⟨rfl, rfl⟩)
  go_ret
  exact ⟨rfl, rfl⟩

/-- has a person of valid roles that role, at that hour -/
def bitB (roles role : Int) : Bool := bits .and .i64 roles role != 0
def hasB (p : Person) (role hour : Int) : Bool := bitB p.roles role && decide (hour / 24 ≤ p.till)
theorem bit_all (roles role : Int) (h : 0 ≤ roles ∧ roles ≤ 7) (hr : role = 1 ∨ role = 2 ∨ role = 4) : (bits .and .i64 roles role == role) = bitB roles role := by
  obtain ⟨h1, h2⟩ := h
  have : roles = 0 ∨ roles = 1 ∨ roles = 2 ∨ roles = 3 ∨ roles = 4 ∨ roles = 5 ∨ roles = 6 ∨ roles = 7 := by omega
  rcases this with rfl | rfl | rfl | rfl | rfl | rfl | rfl | rfl <;> rcases hr with rfl | rfl | rfl <;> decide +kernel

def permitB (p : Person) (role hour : Int) : Bool := personsOk [p] && (roleB role && (inB hour 0 240000 && hasB p role hour))
theorem personsOk_mem {ps : List Person} (h : personsOk ps = true) {i : Nat} {p : Person} (hi : ps[i]? = some p) : pOk p = true := by
  unfold personsOk at h
  rw [Bool.and_eq_true] at h
  have := allTo_iff.1 h.1 i (List.getElem?_eq_some_iff.1 hi).1
  rw [okAt_of hi, Bool.and_eq_true] at this
  exact this.1
theorem pOk_roles {p : Person} (h : pOk p = true) : 0 ≤ p.roles ∧ p.roles ≤ 7 := by
  unfold pOk at h
  simp only [Bool.and_eq_true] at h
  exact inB_true.1 h.2.1
end Go.Proofs.Ytdhobglhjdgboaa
