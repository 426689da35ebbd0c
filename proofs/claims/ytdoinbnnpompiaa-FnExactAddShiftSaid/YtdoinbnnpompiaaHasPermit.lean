/- HasPermit and what it calls: isRole, permit, l24Role, l24Hour, l24Has. -/
import Derived.Test.YtdoinbnnpompiaaRPerson
import Derived.Test.YtdoinbnnpompiaaValidPersons
namespace Go.Proofs.Ytdoinbnnpompiaa
open Go.RowKit
set_option linter.unusedVariables false

def roleB (r : Int) : Bool := decide (r = 1) || (decide (r = 2) || decide (r = 4))
theorem roleB_cases (r : Int) : (r = 1 ∧ roleB r = true) ∨ (r = 2 ∧ roleB r = true) ∨ (r = 4 ∧ roleB r = true) ∨ (r ≠ 1 ∧ r ≠ 2 ∧ r ≠ 4 ∧ roleB r = false) := by
  unfold roleB
  by_cases h1 : r = 1
  · exact .inl ⟨h1, by simp [h1]⟩
  · by_cases h2 : r = 2
    · exact .inr (.inl ⟨h2, by simp [h2]⟩)
    · by_cases h4 : r = 4
      · exact .inr (.inr (.inl ⟨h4, by simp [h4]⟩))
      · exact .inr (.inr (.inr ⟨h1, h2, h4, by simp [h1, h2, h4]⟩))
theorem roleB_iff {r : Int} : roleB r = true ↔ r = 1 ∨ r = 2 ∨ r = 4 := by simp [roleB]

theorem isRole_any (r : Int) (w : World) : Calls Try.prog 240 #[.int .i64 r] w fun e w' => e = .returned (.bool (roleB r)) ∧ w = w' := by
  rcases roleB_cases r with ⟨rfl, h⟩ | ⟨rfl, h⟩ | ⟨rfl, h⟩ | ⟨h1, h2, h4, h⟩
  · go_enter Try.func240, Try.ntmps240
    go_wp2
    go_ret
    exact ⟨rfl, rfl⟩
  · go_enter Try.func240, Try.ntmps240
    go_wp2
    go_ret
    exact ⟨rfl, rfl⟩
  · go_enter Try.func240, Try.ntmps240
    go_wp2
    go_ret
    exact ⟨rfl, rfl⟩
  · have e1 : (r == 1) = false := beq_eq_false_iff_ne.2 h1
    have e2 : (r == 2) = false := beq_eq_false_iff_ne.2 h2
    have e4 : (r == 4) = false := beq_eq_false_iff_ne.2 h4
    have H := Lib.hid h
    clear h h1 h2 h4
    go_enter Try.func240, Try.ntmps240
    go_wp2
    go_ret
    exact ⟨by rw [H.out]; rfl, rfl⟩
theorem specRole_any (r : Int) (w : World) : Calls Try.prog 238 #[.int .i64 r] w fun e w' => e = .returned (.bool (roleB r)) ∧ w = w' := by
  rcases roleB_cases r with ⟨rfl, h⟩ | ⟨rfl, h⟩ | ⟨rfl, h⟩ | ⟨h1, h2, h4, h⟩
  · go_enter Try.func238, Try.ntmps238
    go_wp2
    go_ret
    exact ⟨rfl, rfl⟩
  · go_enter Try.func238, Try.ntmps238
    go_wp2
    go_ret
    exact ⟨rfl, rfl⟩
  · go_enter Try.func238, Try.ntmps238
    go_wp2
    go_ret
    exact ⟨rfl, rfl⟩
  · have e1 : (r == 1) = false := beq_eq_false_iff_ne.2 h1
    have e2 : (r == 2) = false := beq_eq_false_iff_ne.2 h2
    have e4 : (r == 4) = false := beq_eq_false_iff_ne.2 h4
    have H := Lib.hid h
    clear h h1 h2 h4
    go_enter Try.func238, Try.ntmps238
    go_wp2
    go_ret
    exact ⟨by rw [H.out]; rfl, rfl⟩
theorem specHour_any (r : Int) (w : World) : Calls Try.prog 239 #[.int .i64 r] w fun e w' => e = .returned (.bool (inB r 0 240000)) ∧ w = w' := by
  go_enter Try.func239, Try.ntmps239
  go_wp2_with (go_at_call 158; refine (l00In_any _ _ _ _).mono ?_; rintro e w1 ⟨rfl, rfl⟩)
  go_ret
  exact ⟨rfl, rfl⟩

/-- has a person of valid roles that role, at that hour -/
def bitB (roles role : Int) : Bool := bits .and .i64 roles role != 0
def hasB (p : Person) (role hour : Int) : Bool := bitB p.roles role && decide (hour / 24 ≤ p.till)
theorem bit_all (roles role : Int) (h : 0 ≤ roles ∧ roles ≤ 7) (hr : role = 1 ∨ role = 2 ∨ role = 4) : (bits .and .i64 roles role == role) = bitB roles role := by
  obtain ⟨h1, h2⟩ := h
  have : roles = 0 ∨ roles = 1 ∨ roles = 2 ∨ roles = 3 ∨ roles = 4 ∨ roles = 5 ∨ roles = 6 ∨ roles = 7 := by omega
  rcases this with rfl | rfl | rfl | rfl | rfl | rfl | rfl | rfl <;> rcases hr with rfl | rfl | rfl <;> decide +kernel

theorem permit_any (p : Person) (role hour : Int) (w : World) (h0 : 0 ≤ hour) (h1 : hour ≤ 9223372036854775807) :
    Calls Try.prog 193 #[.agg #[.string p.name, .int .i64 p.roles, .int .i64 p.till], .int .i64 role, .int .i64 hour] w fun e w' => e = .returned (.bool (hasB p role hour)) ∧ Below w.heap.size w w' := by
  cases hq : bitB p.roles role
  · have e1 : (bits .and .i64 p.roles role != 0) = false := hq
    have H : Hid (hasB p role hour = false) := by show _ = _; unfold hasB; rw [hq]; rfl
    clear hq
    go_enter Try.func193, Try.ntmps193
    go_wp2
    go_ret
    exact ⟨by rw [H.out]; rfl, (Below.refl _ _).alloc (Nat.le_refl _) _⟩
  · have e1 : (bits .and .i64 p.roles role != 0) = true := hq
    have H : Hid (hasB p role hour = decide (hour / 24 ≤ p.till)) := by show _ = _; unfold hasB; rw [hq]; rfl
    clear hq
    go_enter Try.func193, Try.ntmps193
    go_wp2
    go_ret
    exact ⟨by rw [H.out]; rfl, (Below.refl _ _).alloc (Nat.le_refl _) _⟩

theorem specHas_any (b off : Nat) (p : Person) (role hour : Int) (w : World) (hc1 : w.cell? ⟨b, off + 1, none⟩ = some (.int .i64 p.roles)) (hc2 : w.cell? ⟨b, off + 2, none⟩ = some (.int .i64 p.till)) (hp : 0 ≤ p.roles ∧ p.roles ≤ 7) (hr : roleB role = true) (h0 : 0 ≤ hour) (h1 : hour ≤ 9223372036854775807) :
    Calls Try.prog 191 #[.pointer (some ⟨b, off, none⟩), .int .i64 role, .int .i64 hour] w fun e w' => e = .returned (.bool (hasB p role hour)) ∧ w = w' := by
  have hb := bit_all p.roles role hp (roleB_iff.1 hr)
  clear hr hp
  cases hq : bitB p.roles role
  · have e1 : (bits .and .i64 p.roles role == role) = false := hb.trans hq
    have H : Hid (hasB p role hour = false) := by show _ = _; unfold hasB; rw [hq]; rfl
    clear hq hb
    go_enter Try.func191, Try.ntmps191
    go_wp2
    go_ret
    exact ⟨by rw [H.out]; rfl, rfl⟩
  · have e1 : (bits .and .i64 p.roles role == role) = true := hb.trans hq
    have H : Hid (hasB p role hour = decide (hour / 24 ≤ p.till)) := by show _ = _; unfold hasB; rw [hq]; rfl
    clear hq hb
    go_enter Try.func191, Try.ntmps191
    go_wp2
    go_ret
    exact ⟨by rw [H.out]; rfl, rfl⟩

def permitB (p : Person) (role hour : Int) : Bool := personsOk [p] && (roleB role && (inB hour 0 240000 && hasB p role hour))
theorem personsOk_mem {ps : List Person} (h : personsOk ps = true) {i : Nat} {p : Person} (hi : ps[i]? = some p) : pOk p = true := by
  unfold personsOk at h
  rw [Bool.and_eq_true] at h
  have := allTo_iff.1 h.1 i (List.getElem?_eq_some_iff.1 hi).1
  rw [okAt_of hi, Bool.and_eq_true] at this
  exact this.1
theorem pOk_roles {p : Person} (h : pOk p = true) : 0 ≤ p.roles ∧ p.roles ≤ 7 := by
  unfold pOk at h
  simp only [Bool.and_eq_true] at h
  exact inB_true.1 h.2.1
theorem arr_one (p : Person) (W : World) (g : Nat) (hg : W.heap.size = g) : Arr Person.cs 3 (W.alloc (.cells #[.string p.name, .int .i64 p.roles, .int .i64 p.till] 172)) 0 (W.heap.size + 1) (some ⟨g, 0, none⟩) 1 [p] := by
  subst hg
  refine ⟨rfl, fun _ => ⟨_, 0, rfl, Nat.zero_le _, by omega, fun i x hx j u hu => ?_⟩⟩
  have hi : i = 0 := by
    have := (List.getElem?_eq_some_iff.1 hx).1; simp at this; exact this
  subst hi
  simp at hx; subst hx
  simp only [Nat.zero_mul, Nat.zero_add, World.cell?_alloc_new]
  simpa [Person.cs] using hu

end Go.Proofs.Ytdoinbnnpompiaa
