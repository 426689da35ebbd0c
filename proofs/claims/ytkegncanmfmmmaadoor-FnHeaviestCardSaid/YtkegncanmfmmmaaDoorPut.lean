/- A record of four to nine cells laid into a row. No program in sight. -/
import Derived.Test.YtkegncanmfmmmaaDoorWords2
namespace Go.Proofs.YtkegncanmfmmmaaDoor
set_option linter.unusedVariables false

theorem Filled.put4 {α : Type} {c : α → List Value} {cs : Array Value} {xs : List α} {m : Nat} {x : α} {v0 v1 v2 v3 : Value} (h : Filled c 4 cs xs m) (hx : xs[m]? = some x) (hs : m * 4 + 3 < cs.size) (hc : c x = [v0, v1, v2, v3] := by rfl) :
    Filled c 4 ((((cs.setIfInBounds (m * 4) v0).setIfInBounds (m * 4 + 1) v1).setIfInBounds (m * 4 + 2) v2).setIfInBounds (m * 4 + 3) v3) xs (m + 1) :=
  h.step hx (fun i hi => by rw [Array.getElem?_setIfInBounds_ne (by omega), Array.getElem?_setIfInBounds_ne (by omega), Array.getElem?_setIfInBounds_ne (by omega), Array.getElem?_setIfInBounds_ne (by omega)]) fun j hj => by
    rw [hc]
    have : j = 0 ∨ j = 1 ∨ j = 2 ∨ j = 3 := by omega
    rcases this with rfl | rfl | rfl | rfl
    · rw [Array.getElem?_setIfInBounds_ne (by omega), Array.getElem?_setIfInBounds_ne (by omega), Array.getElem?_setIfInBounds_ne (by omega)]; exact Array.getElem?_setIfInBounds_self_of_lt (by first | omega | (simp; omega))
    · rw [Array.getElem?_setIfInBounds_ne (by omega), Array.getElem?_setIfInBounds_ne (by omega)]; exact Array.getElem?_setIfInBounds_self_of_lt (by first | omega | (simp; omega))
    · rw [Array.getElem?_setIfInBounds_ne (by omega)]; exact Array.getElem?_setIfInBounds_self_of_lt (by first | omega | (simp; omega))
    · exact Array.getElem?_setIfInBounds_self_of_lt (by first | omega | (simp; omega))

theorem Filled.put5 {α : Type} {c : α → List Value} {cs : Array Value} {xs : List α} {m : Nat} {x : α} {v0 v1 v2 v3 v4 : Value} (h : Filled c 5 cs xs m) (hx : xs[m]? = some x) (hs : m * 5 + 4 < cs.size) (hc : c x = [v0, v1, v2, v3, v4] := by rfl) :
    Filled c 5 (((((cs.setIfInBounds (m * 5) v0).setIfInBounds (m * 5 + 1) v1).setIfInBounds (m * 5 + 2) v2).setIfInBounds (m * 5 + 3) v3).setIfInBounds (m * 5 + 4) v4) xs (m + 1) :=
  h.step hx (fun i hi => by rw [Array.getElem?_setIfInBounds_ne (by omega), Array.getElem?_setIfInBounds_ne (by omega), Array.getElem?_setIfInBounds_ne (by omega), Array.getElem?_setIfInBounds_ne (by omega), Array.getElem?_setIfInBounds_ne (by omega)]) fun j hj => by
    rw [hc]
    have : j = 0 ∨ j = 1 ∨ j = 2 ∨ j = 3 ∨ j = 4 := by omega
    rcases this with rfl | rfl | rfl | rfl | rfl
    · rw [Array.getElem?_setIfInBounds_ne (by omega), Array.getElem?_setIfInBounds_ne (by omega), Array.getElem?_setIfInBounds_ne (by omega), Array.getElem?_setIfInBounds_ne (by omega)]; exact Array.getElem?_setIfInBounds_self_of_lt (by first | omega | (simp; omega))
    · rw [Array.getElem?_setIfInBounds_ne (by omega), Array.getElem?_setIfInBounds_ne (by omega), Array.getElem?_setIfInBounds_ne (by omega)]; exact Array.getElem?_setIfInBounds_self_of_lt (by first | omega | (simp; omega))
    · rw [Array.getElem?_setIfInBounds_ne (by omega), Array.getElem?_setIfInBounds_ne (by omega)]; exact Array.getElem?_setIfInBounds_self_of_lt (by first | omega | (simp; omega))
    · rw [Array.getElem?_setIfInBounds_ne (by omega)]; exact Array.getElem?_setIfInBounds_self_of_lt (by first | omega | (simp; omega))
    · exact Array.getElem?_setIfInBounds_self_of_lt (by first | omega | (simp; omega))

theorem Filled.put6 {α : Type} {c : α → List Value} {cs : Array Value} {xs : List α} {m : Nat} {x : α} {v0 v1 v2 v3 v4 v5 : Value} (h : Filled c 6 cs xs m) (hx : xs[m]? = some x) (hs : m * 6 + 5 < cs.size) (hc : c x = [v0, v1, v2, v3, v4, v5] := by rfl) :
    Filled c 6 ((((((cs.setIfInBounds (m * 6) v0).setIfInBounds (m * 6 + 1) v1).setIfInBounds (m * 6 + 2) v2).setIfInBounds (m * 6 + 3) v3).setIfInBounds (m * 6 + 4) v4).setIfInBounds (m * 6 + 5) v5) xs (m + 1) :=
  h.step hx (fun i hi => by rw [Array.getElem?_setIfInBounds_ne (by omega), Array.getElem?_setIfInBounds_ne (by omega), Array.getElem?_setIfInBounds_ne (by omega), Array.getElem?_setIfInBounds_ne (by omega), Array.getElem?_setIfInBounds_ne (by omega), Array.getElem?_setIfInBounds_ne (by omega)]) fun j hj => by
    rw [hc]
    have : j = 0 ∨ j = 1 ∨ j = 2 ∨ j = 3 ∨ j = 4 ∨ j = 5 := by omega
    rcases this with rfl | rfl | rfl | rfl | rfl | rfl
    · rw [Array.getElem?_setIfInBounds_ne (by omega), Array.getElem?_setIfInBounds_ne (by omega), Array.getElem?_setIfInBounds_ne (by omega), Array.getElem?_setIfInBounds_ne (by omega), Array.getElem?_setIfInBounds_ne (by omega)]; exact Array.getElem?_setIfInBounds_self_of_lt (by first | omega | (simp; omega))
    · rw [Array.getElem?_setIfInBounds_ne (by omega), Array.getElem?_setIfInBounds_ne (by omega), Array.getElem?_setIfInBounds_ne (by omega), Array.getElem?_setIfInBounds_ne (by omega)]; exact Array.getElem?_setIfInBounds_self_of_lt (by first | omega | (simp; omega))
    · rw [Array.getElem?_setIfInBounds_ne (by omega), Array.getElem?_setIfInBounds_ne (by omega), Array.getElem?_setIfInBounds_ne (by omega)]; exact Array.getElem?_setIfInBounds_self_of_lt (by first | omega | (simp; omega))
    · rw [Array.getElem?_setIfInBounds_ne (by omega), Array.getElem?_setIfInBounds_ne (by omega)]; exact Array.getElem?_setIfInBounds_self_of_lt (by first | omega | (simp; omega))
    · rw [Array.getElem?_setIfInBounds_ne (by omega)]; exact Array.getElem?_setIfInBounds_self_of_lt (by first | omega | (simp; omega))
    · exact Array.getElem?_setIfInBounds_self_of_lt (by first | omega | (simp; omega))

theorem Filled.put7 {α : Type} {c : α → List Value} {cs : Array Value} {xs : List α} {m : Nat} {x : α} {v0 v1 v2 v3 v4 v5 v6 : Value} (h : Filled c 7 cs xs m) (hx : xs[m]? = some x) (hs : m * 7 + 6 < cs.size) (hc : c x = [v0, v1, v2, v3, v4, v5, v6] := by rfl) :
    Filled c 7 (((((((cs.setIfInBounds (m * 7) v0).setIfInBounds (m * 7 + 1) v1).setIfInBounds (m * 7 + 2) v2).setIfInBounds (m * 7 + 3) v3).setIfInBounds (m * 7 + 4) v4).setIfInBounds (m * 7 + 5) v5).setIfInBounds (m * 7 + 6) v6) xs (m + 1) :=
  h.step hx (fun i hi => by rw [Array.getElem?_setIfInBounds_ne (by omega), Array.getElem?_setIfInBounds_ne (by omega), Array.getElem?_setIfInBounds_ne (by omega), Array.getElem?_setIfInBounds_ne (by omega), Array.getElem?_setIfInBounds_ne (by omega), Array.getElem?_setIfInBounds_ne (by omega), Array.getElem?_setIfInBounds_ne (by omega)]) fun j hj => by
    rw [hc]
    have : j = 0 ∨ j = 1 ∨ j = 2 ∨ j = 3 ∨ j = 4 ∨ j = 5 ∨ j = 6 := by omega
    rcases this with rfl | rfl | rfl | rfl | rfl | rfl | rfl
    · rw [Array.getElem?_setIfInBounds_ne (by omega), Array.getElem?_setIfInBounds_ne (by omega), Array.getElem?_setIfInBounds_ne (by omega), Array.getElem?_setIfInBounds_ne (by omega), Array.getElem?_setIfInBounds_ne (by omega), Array.getElem?_setIfInBounds_ne (by omega)]; exact Array.getElem?_setIfInBounds_self_of_lt (by first | omega | (simp; omega))
    · rw [Array.getElem?_setIfInBounds_ne (by omega), Array.getElem?_setIfInBounds_ne (by omega), Array.getElem?_setIfInBounds_ne (by omega), Array.getElem?_setIfInBounds_ne (by omega), Array.getElem?_setIfInBounds_ne (by omega)]; exact Array.getElem?_setIfInBounds_self_of_lt (by first | omega | (simp; omega))
    · rw [Array.getElem?_setIfInBounds_ne (by omega), Array.getElem?_setIfInBounds_ne (by omega), Array.getElem?_setIfInBounds_ne (by omega), Array.getElem?_setIfInBounds_ne (by omega)]; exact Array.getElem?_setIfInBounds_self_of_lt (by first | omega | (simp; omega))
    · rw [Array.getElem?_setIfInBounds_ne (by omega), Array.getElem?_setIfInBounds_ne (by omega), Array.getElem?_setIfInBounds_ne (by omega)]; exact Array.getElem?_setIfInBounds_self_of_lt (by first | omega | (simp; omega))
    · rw [Array.getElem?_setIfInBounds_ne (by omega), Array.getElem?_setIfInBounds_ne (by omega)]; exact Array.getElem?_setIfInBounds_self_of_lt (by first | omega | (simp; omega))
    · rw [Array.getElem?_setIfInBounds_ne (by omega)]; exact Array.getElem?_setIfInBounds_self_of_lt (by first | omega | (simp; omega))
    · exact Array.getElem?_setIfInBounds_self_of_lt (by first | omega | (simp; omega))

theorem Filled.put9 {α : Type} {c : α → List Value} {cs : Array Value} {xs : List α} {m : Nat} {x : α} {v0 v1 v2 v3 v4 v5 v6 v7 v8 : Value} (h : Filled c 9 cs xs m) (hx : xs[m]? = some x) (hs : m * 9 + 8 < cs.size) (hc : c x = [v0, v1, v2, v3, v4, v5, v6, v7, v8] := by rfl) :
    Filled c 9 (((((((((cs.setIfInBounds (m * 9) v0).setIfInBounds (m * 9 + 1) v1).setIfInBounds (m * 9 + 2) v2).setIfInBounds (m * 9 + 3) v3).setIfInBounds (m * 9 + 4) v4).setIfInBounds (m * 9 + 5) v5).setIfInBounds (m * 9 + 6) v6).setIfInBounds (m * 9 + 7) v7).setIfInBounds (m * 9 + 8) v8) xs (m + 1) :=
  h.step hx (fun i hi => by rw [Array.getElem?_setIfInBounds_ne (by omega), Array.getElem?_setIfInBounds_ne (by omega), Array.getElem?_setIfInBounds_ne (by omega), Array.getElem?_setIfInBounds_ne (by omega), Array.getElem?_setIfInBounds_ne (by omega), Array.getElem?_setIfInBounds_ne (by omega), Array.getElem?_setIfInBounds_ne (by omega), Array.getElem?_setIfInBounds_ne (by omega), Array.getElem?_setIfInBounds_ne (by omega)]) fun j hj => by
    rw [hc]
    have : j = 0 ∨ j = 1 ∨ j = 2 ∨ j = 3 ∨ j = 4 ∨ j = 5 ∨ j = 6 ∨ j = 7 ∨ j = 8 := by omega
    rcases this with rfl | rfl | rfl | rfl | rfl | rfl | rfl | rfl | rfl
    · rw [Array.getElem?_setIfInBounds_ne (by omega), Array.getElem?_setIfInBounds_ne (by omega), Array.getElem?_setIfInBounds_ne (by omega), Array.getElem?_setIfInBounds_ne (by omega), Array.getElem?_setIfInBounds_ne (by omega), Array.getElem?_setIfInBounds_ne (by omega), Array.getElem?_setIfInBounds_ne (by omega), Array.getElem?_setIfInBounds_ne (by omega)]; exact Array.getElem?_setIfInBounds_self_of_lt (by first | omega | (simp; omega))
    · rw [Array.getElem?_setIfInBounds_ne (by omega), Array.getElem?_setIfInBounds_ne (by omega), Array.getElem?_setIfInBounds_ne (by omega), Array.getElem?_setIfInBounds_ne (by omega), Array.getElem?_setIfInBounds_ne (by omega), Array.getElem?_setIfInBounds_ne (by omega), Array.getElem?_setIfInBounds_ne (by omega)]; exact Array.getElem?_setIfInBounds_self_of_lt (by first | omega | (simp; omega))
    · rw [Array.getElem?_setIfInBounds_ne (by omega), Array.getElem?_setIfInBounds_ne (by omega), Array.getElem?_setIfInBounds_ne (by omega), Array.getElem?_setIfInBounds_ne (by omega), Array.getElem?_setIfInBounds_ne (by omega), Array.getElem?_setIfInBounds_ne (by omega)]; exact Array.getElem?_setIfInBounds_self_of_lt (by first | omega | (simp; omega))
    · rw [Array.getElem?_setIfInBounds_ne (by omega), Array.getElem?_setIfInBounds_ne (by omega), Array.getElem?_setIfInBounds_ne (by omega), Array.getElem?_setIfInBounds_ne (by omega), Array.getElem?_setIfInBounds_ne (by omega)]; exact Array.getElem?_setIfInBounds_self_of_lt (by first | omega | (simp; omega))
    · rw [Array.getElem?_setIfInBounds_ne (by omega), Array.getElem?_setIfInBounds_ne (by omega), Array.getElem?_setIfInBounds_ne (by omega), Array.getElem?_setIfInBounds_ne (by omega)]; exact Array.getElem?_setIfInBounds_self_of_lt (by first | omega | (simp; omega))
    · rw [Array.getElem?_setIfInBounds_ne (by omega), Array.getElem?_setIfInBounds_ne (by omega), Array.getElem?_setIfInBounds_ne (by omega)]; exact Array.getElem?_setIfInBounds_self_of_lt (by first | omega | (simp; omega))
    · rw [Array.getElem?_setIfInBounds_ne (by omega), Array.getElem?_setIfInBounds_ne (by omega)]; exact Array.getElem?_setIfInBounds_self_of_lt (by first | omega | (simp; omega))
    · rw [Array.getElem?_setIfInBounds_ne (by omega)]; exact Array.getElem?_setIfInBounds_self_of_lt (by first | omega | (simp; omega))
    · exact Array.getElem?_setIfInBounds_self_of_lt (by first | omega | (simp; omega))

end Go.Proofs.YtkegncanmfmmmaaDoor
