/- A record of a fresh slice turned whole; a row of a fresh slice of records turned. No program in sight. -/
import Derived.Test.YtkegncanmfmmmaaDoorNest2
namespace Go.Proofs.YtkegncanmfmmmaaDoor
open Go.RowKit
set_option linter.unusedVariables false

theorem NArr.within {α β : Type} {c : α → List Value} {k : Nat} {d : β → List Value} {j : Nat} {row : α → Row β} {w w' : World} {lo hi lo2 hi2 : Nat} {A : Option Addr} {n : Nat} {ps : List α} (h : NArr c k d j row w lo hi A n ps) (hw : Within lo2 hi2 w w') (hB : hi ≤ w.heap.size) (ho : hi ≤ lo2 ∨ hi2 ≤ lo) : NArr c k d j row w' lo hi A n ps :=
  ⟨h.1.within hw hB ho, fun p hp => (h.2 p hp).within hw hB ho⟩
theorem NOwn.len {α β : Type} {c : α → List Value} {k : Nat} {e : TypeId} {d : β → List Value} {j : Nat} {e2 : TypeId} {row : α → Row β} {w : World} {lo hi : Nat} {A : Option Addr} {n : Nat} {ps : List α} (h : NOwn c k e d j e2 row w lo hi A n ps) : ps.length = n := by
  obtain ⟨mid, f, _, _, ho, _⟩ := h; exact ho.1

theorem Own.turn {α : Type} {c : α → List Value} {k : Nat} {w w' : World} {lo hi : Nat} {e : TypeId} {g n : Nat} {xs : List α} {cs cs' : Array Value} (h : Own c k w lo hi e (some ⟨g, 0, none⟩) n xs) {i : Nat} {x y : α} (hx : xs[i]? = some x)
    (hb : Blk w g e cs) (hb' : Blk w' g e cs') (hs : cs'.size = cs.size) (hold : ∀ t, (t < i * k ∨ i * k + k ≤ t) → cs'[t]? = cs[t]?)
    (hnew : ∀ j, j < k → cs'[i * k + j]? = (c y)[j]? ∨ (cs'[i * k + j]? = cs[i * k + j]? ∧ (c y)[j]? = (c x)[j]?)) : Own c k w' lo hi e (some ⟨g, 0, none⟩) n (xs.set i y) := by
  have hi' : i < n := by rw [← h.1]; exact (List.getElem?_eq_some_iff.1 hx).1
  obtain ⟨g', cs0, e1, h1, h2, h3, h4, h5⟩ := h.2 (by omega)
  cases e1
  have hcs : cs0 = cs := by unfold Blk at hb; rw [h3] at hb; injection hb with hb; injection hb
  subst hcs
  refine ⟨by simp [h.1], fun _ => ⟨g, cs', rfl, h1, h2, hb', by rw [hs]; exact h4, fun m z hz j hjk => ?_⟩⟩
  by_cases hm : m = i
  · subst hm
    rw [List.getElem?_set_self (by rw [h.1]; exact hi')] at hz
    cases hz
    rcases hnew j hjk with h6 | ⟨h6, h7⟩
    · exact h6
    · rw [h6, h7, h5 m x hx j hjk]
  · rw [List.getElem?_set_ne (by omega)] at hz
    rw [hold, h5 m z hz j hjk]
    rcases Nat.lt_or_ge m i with h6 | h6
    · have : m * k + k ≤ i * k := by rw [← Nat.succ_mul]; exact Nat.mul_le_mul_right k h6
      omega
    · have : i * k + k ≤ m * k := by rw [← Nat.succ_mul]; exact Nat.mul_le_mul_right k (by omega)
      omega
theorem Tiles.turn {α β : Type} {d : β → List Value} {j : Nat} {e : TypeId} {row : α → Row β} {w w' : World} {lo hi : Nat} {ps : List α} {f : Nat → Nat} (h : Tiles d j e row w lo hi ps f) {k : Nat} {p p' : α} (hp : ps[k]? = some p)
    (hw : Within (f k) (f (k + 1)) w w') (ho : Own d j w' (f k) (f (k + 1)) e (row p').a (row p').n (row p').xs) : Tiles d j e row w' lo hi (ps.set k p') f := by
  have hk : k < ps.length := (List.getElem?_eq_some_iff.1 hp).1
  refine ⟨h.lo_, fun i hi2 => h.mono i (by simpa using hi2), by rw [List.length_set]; exact h.hi_, fun i q hq => ?_⟩
  by_cases hik : i = k
  · subst hik
    rw [List.getElem?_set_self hk] at hq
    cases hq; exact ho
  · rw [List.getElem?_set_ne (by omega)] at hq
    have hi3 := (List.getElem?_eq_some_iff.1 hq).1
    refine (h.own i q hq).within hw ?_
    rcases Nat.lt_or_ge i k with h6 | h6
    · left; exact h.le (a := i + 1) (b := k) h6 (by omega)
    · right; exact h.le (a := k + 1) (b := i) (by omega) (by omega)
/-- records turned one by one: the first k are turned -/
def upTo {α : Type} (t : Nat → α → α) (ps : List α) (k : Nat) : List α := ps.mapIdx fun i p => if i < k then t i p else p
section
variable {α : Type} {t : Nat → α → α} {ps : List α} {k : Nat} {p : α}
theorem upTo_len : (upTo t ps k).length = ps.length := by simp [upTo]
theorem upTo_zero : upTo t ps 0 = ps := by
  apply List.ext_getElem?; intro i; simp [upTo]
theorem upTo_at (h : ps[k]? = some p) : (upTo t ps k)[k]? = some p := by simp [upTo, h]
theorem upTo_set (h : ps[k]? = some p) : (upTo t ps k).set k (t k p) = upTo t ps (k + 1) := by
  have hk : k < ps.length := (List.getElem?_eq_some_iff.1 h).1
  apply List.ext_getElem?; intro i
  by_cases hi : i = k
  · subst hi
    rw [List.getElem?_set_self (by rw [upTo_len]; exact hk)]
    simp [upTo, h]
  · rw [List.getElem?_set_ne (by omega)]
    simp only [upTo, List.getElem?_mapIdx]
    cases ps[i]? with
    | none => rfl
    | some x =>
      simp only [Option.map_some]
      by_cases h2 : i < k
      · rw [if_pos h2, if_pos (by omega)]
      · rw [if_neg h2, if_neg (by omega)]
theorem upTo_turned {n : Nat} (hn : ps.length ≤ n) {q : α} (h : (upTo t ps n)[k]? = some q) : ∃ p, ps[k]? = some p ∧ q = t k p := by
  simp only [upTo, List.getElem?_mapIdx] at h
  cases hx : ps[k]? with
  | none => rw [hx] at h; cases h
  | some x =>
    rw [hx] at h
    have : k < ps.length := (List.getElem?_eq_some_iff.1 hx).1
    simp only [Option.map_some, show k < n by omega, if_true, Option.some.injEq] at h
    exact ⟨x, rfl, h.symm⟩
end
end Go.Proofs.YtkegncanmfmmmaaDoor
