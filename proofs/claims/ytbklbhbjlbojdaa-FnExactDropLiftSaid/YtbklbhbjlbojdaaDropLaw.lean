/- DropLift: what it answers (dlXs, dlCode), and words for a row that is edited in place. No program in sight. -/
import Derived.Test.YtbklbhbjlbojdaaAddLift1
import Derived.Test.YtbklbhbjlbojdaaLiftCode
import Derived.Test.YtbklbhbjlbojdaaNest3
import Derived.Test.YtbklbhbjlbojdaaOwnAt
namespace Go.Proofs.Ytbklbhbjlbojdaa
open Go.RowKit
set_option linter.unusedVariables false

/-- a number behind a dropped place moves down -/
def shI (k n : Int) : Int := if k < n then n - 1 else n
def shV (k : Int) (v : LV) : LV := (v.1, v.2.map (shI k))
def shL (k : Int) (p : Lift) : Lift := ⟨p.v, ⟨p.r.a, p.r.n, p.r.cap, p.r.xs.map (shI k)⟩⟩
theorem shL_val (k : Int) (p : Lift) : (shL k p).val = shV k p.val := rfl
def usesB (k : Int) (v : LV) : Bool := v.2.any fun n => decide (n = k)
def dlCode (vs : List LV) (k : Int) : Int := if lfCode vs k = 0 then (if vs.any (usesB k) then 6 else 0) else lfCode vs k
def dlXs (vs : List LV) (k : Int) : List LV := if dlCode vs k = 0 then (vs.map (shV k)).eraseIdx k.toNat else []
theorem dl_bad {vs : List LV} {k : Int} (h : lfCode vs k ≠ 0) : dlXs vs k = [] ∧ dlCode vs k = lfCode vs k := by
  have e : dlCode vs k = lfCode vs k := by unfold dlCode; rw [if_neg h]
  exact ⟨by unfold dlXs; rw [if_neg (by rw [e]; exact h)], e⟩
theorem dl_6 {vs : List LV} {k : Int} (h : lfCode vs k = 0) (h2 : vs.any (usesB k) = true) : dlXs vs k = [] ∧ dlCode vs k = 6 := by
  have e : dlCode vs k = 6 := by unfold dlCode; rw [if_pos h, if_pos h2]
  exact ⟨by unfold dlXs; rw [if_neg (by rw [e]; decide)], e⟩
theorem dl_0 {vs : List LV} {k : Int} (h : lfCode vs k = 0) (h2 : vs.any (usesB k) = false) : dlXs vs k = (vs.map (shV k)).eraseIdx k.toNat ∧ dlCode vs k = 0 := by
  have e : dlCode vs k = 0 := by unfold dlCode; rw [if_pos h, if_neg (by rw [h2]; decide)]
  exact ⟨by unfold dlXs; rw [if_pos e], e⟩
theorem dlXs_len (vs : List LV) (k : Int) : (dlXs vs k).length ≤ vs.length := by
  unfold dlXs
  split
  · refine Nat.le_trans (List.length_eraseIdx_le _ _) ?_
    rw [List.length_map]; exact Nat.le_refl _
  · simp

section
variable {α : Type} {xs : List α} {i kk : Nat} {x : α}
theorem take_erase_ne (h : xs[i]? = some x) (hne : i ≠ kk) : (xs.take (i + 1)).eraseIdx kk = (xs.take i).eraseIdx kk ++ [x] := by
  have hl : i < xs.length := (List.getElem?_eq_some_iff.1 h).1
  have hl2 : (xs.take i).length = i := by rw [List.length_take]; omega
  rw [List.take_add_one, h]
  show (xs.take i ++ [x]).eraseIdx kk = _
  rcases Nat.lt_or_ge kk i with h1 | h1
  · rw [List.eraseIdx_append_of_lt_length (by rw [hl2]; exact h1)]
  · rw [List.eraseIdx_of_length_le (by rw [List.length_append, hl2]; simp; omega), List.eraseIdx_of_length_le (by rw [hl2]; exact h1)]
theorem take_erase_eq (h : xs[i]? = some x) : (xs.take (i + 1)).eraseIdx i = (xs.take i).eraseIdx i := by
  have hl : i < xs.length := (List.getElem?_eq_some_iff.1 h).1
  have hl2 : (xs.take i).length = i := by rw [List.length_take]; omega
  rw [List.take_add_one, h]
  show (xs.take i ++ [x]).eraseIdx i = _
  have e : (xs.take i).eraseIdx i = xs.take i := List.eraseIdx_of_length_le (by rw [hl2]; exact Nat.le_refl _)
  rw [List.eraseIdx_append_of_length_le (by rw [hl2]; exact Nat.le_refl _), hl2, Nat.sub_self, e]
  simp
theorem take_erase_eq2 (h : xs[i]? = some x) (e : i = kk) : (xs.take (i + 1)).eraseIdx kk = (xs.take i).eraseIdx kk := by subst e; exact take_erase_eq h
theorem map_erase {β : Type} (f : α → β) : ∀ (xs : List α) (k : Nat), (xs.eraseIdx k).map f = (xs.map f).eraseIdx k
  | [], k => by simp
  | x :: xs, 0 => by simp
  | x :: xs, k + 1 => by simp only [List.eraseIdx_cons_succ, List.map_cons]; rw [map_erase f xs k]
theorem upTo_same {t : Nat → α → α} (h : xs[i]? = some x) (e : t i x = x) : upTo t xs (i + 1) = upTo t xs i := by
  rw [← upTo_set h, e]
  have hl : i < (upTo t xs i).length := by rw [upTo_len]; exact (List.getElem?_eq_some_iff.1 h).1
  have h2 := upTo_at (t := t) h
  have h3 : (upTo t xs i)[i]'hl = x := by rw [List.getElem?_eq_getElem hl] at h2; exact Option.some.inj h2
  conv => lhs; rw [← h3]
  exact List.set_getElem_self hl
theorem upTo_all {t : α → α} {n : Nat} (hn : xs.length ≤ n) : upTo (fun _ => t) xs n = xs.map t := by
  apply List.ext_getElem?; intro i
  simp only [upTo, List.getElem?_mapIdx, List.getElem?_map]
  cases h : xs[i]? with
  | none => rfl
  | some x =>
    have := (List.getElem?_eq_some_iff.1 h).1
    simp only [Option.map_some, show i < n by omega, if_true]
end

section
variable {α β : Type} {d : β → List Value} {j : Nat} {e : TypeId} {row : α → Row β} {w w' : World} {lo hi : Nat} {ps : List α} {f : Nat → Nat}
/-- rows stay where the block of another row, of another kind, grows -/
theorem Tiles.kept {γ : Type} {c : γ → List Value} {k base : Nat} {t : TypeId} {v : Value} {ys : List γ} (h : Tiles d j e row w lo hi ps f) (ht : e ≠ t) (hg : Grow c k w base t v ys) (hgr : w.grownBy w' v.ownBlock) : Tiles d j e row w' lo hi ps f :=
  ⟨h.lo_, h.mono, h.hi_, fun i p hp => Own.kept (h.own i p hp) ht hg hgr⟩
theorem Tiles.arrAt (h : Tiles d j e row w lo hi ps f) (hd : ∀ x, (d x).length = j) {i : Nat} {p : α} (hp : ps[i]? = some p) : Arr d j w lo hi (row p).a (row p).n (row p).xs := by
  have hi' := (List.getElem?_eq_some_iff.1 hp).1
  have h3 := h.upto i (by omega)
  have h4 := h.le (a := i + 1) (b := ps.length) (by omega) (Nat.le_refl _)
  have h5 := h.hi_
  exact (((h.own i p hp).arr hd).more (by omega)).less (by omega)
/-- the tiles of a list of which one place has been taken out -/
theorem Tiles.erase (h : Tiles d j e row w lo hi ps f) (k : Nat) (hk : k < ps.length) : Tiles d j e row w lo hi (ps.eraseIdx k) (fun i => if i ≤ k then f i else f (i + 1)) := by
  have hl : (ps.eraseIdx k).length = ps.length - 1 := List.length_eraseIdx_of_lt hk
  refine ⟨by simpa using h.lo_, fun i hi2 => ?_, ?_, fun i p hp => ?_⟩
  · rw [hl] at hi2
    by_cases h1 : i + 1 ≤ k
    · rw [if_pos (by omega), if_pos h1]; exact h.mono i (by omega)
    · rw [if_neg h1]
      by_cases h2 : i ≤ k
      · rw [if_pos h2]; exact h.le (by omega) (by omega)
      · rw [if_neg h2]; exact h.mono (i + 1) (by omega)
  · rw [hl]
    have h5 := h.hi_
    by_cases h1 : ps.length - 1 ≤ k
    · rw [if_pos h1]
      have := h.le (a := ps.length - 1) (b := ps.length) (by omega) (Nat.le_refl _)
      omega
    · rw [if_neg h1, show ps.length - 1 + 1 = ps.length by omega]; exact h5
  · have hi3 := (List.getElem?_eq_some_iff.1 hp).1
    rw [hl] at hi3
    rw [List.getElem?_eraseIdx] at hp
    by_cases h1 : i < k
    · rw [if_pos h1] at hp
      rw [if_pos (by omega), if_pos (by omega)]
      exact h.own i p hp
    · rw [if_neg h1] at hp
      rw [if_neg (show ¬ i + 1 ≤ k by omega)]
      by_cases h2 : i ≤ k
      · rw [if_pos h2]
        exact (h.own (i + 1) p hp).wide (h.le (by omega) (by omega)) (Nat.le_refl _)
      · rw [if_neg h2]; exact h.own (i + 1) p hp
end
section
variable {α β : Type} {d : β → List Value} {j : Nat} {e : TypeId} {row : α → Row β} {w w' : World} {lo hi : Nat} {ps : List α} {f : Nat → Nat} {c : α → List Value} {k : Nat} {A : Option Addr} {n : Nat} {xs : List α} {v : Value}
/-- one row turned in its own block, or none -/
theorem Tiles.turn1 (h : Tiles d j e row w lo hi ps f) {i g : Nat} {p p' : α} (hp : ps[i]? = some p) (hw : Within g (g + 1) w w') (hg : (f i ≤ g ∧ g < f (i + 1)) ∨ hi ≤ g) (ho : Own d j w' (f i) (f (i + 1)) e (row p').a (row p').n (row p').xs) : Tiles d j e row w' lo hi (ps.set i p') f := by
  have hk : i < ps.length := (List.getElem?_eq_some_iff.1 hp).1
  refine ⟨h.lo_, fun t ht => h.mono t (by simpa using ht), by rw [List.length_set]; exact h.hi_, fun t q hq => ?_⟩
  by_cases hik : t = i
  · subst hik
    rw [List.getElem?_set_self hk] at hq
    cases hq; exact ho
  · rw [List.getElem?_set_ne (by omega)] at hq
    have hi3 := (List.getElem?_eq_some_iff.1 hq).1
    refine (h.own t q hq).within hw ?_
    have h5 := h.hi_
    have h6 := h.le (a := t + 1) (b := ps.length) (by omega) (Nat.le_refl _)
    rcases hg with ⟨g1, g2⟩ | g1
    · rcases Nat.lt_or_ge t i with h7 | h7
      · left; have := h.le (a := t + 1) (b := i) h7 (by omega); omega
      · right; have := h.le (a := i + 1) (b := t) (by omega) (by omega); omega
    · left; omega
theorem Own.heapEq (h : Own c k w lo hi e A n xs) (hk : ∀ g, A = some ⟨g, 0, none⟩ → w'.heap[g]? = w.heap[g]?) : Own c k w' lo hi e A n xs :=
  ⟨h.1, fun hn => by
    obtain ⟨g, cs, e1, h1, h0, h2, h3, h4⟩ := h.2 hn
    exact ⟨g, cs, e1, h1, h0, by rw [hk g e1]; exact h2, h3, h4⟩⟩
theorem Own.swap (h : Own c k w lo hi e A n xs) {i : Nat} {x y : α} (hx : xs[i]? = some x) (hc : c y = c x) : Own c k w lo hi e A n (xs.set i y) :=
  ⟨by rw [List.length_set]; exact h.1, fun hn => by
    obtain ⟨g, cs, e1, h1, h0, h2, h3, h4⟩ := h.2 hn
    refine ⟨g, cs, e1, h1, h0, h2, h3, fun m z hz t ht => ?_⟩
    have hk : i < xs.length := (List.getElem?_eq_some_iff.1 hx).1
    by_cases hm : m = i
    · subst hm
      rw [List.getElem?_set_self hk] at hz
      cases hz
      rw [hc]; exact h4 m x hx t ht
    · rw [List.getElem?_set_ne (by omega)] at hz
      exact h4 m z hz t ht⟩
theorem Own.block? (h : Own c k w lo hi e A n xs) (hn : 0 < n) : ∃ g cs, A = some ⟨g, 0, none⟩ ∧ lo ≤ g ∧ g < hi ∧ w.heap[g]? = some (.cells cs e (0, 0)) := by
  obtain ⟨g, cs, e1, h1, h0, h2, _⟩ := h.2 hn
  exact ⟨g, cs, e1, h1, h0, h2⟩
/-- a row's block, or a block that is not there yet; it is not a block of another kind -/
theorem Own.blockOr (h : Own c k w lo hi e A n xs) {b : Nat} {cs : Array Value} {t : TypeId} (hb : w.heap[b]? = some (.cells cs t (0, 0))) (ht : e ≠ t) : ∃ g, (0 < n → A = some ⟨g, 0, none⟩) ∧ ((lo ≤ g ∧ g < hi) ∨ g = w.heap.size) ∧ g ≠ b := by
  rcases Nat.eq_zero_or_pos n with h0 | h0
  · exact ⟨w.heap.size, fun h => absurd h (by omega), .inr rfl, by have := heap_lt hb; omega⟩
  · obtain ⟨g, cs2, e1, h1, h2, h3⟩ := h.block? h0
    refine ⟨g, fun _ => e1, .inl ⟨h1, h2⟩, fun e9 => ?_⟩
    subst e9
    rw [hb] at h3
    injection h3 with h3; injection h3 with _ h3; exact ht h3.symm
theorem Grow.within (h : Grow c k w lo e v xs) {g : Nat} (hw : Within g (g + 1) w w') (hg : g < lo ∨ w.heap.size ≤ g) : Grow c k w' lo e v xs := by
  refine ⟨h.1, ?_⟩
  rcases h.2 with h2 | ⟨b, cap, cur, hv, hb, hh, r⟩
  · exact .inl h2
  · exact .inr ⟨b, cap, cur, hv, hb, by rw [hw.block b (heap_lt hh) (by have := heap_lt hh; omega)]; exact hh, r⟩
end
end Go.Proofs.Ytbklbhbjlbojdaa
