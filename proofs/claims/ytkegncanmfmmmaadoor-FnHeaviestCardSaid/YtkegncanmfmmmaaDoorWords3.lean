/- Words for loops that leave early, and for a set of strings kept as a map[string]bool that the call makes. No program in sight. -/
import Derived.Test.YtkegncanmfmmmaaDoorWords2
import Derived.Maps.OwnOps
import Derived.Maps.OwnSet
import Derived.Maps.Views
import Derived.ProofKit
namespace Go.Proofs.YtkegncanmfmmmaaDoor
open Go.RowKit Go.WideMaps Go.Maps
set_option linter.unusedVariables false

/-- every place below k passes q -/
def allTo (q : Nat → Bool) (k : Nat) : Bool := (List.range k).all q
theorem allTo_zero (q : Nat → Bool) : allTo q 0 = true := rfl
theorem allTo_succ (q : Nat → Bool) (k : Nat) : allTo q (k + 1) = (allTo q k && q k) := by simp [allTo, List.range_succ]
theorem allTo_step {q : Nat → Bool} {k : Nat} (h : allTo q k = true) (h2 : q k = true) : allTo q (k + 1) = true := by rw [allTo_succ, h, h2]; rfl
theorem allTo_bad {q : Nat → Bool} {k n : Nat} (hk : k < n) (h : q k = false) : allTo q n = false := by
  rw [Bool.eq_false_iff]; intro h2
  simp only [allTo, List.all_eq_true, List.mem_range] at h2
  rw [h2 k hk] at h; cases h
theorem allTo_iff {q : Nat → Bool} {n : Nat} : allTo q n = true ↔ ∀ i, i < n → q i = true := by simp [allTo]

theorem ba_eq {s t : ByteArray} : s.data.toList = t.data.toList ↔ s = t :=
  ⟨fun h => by apply ByteArray.ext; exact Array.toList_inj.1 h, fun h => by rw [h]⟩

/-- block b is a map[string]bool of at most n entries; a string that S knows is true in it, another one false. -/
def StrSet (P : Program) (k e : TypeId) (w : World) (b n : Nat) (S : ByteArray → Bool) : Prop :=
  ∃ D : DataW Unit, w.ownsMap P k (plainElem P e) b n D ∧ Maps.IsMap D ∧ ∀ s : ByteArray, D.atKey (.string s.data.toList) (.lit (.bool false)) = .lit (.bool (S s))
section
variable {P : Program} {k e t : TypeId} {w w' : World} {b n : Nat} {S : ByteArray → Bool}
theorem StrSet.made (w : World) : StrSet P k e (w.alloc (.map #[] 0)) w.heap.size 0 (fun _ => false) :=
  ⟨.map [], World.ownsMap_made _ _ _ _, Maps.isMap_empty, fun _ => rfl⟩
theorem StrSet.grown {row : Option Nat} (h : StrSet P k e w b n S) (hg : w.grownBy w' row) (hne : some b ≠ row) : StrSet P k e w' b n S := by
  obtain ⟨D, h1, h2⟩ := h; exact ⟨D, h1.kept hg hne, h2⟩
theorem StrSet.alloc (h : StrSet P k e w b n S) (o : Obj) : StrSet P k e (w.alloc o) b n S := by
  obtain ⟨D, h1, h2⟩ := h; exact ⟨D, h1.alloc o, h2⟩
theorem StrSet.lt (h : StrSet P k e w b n S) : b < w.heap.size := by obtain ⟨D, h1, h2⟩ := h; exact h1.lt
theorem StrSet.bel {B : Nat} (h : StrSet P k e w b n S) (hb : Below B w w') (hB : b < B) : StrSet P k e w' b n S := by
  obtain ⟨D, ⟨es, clock, h1, h3⟩, h2⟩ := h; exact ⟨D, ⟨es, clock, (hb.block b hB).trans h1, h3⟩, h2⟩
theorem StrSet.to {S' : ByteArray → Bool} (h : StrSet P k e w b n S) (hS : ∀ s, S s = S' s) : StrSet P k e w b n S' := by
  obtain ⟨D, h1, h2, h3⟩ := h; exact ⟨D, h1, h2, fun s => by rw [h3, hS]⟩
theorem StrSet.look (h : StrSet P k e w b n S) (ht : P.underlying t = some (.map k e)) (hk : P.underlying k = some .string) (he : P.underlying e = some .bool) (hz : (zeroValue e).run P w = .ok (.bool false) w)
    {s : ByteArray} (hs : s.size ≤ 9223372036854775807) : (Instr.lookup t (.map (some b)) (.string s) false).run P w = .ok (.bool (S s)) w := by
  obtain ⟨D, h1, h2, h3⟩ := h
  obtain ⟨v, ps, hrun, hv⟩ := h1.lookup (string_keyed hk) ht hz (plainElem_bool he false) (keyOf_string_mk hk (by unfold maxLen; omega))
  rw [h3] at hv
  rw [hrun]
  congr 1
  unfold plainElem at hv
  rw [he] at hv
  cases v <;> simp at hv
  rw [hv.1]
theorem wpList_put_str {ops : Array Oper} {rest : List Oper} {o : Oper} {a : Act} {Q : Exit → Act → World → Prop}
    (hg : o.guard = none) (m x v : Operand) (t : TypeId) (hop : o.op = Op.mapUpdate t m x v)
    (k e : TypeId) (ht : P.underlying t = some (.map k e)) (hk : P.underlying k = some .string) (he : P.underlying e = some .bool) (b n : Nat) (S : ByteArray → Bool)
    (hm : a.eval m = .map (some b)) (hown : StrSet P k e w b n S) (hn : n < 9223372036854775807) (s : ByteArray) (hx : a.eval x = .string s) (hv : a.eval v = .bool true) (hs : s.size ≤ 9223372036854775807)
    (hK : ∀ w', StrSet P k e w' b (n + 1) (fun r => decide (r = s) || S r) → w.grownBy w' (some b) → wpList P ops Q rest (a.put o.dst undef) w') :
    wpList P ops Q (o :: rest) a w := by
  obtain ⟨D, h1, h2, h3⟩ := hown
  have hkey := keyOf_string_mk hk (show s.size ≤ maxLen by unfold maxLen; omega)
  refine wpList_mapUpdate_own w hg m x v t hop k e (string_keyed hk) ht _ b n D hm h1 (by unfold maxLen; omega) _ _ _ hx hv hkey (.lit (.bool true)) [] (plainElem_bool he true) fun w' r1 r2 => hK w' ⟨_, r1, h2.put _ _, fun r => ?_⟩ r2
  by_cases hrs : r = s
  · subst hrs
    rw [Maps.atKey_put_same h2 (by simp [WideAt.IsKeyLit])]; simp
  · rw [Maps.atKey_put_other (fun h => hrs (by injection h with h; exact ba_eq.1 h)), h3]
    simp [hrs]
end
end Go.Proofs.YtkegncanmfmmmaaDoor
