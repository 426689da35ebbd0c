/- A set of numbers kept as a map[int64]bool that the call makes, looked up and filled. No program in sight. -/
import Derived.Test.YtbklbhbjlbojdaaIntSet
namespace Go.Proofs.Ytbklbhbjlbojdaa
open Go.RowKit Go.WideMaps Go.Maps
set_option linter.unusedVariables false

/-- block b is a map[int64]bool of at most n entries; the numbers of S are its keys, true under each -/
def BSet (P : Program) (k e : TypeId) (w : World) (b n : Nat) (S : Int → Bool) : Prop :=
  ∃ D : DataW Unit, w.ownsMap P k (plainElem P e) b n D ∧ Maps.Tidy D ∧ (∀ i : Int, Maps.has D (.int .i64 i) = S i) ∧ ∀ i : Int, D.atKey (.int .i64 i) (.lit (.bool false)) = .lit (.bool (S i))
section
variable {P : Program} {k e t : TypeId} {w w' : World} {b n : Nat} {S : Int → Bool}
theorem BSet.made (w : World) : BSet P k e (w.alloc (.map #[] 0)) w.heap.size 0 (fun _ => false) :=
  ⟨.map [], World.ownsMap_made _ _ _ _, Maps.tidy_empty, fun _ => rfl, fun _ => rfl⟩
theorem BSet.lt (h : BSet P k e w b n S) : b < w.heap.size := by obtain ⟨D, h1, h2⟩ := h; exact h1.lt
theorem BSet.bel {B : Nat} (h : BSet P k e w b n S) (hb : Below B w w') (hB : b < B) : BSet P k e w' b n S := by
  obtain ⟨D, ⟨es, clock, h1, h3⟩, h2⟩ := h; exact ⟨D, ⟨es, clock, (hb.block b hB).trans h1, h3⟩, h2⟩
theorem BSet.to {S' : Int → Bool} (h : BSet P k e w b n S) (hS : ∀ s, S s = S' s) : BSet P k e w b n S' := by
  obtain ⟨D, h1, h2, h3, h4⟩ := h; exact ⟨D, h1, h2, fun s => by rw [h3, hS], fun s => by rw [h4, hS]⟩
theorem BSet.wide {n' : Nat} (h : BSet P k e w b n S) (hn : n ≤ n') : BSet P k e w b n' S := by
  obtain ⟨D, ⟨es, clock, h1, h5, h6, h7⟩, h2⟩ := h; exact ⟨D, ⟨es, clock, h1, h5, by omega, h7⟩, h2⟩
theorem BSet.look (h : BSet P k e w b n S) (ht : P.underlying t = some (.map k e)) (hk : P.underlying k = some (.int .i64)) (he : P.underlying e = some .bool) (hz : (zeroValue e).run P w = .ok (.bool false) w)
    {i : Int} (hi : (Lit.int .i64 i).wf = true) : (Instr.lookup t (.map (some b)) (.int .i64 i) false).run P w = .ok (.bool (S i)) w := by
  obtain ⟨D, h1, h2, h3, h4⟩ := h
  obtain ⟨v, ps, hrun, hv⟩ := h1.lookup (int_keyed hk) ht hz (plainElem_bool he false) (keyOf_int_mk hk hi)
  rw [h4] at hv
  rw [hrun]
  congr 1
  unfold plainElem at hv
  rw [he] at hv
  cases v <;> simp at hv
  rw [hv.1]
theorem wpList_put_bset {ops : Array Oper} {rest : List Oper} {o : Oper} {a : Act} {Q : Exit → Act → World → Prop}
    (hg : o.guard = none) (mo x v : Operand) (t : TypeId) (hop : o.op = Op.mapUpdate t mo x v)
    (k e : TypeId) (ht : P.underlying t = some (.map k e)) (hk : P.underlying k = some (.int .i64)) (he : P.underlying e = some .bool) (b n : Nat) (S : Int → Bool)
    (hm : a.eval mo = .map (some b)) (hown : BSet P k e w b n S) (hn : n < 9223372036854775807) (i : Int) (hx : a.eval x = .int .i64 i) (hv : a.eval v = .bool true) (hi : (Lit.int .i64 i).wf = true)
    (hK : ∀ w', BSet P k e w' b (n + 1) (fun r => decide (r = i) || S r) → w.grownBy w' (some b) → wpList P ops Q rest (a.put o.dst undef) w') :
    wpList P ops Q (o :: rest) a w := by
  obtain ⟨D, h1, h2, h3, h4⟩ := hown
  have hkey := keyOf_int_mk hk hi
  refine wpList_mapUpdate_own w hg mo x v t hop k e (int_keyed hk) ht _ b n D hm h1 (by unfold maxLen; omega) _ _ _ hx hv hkey (.lit (.bool true)) [] (plainElem_bool he true) fun w' r1 r2 => hK w' ⟨_, r1, h2.put (by simp [WideAt.IsKeyLit]) _, fun r => ?_, fun r => ?_⟩ r2
  · by_cases hr : r = i
    · subst hr
      rw [Maps.has_put_same h2.isMap (by simp [WideAt.IsKeyLit])]; simp
    · rw [Maps.has_put_other (fun h => hr (by injection h)), h3]; simp [hr]
  · by_cases hr : r = i
    · subst hr
      rw [Maps.atKey_put_same h2.isMap (by simp [WideAt.IsKeyLit])]; simp
    · rw [Maps.atKey_put_other (fun h => hr (by injection h)), h4]; simp [hr]
end
end Go.Proofs.Ytbklbhbjlbojdaa
