/- A set of numbers kept as a map[int64]bool that the call makes, and how many it holds. No program in sight. -/
import Derived.Test.YtbklbhbjlbojdaaWords3
namespace Go.Proofs.Ytbklbhbjlbojdaa
open Go.RowKit Go.WideMaps Go.Maps
set_option linter.unusedVariables false

/-- block b is a map[int64]bool of at most n entries whose keys are those of S; m of them -/
def IntSet (P : Program) (k e : TypeId) (w : World) (b n : Nat) (S : Int → Bool) (m : Nat) : Prop :=
  ∃ D : DataW Unit, w.ownsMap P k (plainElem P e) b n D ∧ Maps.Tidy D ∧ (∀ i : Int, Maps.has D (.int .i64 i) = S i) ∧ Maps.size D = m
section
variable {P : Program} {k e t : TypeId} {w w' : World} {b n m : Nat} {S : Int → Bool}
theorem IntSet.made (w : World) : IntSet P k e (w.alloc (.map #[] 0)) w.heap.size 0 (fun _ => false) 0 :=
  ⟨.map [], World.ownsMap_made _ _ _ _, Maps.tidy_empty, fun _ => rfl, rfl⟩
theorem IntSet.alloc (h : IntSet P k e w b n S m) (o : Obj) : IntSet P k e (w.alloc o) b n S m := by
  obtain ⟨D, h1, h2⟩ := h; exact ⟨D, h1.alloc o, h2⟩
theorem IntSet.lt (h : IntSet P k e w b n S m) : b < w.heap.size := by obtain ⟨D, h1, h2⟩ := h; exact h1.lt
theorem IntSet.bel {B : Nat} (h : IntSet P k e w b n S m) (hb : Below B w w') (hB : b < B) : IntSet P k e w' b n S m := by
  obtain ⟨D, ⟨es, clock, h1, h3⟩, h2⟩ := h; exact ⟨D, ⟨es, clock, (hb.block b hB).trans h1, h3⟩, h2⟩
theorem IntSet.to {S' : Int → Bool} {m' : Nat} (h : IntSet P k e w b n S m) (hS : ∀ s, S s = S' s) (hm : m = m') : IntSet P k e w b n S' m' := by
  obtain ⟨D, h1, h2, h3, h4⟩ := h; exact ⟨D, h1, h2, fun s => by rw [h3, hS], h4.trans hm⟩
theorem IntSet.wide {n' : Nat} (h : IntSet P k e w b n S m) (hn : n ≤ n') : IntSet P k e w b n' S m := by
  obtain ⟨D, ⟨es, clock, h1, h5, h6, h7⟩, h2⟩ := h; exact ⟨D, ⟨es, clock, h1, h5, by omega, h7⟩, h2⟩
theorem wpList_put_int {ops : Array Oper} {rest : List Oper} {o : Oper} {a : Act} {Q : Exit → Act → World → Prop}
    (hg : o.guard = none) (mo x v : Operand) (t : TypeId) (hop : o.op = Op.mapUpdate t mo x v)
    (k e : TypeId) (ht : P.underlying t = some (.map k e)) (hk : P.underlying k = some (.int .i64)) (he : P.underlying e = some .bool) (b n m : Nat) (S : Int → Bool)
    (hm : a.eval mo = .map (some b)) (hown : IntSet P k e w b n S m) (hn : n < 9223372036854775807) (i : Int) (hx : a.eval x = .int .i64 i) (hv : a.eval v = .bool true) (hi : (Lit.int .i64 i).wf = true)
    (hK : ∀ w', IntSet P k e w' b (n + 1) (fun r => decide (r = i) || S r) (if S i then m else m + 1) → w.grownBy w' (some b) → wpList P ops Q rest (a.put o.dst undef) w') :
    wpList P ops Q (o :: rest) a w := by
  obtain ⟨D, h1, h2, h3, h4⟩ := hown
  have hkey := keyOf_int_mk hk hi
  refine wpList_mapUpdate_own w hg mo x v t hop k e (int_keyed hk) ht _ b n D hm h1 (by unfold maxLen; omega) _ _ _ hx hv hkey (.lit (.bool true)) [] (plainElem_bool he true) fun w' r1 r2 => hK w' ⟨_, r1, h2.put (by simp [WideAt.IsKeyLit]) _, fun r => ?_, ?_⟩ r2
  · by_cases hr : r = i
    · subst hr
      rw [Maps.has_put_same h2.isMap (by simp [WideAt.IsKeyLit])]; simp
    · rw [Maps.has_put_other (fun h => hr (by injection h)), h3]; simp [hr]
  · rw [Maps.size_put h2, h3, h4]
theorem wpList_len_int {ops : Array Oper} {rest : List Oper} {o : Oper} {a : Act} {Q : Exit → Act → World → Prop}
    (hg : o.guard = none) (mo : Operand) (t : TypeId) (hop : o.op = Op.call { callee := Callee.builtin Builtin.len, args := #[mo], argTypes := #[t] })
    (k e : TypeId) (ht : P.underlying t = some (.map k e)) (b n m : Nat) (S : Int → Bool) (hm : a.eval mo = .map (some b)) (hown : IntSet P k e w b n S m)
    (hK : wpList P ops Q rest (a.put o.dst (.int .i64 m)) w) : wpList P ops Q (o :: rest) a w := by
  obtain ⟨D, h1, h2, h3, h4⟩ := hown
  subst h4
  exact wpList_len_own w hg mo t hop k e ht _ b n D hm h1 hK
end

/-- how many numbers below n the test takes -/
def cntTo (S : Int → Bool) : Nat → Nat
  | 0 => 0
  | n + 1 => cntTo S n + (if S (n : Int) then 1 else 0)
theorem cntTo_same {S S' : Int → Bool} : ∀ n : Nat, (∀ j : Nat, j < n → S j = S' j) → cntTo S n = cntTo S' n
  | 0, _ => rfl
  | n + 1, h => by simp only [cntTo]; rw [cntTo_same n (fun j hj => h j (by omega)), h n (by omega)]
theorem cntTo_new {S : Int → Bool} {i : Nat} (hi : S i = false) : ∀ n : Nat, i < n → cntTo (fun r => decide (r = (i : Int)) || S r) n = cntTo S n + 1
  | 0, h => absurd h (by omega)
  | n + 1, h => by
    simp only [cntTo]
    by_cases e : i = n
    · subst e
      rw [cntTo_same (S' := S) i (fun j hj => by
        have : ¬ ((j : Int) = (i : Int)) := by omega
        simp [this])]
      simp [hi]
    · rw [cntTo_new hi n (by omega)]
      have : ¬ ((n : Int) = (i : Int)) := by omega
      simp only [this, decide_false, Bool.false_or]; omega
theorem cntTo_old {S : Int → Bool} {i : Int} (hi : S i = true) (n : Nat) : cntTo (fun r => decide (r = i) || S r) n = cntTo S n := by
  have : (fun r => decide (r = i) || S r) = S := funext fun r => by
    by_cases e : r = i
    · subst e; simp [hi]
    · simp [e]
  rw [this]
theorem cntTo_le (S : Int → Bool) : ∀ n : Nat, cntTo S n ≤ n
  | 0 => Nat.le_refl _
  | n + 1 => by simp only [cntTo]; have := cntTo_le S n; split <;> omega
theorem cntTo_none : ∀ n : Nat, cntTo (fun _ => false) n = 0
  | 0 => rfl
  | n + 1 => by simp [cntTo, cntTo_none n]
end Go.Proofs.Ytbklbhbjlbojdaa
