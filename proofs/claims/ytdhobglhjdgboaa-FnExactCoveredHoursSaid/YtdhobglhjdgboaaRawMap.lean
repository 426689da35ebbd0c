/- A map[int64]X that the call makes, its values as they stand; rows that grow beside one another. No program in sight. -/
import Derived.Test.YtdhobglhjdgboaaWords3
import Derived.Test.YtdhobglhjdgboaaGrow2
import Derived.Maps.AppendAt
namespace Go.Proofs.Ytdhobglhjdgboaa
open Go.RowKit Go.WideMaps Go.Maps
set_option linter.unusedVariables false

/-- block b is a map[int64]X of at most n entries; at each key stands V's value, z where there is none -/
def RawMap (P : Program) (k : TypeId) (w : World) (b n : Nat) (z : Value) (V : Int → Value) : Prop :=
  ∃ D : DataW Value, w.ownsMap P k (fun v => some (.held v, [])) b n D ∧ Maps.IsMap D ∧ ∀ i : Int, D.atKey (.int .i64 i) (.held z) = .held (V i)
section
variable {P : Program} {k e t : TypeId} {w w' : World} {b n : Nat} {z : Value} {V : Int → Value}
theorem RawMap.made (w : World) (z : Value) : RawMap P k (w.alloc (.map #[] 0)) w.heap.size 0 z (fun _ => z) :=
  ⟨.map [], World.ownsMap_made _ _ _ _, Maps.isMap_empty, fun _ => rfl⟩
theorem RawMap.alloc (h : RawMap P k w b n z V) (o : Obj) : RawMap P k (w.alloc o) b n z V := by
  obtain ⟨D, h1, h2⟩ := h; exact ⟨D, h1.alloc o, h2⟩
theorem RawMap.lt (h : RawMap P k w b n z V) : b < w.heap.size := by obtain ⟨D, h1, h2⟩ := h; exact h1.lt
theorem RawMap.block (h : RawMap P k w b n z V) (hb : w'.heap[b]? = w.heap[b]?) : RawMap P k w' b n z V := by
  obtain ⟨D, ⟨es, clock, h1, h3⟩, h2⟩ := h; exact ⟨D, ⟨es, clock, hb.trans h1, h3⟩, h2⟩
theorem RawMap.bel {B : Nat} (h : RawMap P k w b n z V) (hb : Below B w w') (hB : b < B) : RawMap P k w' b n z V := h.block (hb.block b hB)
theorem RawMap.grown {row : Option Nat} (h : RawMap P k w b n z V) (hg : w.grownBy w' row) (hne : some b ≠ row) : RawMap P k w' b n z V := h.block (hg.block b h.lt hne)
theorem RawMap.look (h : RawMap P k w b n z V) (ht : P.underlying t = some (.map k e)) (hk : P.underlying k = some (.int .i64)) (hz : (zeroValue e).run P w = .ok z w) {i : Int} (hi : (Lit.int .i64 i).wf = true) :
    (Instr.lookup t (.map (some b)) (.int .i64 i) false).run P w = .ok (V i) w := by
  obtain ⟨D, h1, h2, h3⟩ := h
  obtain ⟨v, ps, hrun, hv⟩ := h1.lookup (int_keyed hk) ht hz (zd := .held z) rfl (keyOf_int_mk hk hi)
  rw [h3] at hv
  rw [hrun]
  simp only [Option.some.injEq, Prod.mk.injEq, DataW.held.injEq] at hv
  rw [hv.1]
theorem RawMap.drew (h : RawMap P k w b n z V) : RawMap P k w.drew b n z V := h.block rfl
theorem RawMap.put (h : RawMap P k w b n z V) (ht : P.underlying t = some (.map k e)) (hk : P.underlying k = some (.int .i64)) (hn : n < 9223372036854775807) {i : Int} (u : Value) (hi : (Lit.int .i64 i).wf = true) :
    ∃ w', (Instr.mapUpdate t (.map (some b)) (.int .i64 i) u).run P w = .ok () w' ∧ RawMap P k w' b (n + 1) z (fun r => if r = i then u else V r) ∧ w.grownBy w' (some b) := by
  obtain ⟨D, h1, h2, h3⟩ := h
  obtain ⟨w', hrun, r1, r2⟩ := h1.update (int_keyed hk) ht (by unfold maxLen; omega) (keyOf_int_mk hk hi) (val := u) (d := .held u) (ps := []) rfl
  refine ⟨w', hrun, ⟨_, r1, h2.put _ _, fun r => ?_⟩, r2⟩
  by_cases hr : r = i
  · subst hr
    rw [Maps.atKey_put_same h2 (by simp [WideAt.IsKeyLit])]; simp
  · rw [Maps.atKey_put_other (fun h => hr (by injection h)), h3]; simp [hr]
theorem wpList_put_raw {ops : Array Oper} {rest : List Oper} {o : Oper} {a : Act} {Q : Exit → Act → World → Prop}
    (hg : o.guard = none) (mo x v : Operand) (t : TypeId) (hop : o.op = Op.mapUpdate t mo x v)
    (k e : TypeId) (ht : P.underlying t = some (.map k e)) (hk : P.underlying k = some (.int .i64)) (b n : Nat) (z : Value) (V : Int → Value)
    (hm : a.eval mo = .map (some b)) (hown : RawMap P k w b n z V) (hn : n < 9223372036854775807) (i : Int) (u : Value) (hx : a.eval x = .int .i64 i) (hv : a.eval v = u) (hi : (Lit.int .i64 i).wf = true)
    (hK : ∀ w', RawMap P k w' b (n + 1) z (fun r => if r = i then u else V r) → w.grownBy w' (some b) → wpList P ops Q rest (a.put o.dst undef) w') :
    wpList P ops Q (o :: rest) a w := by
  obtain ⟨D, h1, h2, h3⟩ := hown
  refine wpList_mapUpdate_own w hg mo x v t hop k e (int_keyed hk) ht _ b n D hm h1 (by unfold maxLen; omega) _ _ _ hx hv (keyOf_int_mk hk hi) (.held u) [] rfl fun w' r1 r2 => hK w' ⟨_, r1, h2.put _ _, fun r => ?_⟩ r2
  by_cases hr : r = i
  · subst hr
    rw [Maps.atKey_put_same h2 (by simp [WideAt.IsKeyLit])]; simp
  · rw [Maps.atKey_put_other (fun h => hr (by injection h)), h3]; simp [hr]
end

section
variable {α : Type} {c : α → List Value} {k : Nat} {w w' : World} {lo : Nat} {e : TypeId} {v : Value} {xs : List α}
/-- a row stands where another block turns -/
theorem Grow.kept {row : Option Nat} (h : Grow c k w lo e v xs) (hg : w.grownBy w' row) (hne : ∀ g, v.ownBlock = some g → some g ≠ row) : Grow c k w' lo e v xs := by
  refine ⟨h.1, ?_⟩
  rcases h.2 with h2 | ⟨g, cap, cur, rfl, hg2, hh, r⟩
  · exact .inl h2
  · exact .inr ⟨g, cap, cur, rfl, hg2, by rw [hg.block g (heap_lt hh) (hne g rfl)]; exact hh, r⟩
/-- append(xs, x) at the operation, and where the new row lies -/
theorem wpList_snoc_at {P : Program} {ops : Array Oper} {rest : List Oper} {o : Oper} {a : Act} {Q : Exit → Act → World → Prop} (w : World) (hgd : o.guard = none) (s x : Operand) (t : TypeId)
    (ho : o.op = .call { callee := .builtin .append, args := #[s, x], argTypes := #[t, t] })
    (lo : Nat) (e : TypeId) (z : Value) (bytes : Nat) (ht : P.underlying t = some (.slice e)) (hinfo : (P.info? e).map (fun i => (i.zero, i.size, i.bytes)) = some (some z, k, bytes)) (hzs : z.cells.size = k) (hk : 0 < k)
    (v : Value) (xs : List α) (y : α) (hs : a.eval s = v) (hown : Grow c k w lo e v xs) (g : Nat) (cs : Array Value) (hx : a.eval x = .slice (some ⟨g, 0, none⟩) 1 1) (hg : w.heap[g]? = some (.cells cs e (0, 0)))
    (hcy : c y = cs.toList) (hlen : (c y).length = k) (h1 : ∀ u ∈ c y, u.oneCell' = true) (h63 : xs.length + 1 ≤ 4194304) (hbytes : bytes ≤ 4096) (hbase : lo ≤ w.heap.size)
    (h : ∀ v' w', Grow c k w' lo e v' (xs ++ [y]) → w.grownBy w' v.ownBlock → (v'.ownBlock = v.ownBlock ∨ v'.ownBlock = some w.heap.size) → wpList P ops Q rest (a.put o.dst v') w') : wpList P ops Q (o :: rest) a w := by
  obtain ⟨i0, hi, hz0, hz1, hz2⟩ := info_parts hinfo
  refine wpList_append_own_at w hgd s x t ho lo e i0 z k bytes ht hi hz0 hz1 hz2 hzs hk v xs.length (xs.flatMap c) hs hown ⟨g, 0, none⟩ 1 1 (c y) hx (by omega) (fun j u hu => ?_) h1 (by unfold maxLen; omega)
    (Nat.le_trans (Nat.mul_le_mul h63 hbytes) (by decide)) hbase fun v' w' r1 r2 _ r3 => h v' w' (by simpa [Grow] using r1) r2 r3
  have hadd : (⟨g, 0, none⟩ : Addr).add j = ⟨g, j, none⟩ := by unfold Addr.add; split <;> simp_all
  rw [hadd, cell_of_row w g j cs e (0, 0) hg]
  rw [hcy] at hu; simpa using hu
/-- rows of the call's own, one a key, no two in one block -/
structure Groups (c : α → List Value) (k : Nat) (w : World) (lo : Nat) (e : TypeId) (V : Int → Value) (X : Int → List α) : Prop where
  row : ∀ i, Grow c k w lo e (V i) (X i)
  apart : ∀ i j, i ≠ j → ∀ g, (V i).ownBlock = some g → (V j).ownBlock ≠ some g
variable {V : Int → Value} {X X' : Int → List α}
theorem Groups.start (w : World) (lo : Nat) : Groups c k w lo e (fun _ => .slice none 0 0) (fun _ => ([] : List α)) := ⟨fun _ => Grow.nil _ _ _, fun _ _ _ _ h => by cases h⟩
theorem Groups.bel (h : Groups c k w lo e V X) (hb : Below w.heap.size w w') : Groups c k w' lo e V X := ⟨fun i => (h.row i).bel hb, h.apart⟩
theorem Groups.drew (h : Groups c k w lo e V X) : Groups c k w.drew lo e V X := h.bel ((Below.refl _ _).drew)
theorem Groups.alloc (h : Groups c k w lo e V X) (o : Obj) : Groups c k (w.alloc o) lo e V X := h.bel ((Below.refl _ _).alloc (Nat.le_refl _) _)
theorem Groups.map (h : Groups c k w lo e V X) {b : Nat} (hg : w.grownBy w' (some b)) (hb : b < lo) : Groups c k w' lo e V X :=
  ⟨fun i => (h.row i).kept hg (fun g hv hh => by have := ((h.row i).lt g hv).1; cases hh; omega), h.apart⟩
theorem Groups.to (h : Groups c k w lo e V X) (hX : ∀ i, X i = X' i) : Groups c k w lo e V X' := ⟨fun i => by rw [← hX]; exact h.row i, h.apart⟩
/-- one row has grown -/
theorem Groups.put (h : Groups c k w lo e V X) {i : Int} {v' : Value} {ys : List α} (hr : Grow c k w' lo e v' ys) (hg : w.grownBy w' (V i).ownBlock) (hat : v'.ownBlock = (V i).ownBlock ∨ v'.ownBlock = some w.heap.size) :
    Groups c k w' lo e (fun r => if r = i then v' else V r) (fun r => if r = i then ys else X r) := by
  have hlt : ∀ r g, (V r).ownBlock = some g → g < w.heap.size := fun r g hh => ((h.row r).lt g hh).2
  refine ⟨fun r => ?_, fun r s hne g hv => ?_⟩
  · by_cases e : r = i
    · simp only [e, if_true]; exact hr
    · simp only [e, if_false]
      exact (h.row r).kept hg (fun g hv hh => h.apart r i e g hv hh.symm)
  · by_cases e1 : r = i
    · have e2 : s ≠ i := fun hh => hne (by rw [e1, hh])
      simp only [e1, if_true] at hv
      simp only [e2, if_false]
      intro hs
      rcases hat with ha | ha
      · rw [ha] at hv; exact h.apart i s (fun hh => e2 hh.symm) g hv hs
      · rw [ha] at hv; cases hv; have := hlt s _ hs; omega
    · simp only [e1, if_false] at hv
      by_cases e2 : s = i
      · simp only [e2, if_true]
        intro hs
        rcases hat with ha | ha
        · rw [ha] at hs; exact h.apart r i e1 g hv hs
        · rw [ha] at hs; cases hs; have := hlt r _ hv; omega
      · simp only [e2, if_false]
        exact h.apart r s hne g hv
end
end Go.Proofs.Ytdhobglhjdgboaa
