/- A row that grows by append, and a call that hands back such a row. No program in sight. -/
import Derived.Test.YtkegncanmfmmmaaDoorWords2
namespace Go.Proofs.YtkegncanmfmmmaaDoor
open Go.RowKit
set_option linter.unusedVariables false

/-- a call that hands back a fresh slice and a code -/
def RetS {α : Type} (c : α → List Value) (k : Nat) (e : TypeId) (xs : List α) (code : Int) (w : World) (en : Ending) (w' : World) : Prop :=
  ∃ A cap, en = .returned (.tuple #[.slice A xs.length cap, .int .i64 code]) ∧ Own c k w' w.heap.size w'.heap.size e A xs.length xs ∧ Below w.heap.size w w'
theorem RetS.nil {α : Type} {c : α → List Value} {k : Nat} {e : TypeId} {code : Int} {w w' : World} (hb : Below w.heap.size w w') : RetS c k e ([] : List α) code w (.returned (.tuple #[.slice none 0 0, .int .i64 code])) w' :=
  ⟨none, 0, rfl, Own.nil _, hb⟩
/-- a row that grows by append: the slice value v owns the records xs -/
def Grow {α : Type} (c : α → List Value) (k : Nat) (w : World) (lo : Nat) (e : TypeId) (v : Value) (xs : List α) : Prop := w.ownsRow lo e k v xs.length (xs.flatMap c)
section
variable {α : Type} {c : α → List Value} {k : Nat} {w w' : World} {lo : Nat} {e : TypeId} {v : Value} {xs : List α}
theorem Grow.nil (w : World) (lo : Nat) (e : TypeId) : Grow c k w lo e (.slice none 0 0) [] := World.ownsRow_nil _ _ _ _
theorem Grow.bel (h : Grow c k w lo e v xs) (hb : Below w.heap.size w w') : Grow c k w' lo e v xs := by
  refine ⟨h.1, ?_⟩
  rcases h.2 with h2 | ⟨g, cap, cur, hv, hg, hh, r⟩
  · exact .inl h2
  · exact .inr ⟨g, cap, cur, hv, hg, by rw [hb.block g (heap_lt hh)]; exact hh, r⟩
theorem Grow.alloc (h : Grow c k w lo e v xs) (o : Obj) : Grow c k (w.alloc o) lo e v xs := h.bel ((Below.refl _ _).alloc (Nat.le_refl _) _)
theorem Grow.empty (w : World) (lo : Nat) (e : TypeId) (hlo : lo ≤ w.heap.size) : Grow c k (w.alloc (.cells #[] e)) lo e (.slice (some ⟨w.heap.size, 0, none⟩) 0 0) [] := by
  have := World.ownsRow_lit (e := e) (base := lo) (size := k) w #[] 0 hlo (Nat.zero_le _) (by simp)
  simpa [Grow] using this
theorem Grow.lt (h : Grow c k w lo e v xs) : ∀ g, v.ownBlock = some g → lo ≤ g ∧ g < w.heap.size := World.ownsRow.lt h
/-- a world that only the row and new blocks have turned is, below lo, as it was -/
theorem Grow.below {B : Nat} {a : World} (h : Grow c k w lo e v xs) (hb : Below B a w) (hg : w.grownBy w' v.ownBlock) (hB : B ≤ lo) (hB2 : B ≤ w.heap.size) : Below B a w' :=
  hb.grown hg hB2 (fun j hj => by have := h.lt j hj; omega)
theorem Grow.own (h : Grow c k w lo e v xs) (hc : ∀ x, (c x).length = k) : ∃ A cap, v = .slice A xs.length cap ∧ Own c k w lo w.heap.size e A xs.length xs := by
  rcases h.2 with ⟨rfl, h0⟩ | ⟨g, cap, cs, rfl, h1, h2, h3, h4, h5, h6⟩
  · have : xs = [] := List.length_eq_zero_iff.1 h0
    subst this
    exact ⟨none, 0, rfl, Own.nil _⟩
  · refine ⟨_, cap, rfl, rfl, fun hn => ⟨g, cs, rfl, h1, heap_lt h2, h2, by rw [h5]; exact Nat.mul_le_mul_right k h3, fun i x hxi j hj => ?_⟩⟩
    have hi : i < xs.length := (List.getElem?_eq_some_iff.1 hxi).1
    have hik : i * k + j < xs.length * k := by
      have : i * k + k ≤ xs.length * k := by rw [← Nat.succ_mul]; exact Nat.mul_le_mul_right k (by omega)
      omega
    rw [← flat_at hc xs i x hxi j hj, ← h6, List.getElem?_take, if_pos hik]
    simp
theorem Grow.rets {xs' : List α} {code : Int} {w0 : World} (h : Grow c k w w0.heap.size e v xs') (hc : ∀ x, (c x).length = k) (hb : Below w0.heap.size w0 w) : RetS c k e xs' code w0 (.returned (.tuple #[v, .int .i64 code])) w := by
  obtain ⟨A, cap, rfl, ho⟩ := h.own hc
  exact ⟨A, cap, rfl, ho, hb⟩
end
theorem ownBlock_eq {g n cap k : Nat} (h : (Value.slice (some ⟨g, 0, none⟩) n cap).ownBlock = some k) : k = g := by
  simp [Value.ownBlock] at h; exact h.symm
/-- append(xs, x) at the operation: x lies in a one-element block g that has just been built. -/
theorem wpList_snoc {α : Type} {P : Program} {c : α → List Value} {k : Nat} (w : World) {ops : Array Oper} {rest : List Oper} {o : Oper} {a : Act} {Q : Exit → Act → World → Prop} (hgd : o.guard = none) (s x : Operand) (t : TypeId)
    (ho : o.op = .call { callee := .builtin .append, args := #[s, x], argTypes := #[t, t] })
    (lo : Nat) (e : TypeId) (z : Value) (bytes : Nat) (ht : P.underlying t = some (.slice e)) (hinfo : (P.info? e).map (fun i => (i.zero, i.size, i.bytes)) = some (some z, k, bytes)) (hzs : z.cells.size = k) (hk : 0 < k)
    (v : Value) (xs : List α) (y : α) (hs : a.eval s = v) (hown : Grow c k w lo e v xs) (g : Nat) (cs : Array Value) (hx : a.eval x = .slice (some ⟨g, 0, none⟩) 1 1) (hg : w.heap[g]? = some (.cells cs e (0, 0)))
    (hcy : c y = cs.toList) (hlen : (c y).length = k) (h1 : ∀ u ∈ c y, u.oneCell' = true) (h63 : xs.length + 1 ≤ 4194304) (hbytes : bytes ≤ 4096) (hbase : lo ≤ w.heap.size)
    (h : ∀ v' w', Grow c k w' lo e v' (xs ++ [y]) → w.grownBy w' v.ownBlock → wpList P ops Q rest (a.put o.dst v') w') : wpList P ops Q (o :: rest) a w := by
  obtain ⟨i0, hi, hz0, hz1, hz2⟩ := info_parts hinfo
  refine wpList_append_own w hgd s x t ho lo e i0 z k bytes ht hi hz0 hz1 hz2 hzs hk v xs.length (xs.flatMap c) hs hown ⟨g, 0, none⟩ 1 1 (c y) hx (by omega) (fun j u hu => ?_) h1 (by unfold maxLen; omega)
    (Nat.le_trans (Nat.mul_le_mul h63 hbytes) (by decide)) hbase fun v' w' r1 r2 _ => h v' w' (by simpa [Grow] using r1) r2
  have hadd : (⟨g, 0, none⟩ : Addr).add j = ⟨g, j, none⟩ := by unfold Addr.add; split <;> simp_all
  rw [hadd, cell_of_row w g j cs e (0, 0) hg]
  rw [hcy] at hu; simpa using hu

end Go.Proofs.YtkegncanmfmmmaaDoor
