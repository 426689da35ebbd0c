/- append, as a step of a region that draws its order, in the words Grow and Arr. No program in sight. -/
import Derived.Test.YtkegncanmfmmmaaDoorGrow2
import Derived.Deep.RegionLaw
namespace Go.Proofs.YtkegncanmfmmmaaDoor
open Go.RowKit
set_option linter.unusedVariables false
section
variable {α : Type} {P : Program} {c : α → List Value} {k : Nat} {w w' : World} {lo hi : Nat} {e : TypeId} {v : Value} {xs ys : List α}
theorem Grow.less {lo' : Nat} (h : Grow c k w lo e v xs) (hB : lo' ≤ lo) : Grow c k w lo' e v xs := by
  refine ⟨h.1, ?_⟩
  rcases h.2 with h2 | ⟨g, cap, cur, hv, hg, r⟩
  · exact .inl h2
  · exact .inr ⟨g, cap, cur, hv, Nat.le_trans hB hg, r⟩
theorem arr_news {ad : Addr} {n : Nat} (harr : Arr c k w lo hi (some ad) n xs) (hlen : ∀ y, (c y).length = k) (hk : 0 < k) : (xs.flatMap c).length = n * k ∧ ∀ j u, (xs.flatMap c)[j]? = some u → w.cell? (ad.add j) = some u := by
  refine ⟨by rw [flat_len hlen, harr.1], fun j u hu => ?_⟩
  have hj : j < n * k := by have := (List.getElem?_eq_some_iff.1 hu).1; rw [flat_len hlen, harr.1] at this; exact this
  have hn : 0 < n := by
    rcases Nat.eq_zero_or_pos n with h | h
    · rw [h] at hj; simp at hj
    · exact h
  obtain ⟨b, off, e1, _, _, hc⟩ := harr.2 hn
  cases e1
  have hdiv : j / k < n := Nat.div_lt_of_lt_mul (by rw [Nat.mul_comm]; exact hj)
  have hx2 : xs[j / k]? = some (xs[j / k]'(by rw [harr.1]; exact hdiv)) := List.getElem?_eq_getElem _
  have hm : j % k < k := Nat.mod_lt _ hk
  have hjj : j / k * k + j % k = j := by rw [Nat.mul_comm]; exact Nat.div_add_mod j k
  have hu2 := flat_at hlen xs (j / k) _ hx2 (j % k) hm
  rw [hjj, hu] at hu2
  have := hc (j / k) _ hx2 (j % k) u hu2.symm
  have hadd : (⟨b, off, none⟩ : Addr).add j = ⟨b, off + j, none⟩ := by unfold Addr.add; split <;> simp_all
  rw [hadd, ← this, Nat.add_assoc, hjj]
theorem Grow.form (h : Grow c k w lo e v xs) : ∃ A cap, v = .slice A xs.length cap := by
  rcases h.2 with ⟨rfl, h0⟩ | ⟨g, cap, cs, rfl, _⟩
  · exact ⟨none, 0, by rw [h0]⟩
  · exact ⟨_, cap, rfl⟩
theorem step_join {ops : Array Oper} {o : Oper} {a : Act} {K : Act → World → Prop} {Q : Exit → Act → World → Prop} {E : Prop} (hgd : o.guard = none) (s x : Operand) (t : TypeId)
    (ho : o.op = .call { callee := .builtin .append, args := #[s, x], argTypes := #[t, t] })
    (lo : Nat) (e : TypeId) (z : Value) (bytes : Nat) (ht : P.underlying t = some (.slice e)) (hinfo : (P.info? e).map (fun i => (i.zero, i.size, i.bytes)) = some (some z, k, bytes)) (hzs : z.cells.size = k) (hk : 0 < k)
    (v : Value) (ys xs : List α) (hs : a.eval s = v) (hown : Grow c k w lo e v ys) (ad : Addr) (n cp : Nat) (hx : a.eval x = .slice (some ad) n cp) (l2 h2 : Nat) (harr : Arr c k w l2 h2 (some ad) n xs)
    (hlen : ∀ y, (c y).length = k) (h1 : ∀ y, ∀ u ∈ c y, u.oneCell' = true) (h63 : ys.length + n ≤ 4194304) (hbytes : bytes ≤ 4096) (hbase : lo ≤ w.heap.size) (m : Nat) (hm : ys.length + n = m)
    (h : ∀ A cap w', Grow c k w' lo e (.slice A m cap) (ys ++ xs) → w.grownBy w' v.ownBlock → K (a.put o.dst (.slice A m cap)) w') :
    if Region.wanted o (yielded ops a.tmps) = true then Oper.wp P o a w K Q else E := by
  have hw : Region.wanted o (yielded ops a.tmps) = true := by simp [Region.wanted, hgd]
  rw [if_pos hw]
  obtain ⟨i0, hi, hz0, hz1, hz2⟩ := info_parts hinfo
  obtain ⟨hfl, hnews⟩ := arr_news harr hlen hk
  refine wp_append_own w s x t ho lo e i0 z k bytes ht hi hz0 hz1 hz2 hzs hk v ys.length (ys.flatMap c) hs hown ad n cp (xs.flatMap c) hx hfl hnews (fun u hu => ?_) (by unfold maxLen; omega)
    (Nat.le_trans (Nat.mul_le_mul h63 hbytes) (by decide)) hbase fun v' w' r1 r2 _ => ?_
  · obtain ⟨y, _, hu⟩ := List.mem_flatMap.1 hu
    exact h1 y u hu
  · have hg : Grow c k w' lo e v' (ys ++ xs) := by have := harr.1; simpa [Grow, this] using r1
    obtain ⟨A, cap, rfl⟩ := hg.form
    have e1 : (ys ++ xs).length = m := by rw [List.length_append, harr.1]; exact hm
    rw [e1] at hg ⊢
    exact h A cap w' hg r2
theorem step_snoc {ops : Array Oper} {o : Oper} {a : Act} {K : Act → World → Prop} {Q : Exit → Act → World → Prop} {E : Prop} (hgd : o.guard = none) (s x : Operand) (t : TypeId)
    (ho : o.op = .call { callee := .builtin .append, args := #[s, x], argTypes := #[t, t] })
    (lo : Nat) (e : TypeId) (z : Value) (bytes : Nat) (ht : P.underlying t = some (.slice e)) (hinfo : (P.info? e).map (fun i => (i.zero, i.size, i.bytes)) = some (some z, k, bytes)) (hzs : z.cells.size = k) (hk : 0 < k)
    (v : Value) (ys : List α) (y : α) (hs : a.eval s = v) (hown : Grow c k w lo e v ys) (g : Nat) (cs : Array Value) (hx : a.eval x = .slice (some ⟨g, 0, none⟩) 1 1) (hg : w.heap[g]? = some (.cells cs e (0, 0)))
    (hcy : c y = cs.toList) (hlen : (c y).length = k) (h1 : ∀ u ∈ c y, u.oneCell' = true) (h63 : ys.length + 1 ≤ 4194304) (hbytes : bytes ≤ 4096) (hbase : lo ≤ w.heap.size) (m : Nat) (hm : ys.length + 1 = m)
    (h : ∀ A cap w', Grow c k w' lo e (.slice A m cap) (ys ++ [y]) → w.grownBy w' v.ownBlock → K (a.put o.dst (.slice A m cap)) w') :
    if Region.wanted o (yielded ops a.tmps) = true then Oper.wp P o a w K Q else E := by
  have hw : Region.wanted o (yielded ops a.tmps) = true := by simp [Region.wanted, hgd]
  rw [if_pos hw]
  obtain ⟨i0, hi, hz0, hz1, hz2⟩ := info_parts hinfo
  refine wp_append_own w s x t ho lo e i0 z k bytes ht hi hz0 hz1 hz2 hzs hk v ys.length (ys.flatMap c) hs hown ⟨g, 0, none⟩ 1 1 (c y) hx (by omega) (fun j u hu => ?_) h1 (by unfold maxLen; omega)
    (Nat.le_trans (Nat.mul_le_mul h63 hbytes) (by decide)) hbase fun v' w' r1 r2 _ => ?_
  · have hadd : (⟨g, 0, none⟩ : Addr).add j = ⟨g, j, none⟩ := by unfold Addr.add; split <;> simp_all
    rw [hadd, cell_of_row w g j cs e (0, 0) hg]
    rw [hcy] at hu; simpa using hu
  · have hg : Grow c k w' lo e v' (ys ++ [y]) := by simpa [Grow] using r1
    obtain ⟨A, cap, rfl⟩ := hg.form
    have e1 : (ys ++ [y]).length = m := by rw [List.length_append]; exact hm
    rw [e1] at hg ⊢
    exact h A cap w' hg r2
end
end Go.Proofs.YtkegncanmfmmmaaDoor
