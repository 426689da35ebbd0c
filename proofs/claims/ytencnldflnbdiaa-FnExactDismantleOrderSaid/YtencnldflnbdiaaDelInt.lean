/- slices.Delete at int64, of one place of a row of the call's own. -/
import Derived.Test.YtencnldflnbdiaaFind
import Derived.Test.YtencnldflnbdiaaRInt64
import Derived.Lib.SliceRun
import Derived.Deep.RegionLaw
import Derived.Shelf.RegionOpenPlain
namespace Go.Proofs.Ytencnldflnbdiaa
open Go.RowKit
set_option linter.unusedVariables false

section
variable {g : Nat} {t : TypeId}
theorem Blk.setCellsI : ∀ (vs : List Value) (o : Nat) (w : World) (cs : Array Value), Blk w g t cs → o + vs.length ≤ cs.size →
    ∃ cs', Blk (w.setCells g o vs) g t cs' ∧ cs'.size = cs.size ∧ (∀ i, (i < o ∨ o + vs.length ≤ i) → cs'[i]? = cs[i]?) ∧ ∀ j, j < vs.length → cs'[o + j]? = vs[j]?
  | [], o, w, cs, h, _ => ⟨cs, h, rfl, fun _ _ => rfl, fun j hj => absurd hj (by simp)⟩
  | v :: r, o, w, cs, h, hs => by
    simp only [List.length_cons] at hs
    obtain ⟨cs', h1, h2, h3, h4⟩ := Blk.setCellsI r (o + 1) (w.setCell ⟨g, o, none⟩ v) (cs.setIfInBounds o v) (h.set_ o v) (by simp; omega)
    refine ⟨cs', h1, by simpa using h2, fun i hi => ?_, fun j hj => ?_⟩
    · simp only [List.length_cons] at hi
      rw [h3 i (by omega), Array.getElem?_setIfInBounds_ne (by omega)]
    · simp only [List.length_cons] at hj
      cases j with
      | zero => rw [h3 _ (by omega), Nat.add_zero, Array.getElem?_setIfInBounds_self_of_lt (by omega)]; rfl
      | succ j =>
        have := h4 j (by omega)
        rw [show o + (j + 1) = o + 1 + j by omega, this]; rfl
theorem Within.setCellsI : ∀ (vs : List Value) (o : Nat) (w : World), Within g (g + 1) w (w.setCells g o vs)
  | [], _, w => Within.refl _ _ _
  | v :: r, o, w => ((Within.refl g (g + 1) w).setCell (p := ⟨g, o, none⟩) (Nat.le_refl _) (Nat.lt_succ_self _) v).trans (Within.setCellsI r (o + 1) _)
end
theorem run_clear_oneI {P : Program} (w : World) (t e ty : TypeId) (z : Value) (ht : P.underlying t = some (.slice e)) (hv : ∀ w, (zeroValue e).run P w = .ok z w) (h1 : ∀ v ∈ z.cells.toList, v.oneCell' = true) (h0 : 0 < z.cells.size) (b o m c : Nat) (hm : m = 1)
    (hc : ∀ j, j < z.cells.size → (w.cell? ⟨b, o + j, none⟩).isSome = true) (hf : ∀ j, j < z.cells.size → w.frozen? ⟨b, o + j, none⟩ = false) :
    (Builtin.clear_ #[t] ty #[.slice (some ⟨b, o, none⟩) m c]).run P w = .ok (.tuple #[]) (w.setCells b o z.cells.toList) := by
  subst hm
  have hzc : (Builtin.zeroCells z.cells 1).toList = z.cells.toList := by
    apply List.ext_getElem
    · simp [Builtin.zeroCells]
    · intro i h1 h2
      have : i < z.cells.size := by simpa using h2
      simp [Builtin.zeroCells, Nat.mod_eq_of_lt this]
      exact getElem!_pos z.cells i this
  have hst := run_storeCells_cells (P := P) b o z.cells.toList 0 w (by simpa using hc) (by simpa using hf) h1
  simp only [Nat.add_zero] at hst
  simp [Builtin.clear_, run_underlying ht, hv, hzc, hst]

theorem zeroInt64 (w : World) : (zeroValue 2).run Try.prog w = .ok (.int .i64 0) w := by kernel_rfl
theorem dflat_len {α : Type} {c : α → List Value} {k : Nat} (hc : ∀ x, (c x).length = k) : ∀ (xs : List α), (xs.flatMap c).length = xs.length * k
  | [] => by simp
  | x :: xs => by rw [List.flatMap_cons, List.length_append, hc, dflat_len hc xs, List.length_cons, Nat.succ_mul]; omega
def DelInt (g : Nat) (n cap i lo hi : Nat) (ps : List Int) (w : World) (e : Ending) (w' : World) : Prop :=
  e = .returned (.slice (some ⟨g, 0, none⟩) (n - 1) cap) ∧ Own ic 1 w' lo hi 2 (some ⟨g, 0, none⟩) (n - 1) (ps.eraseIdx i) ∧ Within g (g + 1) w w'
set_option maxRecDepth 100000 in
set_option maxHeartbeats 3200000 in
theorem deleteInt_any (g n cap i j lo hi : Nat) (ps : List Int) (w : World) (h : Own ic 1 w lo hi 2 (some ⟨g, 0, none⟩) n ps) (hij : Hid (j = i + 1)) (hjn : j ≤ n) (hcap : n ≤ cap) (hcm : cap ≤ 9223372036854775807) :
    Calls Try.prog 45 #[.slice (some ⟨g, 0, none⟩) n cap, .int .i64 (i : Int), .int .i64 (j : Int)] w (DelInt g n cap i lo hi ps w) := by
  have mixed : Try.prog.follows Departure.mixedOrders = true := by kernel_rfl
  have hj1 := hij.out
  obtain ⟨i0, hi0, hz0, hz1, hz2⟩ := info_parts infoInt
  obtain ⟨g', cs, e1, hg1, hg2, hb, hs, hcs⟩ := h.2 (by omega)
  cases e1
  have hl := h.1
  have hB : Blk w g 2 cs := hb
  have hlt : i < j := by omega
  have hin : i < n := by omega
  obtain ⟨news, hnews⟩ : ∃ news, news = (ps.drop j).flatMap ic := ⟨_, rfl⟩
  have hlen : news.length = (n - j) * 1 := by rw [hnews, dflat_len ic_len, List.length_drop, hl]
  have hget : ∀ t u, news[t]? = some u → cs[j * 1 + t]? = some u := by
    intro t u hu
    have ht : t < (n - j) * 1 := by rw [← hlen]; exact (List.getElem?_eq_some_iff.1 hu).1
    have hd : t / 1 < n - j := by omega
    have hx : (ps.drop j)[t / 1]? = some ((ps.drop j)[t / 1]'(by rw [List.length_drop, hl]; exact hd)) := List.getElem?_eq_getElem _
    have h9 := flat_at ic_len (ps.drop j) (t / 1) _ hx (t % 1) (Nat.mod_lt _ (by omega))
    rw [← hnews, show t / 1 * 1 + t % 1 = t by omega, hu] at h9
    rw [List.getElem?_drop] at hx
    have h8 := hcs (j + t / 1) _ hx (t % 1) (Nat.mod_lt _ (by omega))
    rw [← h9, show (j + t / 1) * 1 + t % 1 = j * 1 + t by omega] at h8
    exact h8
  have hc9 : ∀ k, k < n * 1 → (w.cell? ⟨g, k, none⟩).isSome = true ∧ w.frozen? ⟨g, k, none⟩ = false := fun k hk => ⟨by rw [hB.cell, Array.getElem?_eq_getElem (by omega)]; rfl, hB.frozen k⟩
  obtain ⟨A, hA, hsrc⟩ : ∃ A : Addr, (if cap = j then some (⟨g, 0, none⟩ : Addr) else some ⟨g, j, none⟩) = some A ∧ Hid (∀ t u, news[t]? = some u → w.drew.cell? (A.add t) = some u) := by
    by_cases hcj : cap = j
    · refine ⟨⟨g, 0, none⟩, by simp [hcj], fun t u hu => ?_⟩
      have h0 : news.length = 0 := by rw [hlen]; omega
      rw [List.length_eq_zero_iff.1 h0] at hu
      simp at hu
    · refine ⟨⟨g, j, none⟩, by simp [hcj], fun t u hu => ?_⟩
      rw [Addr.add_lit]
      show w.cell? ⟨g, j + t, none⟩ = some u
      rw [hB.cell]; have := hget t u hu; rwa [Nat.mul_one] at this
  have s2 : Hid (∀ u ∈ news, u.oneCell' = true) := by
    intro u hu
    rw [hnews] at hu
    obtain ⟨p, _, hp⟩ := List.mem_flatMap.1 hu
    exact ic_one p u hp
  have s3 : Hid (∀ t, t < news.length → (w.drew.cell? ⟨g, 0 + i * 1 + t, none⟩).isSome = true ∧ w.drew.frozen? ⟨g, 0 + i * 1 + t, none⟩ = false) := by
    intro t ht
    rw [hlen] at ht
    exact hc9 (0 + i * 1 + t) (by omega)
  obtain ⟨cs1, hB1, hs1, hold1, hnew1⟩ := Blk.setCellsI news (0 + i * 1) w.drew cs hB (by rw [hlen]; omega)
  obtain ⟨W1, hW1⟩ : ∃ W1, W1 = w.drew.setCells g (0 + i * 1) news := ⟨_, rfl⟩
  have hwi1 : Within g (g + 1) w W1 := by rw [hW1]; exact ((Within.refl g (g + 1) w).drew).trans (Within.setCellsI _ _ _)
  rw [← hW1] at hB1
  have hzs : (Value.int .i64 0).cells.size = 1 := rfl
  obtain ⟨Z, hZ⟩ : ∃ Z : List Value, Z = (Value.int .i64 0).cells.toList := ⟨_, rfl⟩
  have hZl : Z.length = 1 := by rw [hZ]; rfl
  have hcl : ∀ ty m c, m = 1 → (Builtin.clear_ #[26] ty #[.slice (some ⟨g, (i + (n - j)), none⟩) m c]).run Try.prog W1 = .ok (.tuple #[]) (W1.setCells g ((i + (n - j))) Z) := fun ty m c hm => by
    rw [hZ]
    exact run_clear_oneI W1 _ _ ty _ Try.underlying26 zeroInt64 (by rw [← hZ]; intro v hv; rw [hZ] at hv; exact ic_one 0 v hv) (by rw [hzs]; omega) g _ m c hm
      (fun k hk => by rw [hB1.cell, Array.getElem?_eq_getElem (by rw [hzs] at hk; omega)]; rfl) (fun k hk => hB1.frozen _)
  obtain ⟨cs2, hB2, hs2, hold2, hnew2⟩ := Blk.setCellsI Z ((i + (n - j))) W1 cs1 hB1 (by rw [hZl]; omega)
  have hE : Hid (Own ic 1 (W1.setCells g ((i + (n - j))) Z) lo hi 2 (some ⟨g, 0, none⟩) (n - 1) (ps.eraseIdx i)) := by
    refine ⟨by rw [List.length_eraseIdx_of_lt (by omega)]; omega, fun hn1 => ⟨g, cs2, rfl, hg1, hg2, hB2, by rw [hs2, hs1]; omega, fun m p hp u hu => ?_⟩⟩
    have hm : m < n - 1 := by
      have := (List.getElem?_eq_some_iff.1 hp).1
      rw [List.length_eraseIdx_of_lt (by omega)] at this; omega
    rw [hold2 _ (by omega)]
    rw [List.getElem?_eraseIdx] at hp
    by_cases hmi : m < i
    · rw [if_pos hmi] at hp
      rw [hold1 _ (by omega)]
      exact hcs m p hp u hu
    · rw [if_neg hmi] at hp
      have h7 := hnew1 ((m - i) * 1 + u) (by rw [hlen]; omega)
      rw [show 0 + i * 1 + ((m - i) * 1 + u) = m * 1 + u by omega] at h7
      rw [h7, hnews]
      have hx : (ps.drop j)[m - i]? = some p := by rw [List.getElem?_drop, show j + (m - i) = m + 1 by omega]; exact hp
      exact flat_at ic_len _ _ _ hx u hu
  have hwi2 : Hid (Within g (g + 1) w (W1.setCells g ((i + (n - j))) Z)) := hwi1.trans (Within.setCellsI _ _ _)
  have hW : Hid (W1 = w.drew.setCells g (0 + i * 1) news) := hW1
  have s1 := Lib.hid hlen
  have hic : i ≤ cap := by omega
  have hjc : j ≤ cap := by omega
  have hcl2 := fun ty => hcl ty (n - (i + (n - j))) (cap - (i + (n - j))) (by omega)
  have hlast : Hid (n - 1 = i + (n - j)) := by show _ = _; omega
  have HA9 := Lib.hid hA
  clear hA hW1 hB1 hs1 hold1 hnew1 hB2 hs2 hold2 hnew2 hget hc9 hnews hlen hwi1 hZ hZl hzs hcs hb hB hs hj1 h hcl
  go_enter Try.func45, Try.ntmps45
  go_wp2_with fail
  go_region_law_o (refine step_append_room rfl (.tmp 22) (.tmp 25) 26 rfl 2 i0 1 Try.underlying26 hi0 hz1 g 0 i cap (by simp [Act.eval, Act.put]) A (n - j) (cap - j) news (by simp [Act.eval, Act.put]; exact HA9.out) s1.out hsrc.out s2.out (by omega) s3.out ?_; rw [← hW.out])
  go_wp2
  all_goals
    go_ret
    refine ⟨by rw [hlast.out]; rfl, hE.out, hwi2.out⟩
end Go.Proofs.Ytencnldflnbdiaa
