/- IdleTimes: the plain law, and pairs appended to a slice of slices. -/
import Derived.Test.YtdoinbnnpompiaaByCranes
import Derived.Test.YtdoinbnnpompiaaNN
namespace Go.Proofs.Ytdoinbnnpompiaa
open Go.RowKit
set_option linter.unusedVariables false

def idStep (a : List (List Int) × Int) (t : Task) : List (List Int) × Int := if t.start = t.stop then a else ((if a.2 < t.start then a.1 ++ [[a.2, t.start]] else a.1), max a.2 t.stop)
def idFold (ts : List Task) : List (List Int) × Int := ts.foldl idStep ([], 0)
theorem idFold_snoc (ts : List Task) (t : Task) : idFold (ts ++ [t]) = idStep (idFold ts) t := by unfold idFold; rw [List.foldl_append]; rfl
theorem idFold_take {ts : List Task} {k : Nat} {t : Task} (h : ts[k]? = some t) : idFold (ts.take (k + 1)) = idStep (idFold (ts.take k)) t := by
  rw [List.take_add_one, h, Option.toList_some, idFold_snoc]
theorem idStep_bd {a : List (List Int) × Int} {t : Task} (h : 0 ≤ a.2 ∧ a.2 ≤ 1000000) (ht : tOk t = true) : 0 ≤ (idStep a t).2 ∧ (idStep a t).2 ≤ 1000000 := by
  have := tOk_bounds ht
  unfold idStep; split
  · exact h
  · dsimp only; omega
theorem idFold_bd : ∀ (ts : List Task) (a : List (List Int) × Int), (0 ≤ a.2 ∧ a.2 ≤ 1000000) → (∀ t ∈ ts, tOk t = true) → 0 ≤ (ts.foldl idStep a).2 ∧ (ts.foldl idStep a).2 ≤ 1000000
  | [], a, h, _ => h
  | t :: ts, a, h, ht => by
    rw [List.foldl_cons]
    exact idFold_bd ts _ (idStep_bd h (ht t List.mem_cons_self)) (fun s hs => ht s (List.mem_cons_of_mem _ hs))
theorem idStep_len (a : List (List Int) × Int) (t : Task) : (idStep a t).1.length ≤ a.1.length + 1 := by
  unfold idStep; split
  · omega
  · dsimp only; split
    · simp
    · omega
theorem idFold_len (ts : List Task) : (idFold ts).1.length ≤ ts.length := by
  have h : ∀ (ts : List Task) (a : List (List Int) × Int), (ts.foldl idStep a).1.length ≤ a.1.length + ts.length := by
    intro ts
    induction ts with
    | nil => intro a; simp
    | cons t ts ih => intro a; rw [List.foldl_cons]; have := ih (idStep a t); have := idStep_len a t; simp only [List.length_cons]; omega
  have := h ts ([], 0); simpa [idFold] using this
def endTo (ts : List Task) : Int := ts.foldl (fun m t => max m t.stop) 0
theorem endTo_take {ts : List Task} {k : Nat} {t : Task} (h : ts[k]? = some t) : endTo (ts.take (k + 1)) = max (endTo (ts.take k)) t.stop := by
  unfold endTo; rw [List.take_add_one, h, Option.toList_some, List.foldl_append]; rfl
theorem endTo_bd {ts : List Task} (ht : ∀ t ∈ ts, tOk t = true) : 0 ≤ endTo ts ∧ endTo ts ≤ 1000000 := by
  have h : ∀ (ts : List Task) (a : Int), (∀ t ∈ ts, tOk t = true) → (0 ≤ a ∧ a ≤ 1000000) → 0 ≤ ts.foldl (fun m t => max m t.stop) a ∧ ts.foldl (fun m t => max m t.stop) a ≤ 1000000 := by
    intro ts
    induction ts with
    | nil => intro a _ h; exact h
    | cons t ts ih =>
      intro a ht ha
      rw [List.foldl_cons]
      have := tOk_bounds (ht t List.mem_cons_self)
      exact ih _ (fun s hs => ht s (List.mem_cons_of_mem _ hs)) (by omega)
  exact h ts 0 ht (by omega)
def idEnd (a : List (List Int) × Int) (e : Int) : List (List Int) := if a.2 < e then a.1 ++ [[a.2, e]] else a.1
def idXss (ts : List Task) (crane : Int) : List (List Int) := if tcCode ts crane = 0 then idEnd (idFold (ofCrane ts ts.length crane)) (endTo ts) else []
theorem idXss_len (ts : List Task) (crane : Int) : (idXss ts crane).length ≤ ts.length + 1 := by
  unfold idXss; split
  · have h1 := idFold_len (ofCrane ts ts.length crane)
    have h2 := ofCrane_len ts ts.length crane
    unfold idEnd; split
    · simp; omega
    · omega
  · simp

theorem idXss_small (ts : List Task) (crane : Int) : (idXss ts crane).length ≤ 41 := by
  by_cases h : tcCode ts crane = 0
  · have h1 := tasksOk_len (tcCode_ok h).1
    have h2 := idXss_len ts crane
    omega
  · unfold idXss; rw [if_neg h]; simp
theorem infoRowInt : (Try.prog.info? 27).map (fun i => (i.zero, i.size, i.bytes)) = some (some (.slice none 0 0), 1, 24) := by kernel_rfl
def RowsGrow (w : World) (lo : Nat) (v : Value) (rs : List (Row Int)) : Prop := Grow Row.cs 1 w lo 27 v rs ∧ RowsAll w lo w.heap.size rs ∧ ∀ r ∈ rs, r.n = 2
def RetNN (xss : List (List Int)) (code : Int) (w : World) (e : Ending) (w' : World) : Prop :=
  ∃ A c rs, e = .returned (.tuple #[.slice A rs.length c, .int .i64 code]) ∧ vals rs = xss ∧ (∀ r ∈ rs, r.n = 2) ∧ RowsOwn w' w.heap.size w'.heap.size A rs.length rs ∧ Below w.heap.size w w'
theorem RetNN.nil {code : Int} {w w' : World} (hb : Below w.heap.size w w') : RetNN [] code w (.returned (.tuple #[.slice none 0 0, .int .i64 code])) w' :=
  ⟨none, 0, [], rfl, rfl, (fun r hr => by cases hr), ⟨Own.nil _, fun i r h => by simp at h, fun i j r s _ h => by simp at h⟩, hb⟩
section
variable {w w' : World} {lo : Nat} {v : Value} {rs : List (Row Int)}
theorem RowsGrow.start (w : World) (lo : Nat) : RowsGrow w lo (.slice none 0 0) [] := ⟨Grow.nil _ _ _, ⟨fun i r h => by simp at h, fun i j r s _ h => by simp at h⟩, fun r hr => by cases hr⟩
theorem RowsGrow.empty (w : World) (lo : Nat) (h : lo ≤ w.heap.size) : RowsGrow (w.alloc (.cells #[] 27)) lo (.slice (some ⟨w.heap.size, 0, none⟩) 0 0) [] := ⟨Grow.empty _ _ _ h, ⟨fun i r h => by simp at h, fun i j r s _ h => by simp at h⟩, fun r hr => by cases hr⟩
theorem RowsGrow.bel (h : RowsGrow w lo v rs) (hb : Below w.heap.size w w') : RowsGrow w' lo v rs :=
  ⟨h.1.bel hb, ⟨fun i r hr => ((h.2.1.1 i r hr).bel hb).wide (Nat.le_refl _) hb.size, h.2.1.2⟩, h.2.2⟩
theorem RowsGrow.rets {w0 : World} {code : Int} {xss : List (List Int)} (h : RowsGrow w lo v rs) (hv : vals rs = xss) (hlo : w0.heap.size ≤ lo) (hb : Below w0.heap.size w0 w) : RetNN xss code w0 (.returned (.tuple #[v, .int .i64 code])) w := by
  obtain ⟨A, cap, rfl, ho⟩ := h.1.own Row.cs_len
  exact ⟨A, cap, rs, rfl, hv, h.2.2, ⟨ho.wide hlo (Nat.le_refl _), fun i r hr => (h.2.1.1 i r hr).wide hlo (Nat.le_refl _), h.2.1.2⟩, hb⟩
theorem not_outer {r : Row Int} {hi : Nat} {e : TypeId} {k m : Nat} {xs : List Value} {base : Nat} (hr : RowOwn w lo hi r) (hg : w.ownsRow base 27 k v m xs) : some r.blk ≠ v.ownBlock := by
  obtain ⟨cs, hb⟩ := hr.cs_
  rcases hg.2 with ⟨rfl, _⟩ | ⟨g, cap, cur, rfl, _, hgb, _⟩
  · simp [Value.ownBlock]
  · intro e'
    obtain rfl : r.blk = g := by simpa [Value.ownBlock] using e'
    have := (show w.heap[r.blk]? = _ from hb).symm.trans hgb
    simp at this
abbrev pairRow (g : Nat) (a b : Int) : Row Int := ⟨some ⟨g, 0, none⟩, 2, 2, [a, b]⟩
theorem pair_own (w : World) (lo : Nat) (hlo : lo ≤ w.heap.size) (a b : Int) : RowOwn (w.alloc (.cells #[.int .i64 a, .int .i64 b] 2)) lo (w.heap.size + 1) (pairRow w.heap.size a b) := by
  refine ⟨rfl, hlo, Nat.lt_succ_self _, ⟨rfl, fun _ => ⟨w.heap.size, _, rfl, Nat.le_refl _, Nat.lt_succ_self _, heap_alloc_new w _, by simp, fun i x hx j hj => ?_⟩⟩, Nat.succ_pos 1⟩
  obtain rfl : j = 0 := by omega
  match i, hx with
  | 0, hx => simp at hx; subst hx; rfl
  | 1, hx => simp at hx; subst hx; rfl
  | i + 2, hx => simp at hx
/-- a pair in a block of its own is appended -/
theorem RowsGrow.pair (h : RowsGrow w lo v rs) (hlo : lo ≤ w.heap.size) (a b : Int) {g : Nat} (hg : w.heap.size = g) {o : Obj} {w5 : World} {v' : Value} (hg5 : Grow Row.cs 1 w5 lo 27 v' (rs ++ [pairRow g a b])) (hgr : ((w.alloc (.cells #[.int .i64 a, .int .i64 b] 2)).alloc o).grownBy w5 v.ownBlock) : RowsGrow w5 lo v' (rs ++ [pairRow g a b]) := by
  subst hg
  have hb2 : Below w.heap.size w ((w.alloc (.cells #[.int .i64 a, .int .i64 b] 2)).alloc o) := ((Below.refl _ _).alloc (Nat.le_refl _) _).alloc (by simp) _
  have h2 := h.bel hb2
  have hp : RowOwn ((w.alloc (.cells #[.int .i64 a, .int .i64 b] 2)).alloc o) lo (w.heap.size + 1) (pairRow w.heap.size a b) := (pair_own w lo hlo a b).bel ((Below.refl _ _).alloc (Nat.le_refl _) _)
  have hs2 : ((w.alloc (.cells #[.int .i64 a, .int .i64 b] 2)).alloc o).heap.size = w.heap.size + 2 := by simp
  have hs5 := hgr.size
  have keep : ∀ {r : Row Int} {hi : Nat}, RowOwn ((w.alloc (.cells #[.int .i64 a, .int .i64 b] 2)).alloc o) lo hi r → RowOwn w5 lo hi r := fun {r hi} hr => hr.same (hgr.block _ hr.lt (not_outer (e := 2) hr h2.1))
  refine ⟨hg5, ⟨fun i r hr => ?_, fun i j r s hij hr hs => ?_⟩, fun r hr => ?_⟩
  · rcases Nat.lt_or_ge i rs.length with hi | hi
    · rw [List.getElem?_append_left hi] at hr
      exact (keep (h2.2.1.1 i r hr)).wide (Nat.le_refl _) hs5
    · rw [List.getElem?_append_right hi] at hr
      have h0 : i - rs.length = 0 := by
        rcases Nat.eq_zero_or_pos (i - rs.length) with h9 | h9
        · exact h9
        · rw [List.getElem?_eq_none (by simp; omega)] at hr; cases hr
      rw [h0] at hr
      cases hr
      exact (keep hp).wide (Nat.le_refl _) (by omega)
  · have hrl : ∀ {i : Nat} {r : Row Int}, (rs ++ [pairRow w.heap.size a b])[i]? = some r → (i < rs.length ∧ rs[i]? = some r) ∨ (i = rs.length ∧ r = pairRow w.heap.size a b) := by
      intro i r hr
      rcases Nat.lt_or_ge i rs.length with hi | hi
      · rw [List.getElem?_append_left hi] at hr; exact .inl ⟨hi, hr⟩
      · rw [List.getElem?_append_right hi] at hr
        have h0 : i - rs.length = 0 := by
          rcases Nat.eq_zero_or_pos (i - rs.length) with h9 | h9
          · exact h9
          · rw [List.getElem?_eq_none (by simp; omega)] at hr; cases hr
        rw [h0] at hr
        cases hr
        exact .inr ⟨by omega, rfl⟩
    rcases hrl hr with ⟨h1, h3⟩ | ⟨h1, h3⟩
    · rcases hrl hs with ⟨h4, h5⟩ | ⟨h4, h5⟩
      · exact h.2.1.2 i j r s hij h3 h5
      · subst h5
        exact (h.2.1.1 i r h3).lt
    · rcases hrl hs with ⟨h4, h5⟩ | ⟨h4, h5⟩ <;> omega
  · rcases List.mem_append.1 hr with hr | hr
    · exact h.2.2 r hr
    · rw [List.mem_singleton] at hr; subst hr; rfl
theorem vals_snoc (rs : List (Row Int)) (r : Row Int) : vals (rs ++ [r]) = vals rs ++ [r.xs] := by simp [vals]
end

/-- as RetNN, the length said by the plain list -/
def RetNM (xss : List (List Int)) (code : Int) (w : World) (e : Ending) (w' : World) : Prop :=
  ∃ A c rs, e = .returned (.tuple #[.slice A xss.length c, .int .i64 code]) ∧ vals rs = xss ∧ (∀ r ∈ rs, r.n = 2) ∧ RowsOwn w' w.heap.size w'.heap.size A xss.length rs ∧ Below w.heap.size w w'
theorem RetNN.to {xss : List (List Int)} {code : Int} {w w' : World} {e : Ending} (h : RetNN xss code w e w') : RetNM xss code w e w' := by
  obtain ⟨A, c, rs, rfl, h2, h3, h4, h5⟩ := h
  have e : rs.length = xss.length := by rw [← h2, vals_len]
  rw [e] at h4 ⊢
  exact ⟨A, c, rs, rfl, h2, h3, h4, h5⟩
theorem tot_two {rs : List (Row Int)} {xss : List (List Int)} (hv : vals rs = xss) (h : ∀ r ∈ rs, r.n = 2) : tot Row.n rs = 2 * xss.length := by
  have e : rs.length = xss.length := by rw [← hv, vals_len]
  rw [← e]
  clear e hv
  induction rs with
  | nil => rfl
  | cons r rs ih =>
    have h1 := h r List.mem_cons_self
    have h2 := ih (fun s hs => h s (List.mem_cons_of_mem _ hs))
    simp only [tot, List.map_cons, List.sum_cons, List.length_cons] at *
    omega
end Go.Proofs.Ytdoinbnnpompiaa
