/- The texts of tasks, read by the reference: the plain law. -/
import Derived.Test.YtkegncanmfmmmaaDoorTkLaw
namespace Go.Proofs.YtkegncanmfmmmaaDoor
open Go.RowKit
set_option linter.unusedVariables false
set_option linter.unusedSimpArgs false

structure TkSp (q : List UInt8) (p : Task) : Prop where
  w : ∃ a d l x y, splitB 32 q = [a, craneB, d, liftB, l] ∧ splitB 46 a = [x, [], y] ∧ numO x = some p.start ∧ numO y = some p.stop ∧ numO d = some p.crane ∧ numO l = some p.lift
theorem TkSp.text {q : List UInt8} {p : Task} (h : TkSp q p) : q = tkL p := by
  obtain ⟨a, d, l, x, y, h1, h2, h3, h4, h5, h6⟩ := h.w
  have e1 := join_split 32 q
  have e2 := join_split 46 a
  rw [h1] at e1
  rw [h2] at e2
  have hx := numO_itoa h3
  have hy := numO_itoa h4
  have hd := numO_itoa h5
  have hl := numO_itoa h6
  rw [← e1, ← e2]
  unfold tkL tkWords spanB
  rw [hx, hy, hd, hl]
  simp [Lib.join, Lib.joinTail]
theorem TkSp.of {p : Task} (h : TkB p) : TkSp (tkL p) p := by
  refine ⟨⟨spanB p, Lib.itoa p.crane, Lib.itoa p.lift, Lib.itoa p.start, Lib.itoa p.stop, split_join 32 (tkWords p) (by unfold tkWords; simp) (fun w hw x hx => ((h.bytes w hw).2 x hx).2.1), ?_, h.nums.1, h.nums.2.1, h.nums.2.2.1, h.nums.2.2.2⟩⟩
  have e : spanB p = Lib.join [Lib.itoa p.start, [], Lib.itoa p.stop] [46] := by
    unfold spanB; simp [Lib.join, Lib.joinTail]
  rw [e]
  refine split_join 46 _ (by simp) (fun w hw x hx => ?_)
  simp only [List.mem_cons, List.not_mem_nil, or_false] at hw
  rcases hw with rfl | rfl | rfl
  · exact no_dot h.s0 x hx
  · cases hx
  · exact no_dot h.e0 x hx
theorem TkSp.same {q : List UInt8} {p r : Task} (h : TkSp q p) (k : TkSp q r) : p = r := by
  obtain ⟨a, d, l, x, y, h1, h2, h3, h4, h5, h6⟩ := h.w
  obtain ⟨a', d', l', x', y', k1, k2, k3, k4, k5, k6⟩ := k.w
  rw [h1] at k1
  simp only [List.cons.injEq, and_true, true_and] at k1
  obtain ⟨rfl, rfl, rfl⟩ := k1
  rw [h2] at k2
  simp only [List.cons.injEq, and_true, true_and] at k2
  obtain ⟨rfl, rfl⟩ := k2
  rw [h3] at k3; rw [h4] at k4; rw [h5] at k5; rw [h6] at k6
  cases p; cases r
  simp only [Option.some.injEq] at k3 k4 k5 k6
  subst k3 k4 k5 k6; rfl
theorem split_tasks : ∀ xs : List Task, (∀ p ∈ xs, TkB p) → splitB 10 (tksL xs) = xs.map tkL ++ [[]]
  | [], _ => rfl
  | p :: ps, h => by
    rw [tksL_cons, split_app 10 _ _ (fun x hx => ((h p List.mem_cons_self).line x hx).2), split_tasks ps (fun q hq => h q (List.mem_cons_of_mem _ hq))]
    rfl
theorem join_tasks : ∀ xs : List Task, Lib.join (xs.map tkL ++ [[]]) [10] = tksL xs
  | [] => rfl
  | p :: ps => by
    rw [tksL_cons, ← join_tasks ps, List.map_cons, List.cons_append]
    cases hq : ps.map tkL ++ [[]] with
    | nil => simp at hq
    | cons a t => rw [join_cons2]; simp
def SpTo (s : ByteArray) (ys : List Task) (k : Nat) : Prop := ys.length = k ∧ ∀ (i : Nat) (c : Task), ys[i]? = some c → ∃ w, (spl 10 s)[i]? = some w ∧ TkSp w.data.toList c
theorem SpTo.zero (s : ByteArray) : SpTo s [] 0 := ⟨rfl, fun i c h => by simp at h⟩
theorem SpTo.step {s : ByteArray} {ys : List Task} {k : Nat} {w : ByteArray} {c : Task} (h : SpTo s ys k) (hw : (spl 10 s)[k]? = some w) (hp : TkSp w.data.toList c) : SpTo s (ys ++ [c]) (k + 1) := by
  refine ⟨by rw [List.length_append, h.1]; rfl, fun i d hi => ?_⟩
  by_cases hlt : i < ys.length
  · rw [List.getElem?_append_left hlt] at hi
    exact h.2 i d hi
  · rw [List.getElem?_append_right (by omega), h.1] at hi
    have : i = k := by
      have := (List.getElem?_eq_some_iff.1 hi).1
      have := h.1
      simp at *; omega
    subst this
    simp at hi; subst hi
    exact ⟨w, hw, hp⟩
theorem spl_is {s : ByteArray} {xs : List Task} (h : IsTasks s xs) : (spl 10 s).map (fun x => x.data.toList) = xs.map tkL ++ [[]] := by
  rw [spl_list, h.2, split_tasks xs h.bounds]
theorem spl_count {s : ByteArray} {xs : List Task} (h : IsTasks s xs) : (spl 10 s).length = xs.length + 1 := by
  have := congrArg List.length (spl_is h)
  simpa using this
theorem SpTo.text {s : ByteArray} {ys : List Task} {m : Nat} (h : SpTo s ys m) (hm : (spl 10 s).length = m + 1) {w : ByteArray} (hw : (spl 10 s)[m]? = some w) (hz : w.size = 0) : s.data.toList = tksL ys := by
  have e : (spl 10 s).map (fun x => x.data.toList) = ys.map tkL ++ [[]] := by
    apply List.ext_getElem?
    intro i
    rw [List.getElem?_map]
    by_cases hi : i < ys.length
    · rw [List.getElem?_append_left (by simpa using hi), List.getElem?_map]
      have hy : ys[i]? = some ys[i] := List.getElem?_eq_getElem hi
      obtain ⟨w2, hw2, hp⟩ := h.2 i _ hy
      rw [hw2, hy]
      show some w2.data.toList = some (tkL ys[i])
      rw [hp.text]
    · rw [List.getElem?_append_right (by simp; omega), List.length_map]
      by_cases hi2 : i = m
      · subst hi2
        rw [hw, h.1, Nat.sub_self]
        show some w.data.toList = some []
        rw [empty_text hz]
      · have := h.1
        rw [List.getElem?_eq_none (by omega), List.getElem?_eq_none (by simp; omega)]; rfl
  rw [← join_tasks, ← e, spl_list, join_split]
theorem no_sp {s : ByteArray} {k : Nat} {w : ByteArray} (hk : k + 1 < (spl 10 s).length) (hw : (spl 10 s)[k]? = some w) (hno : ∀ c, ¬ TkSp w.data.toList c) : ¬ ∃ xs, IsTasks s xs := by
  rintro ⟨xs, hx⟩
  have hc := spl_count hx
  have e : ((spl 10 s).map (fun x => x.data.toList))[k]? = some w.data.toList := by rw [List.getElem?_map, hw]; rfl
  have hxx : xs[k]? = some (xs[k]'(by omega)) := List.getElem?_eq_getElem (by omega)
  rw [spl_is hx, List.getElem?_append_left (by simp; omega), List.getElem?_map, hxx] at e
  simp only [Option.map_some, Option.some.injEq] at e
  exact hno _ (by rw [← e]; exact TkSp.of (hx.bounds _ (List.getElem_mem _)))
theorem no_end {s : ByteArray} {m : Nat} (hm : (spl 10 s).length = m + 1) {w : ByteArray} (hw : (spl 10 s)[m]? = some w) (hz : w.size ≠ 0) : ¬ ∃ xs, IsTasks s xs := by
  rintro ⟨xs, hx⟩
  have hc := spl_count hx
  have e : ((spl 10 s).map (fun x => x.data.toList))[m]? = some w.data.toList := by rw [List.getElem?_map, hw]; rfl
  obtain rfl : m = xs.length := by omega
  rw [spl_is hx, List.getElem?_append_right (by simp)] at e
  simp at e
  have h9 : w.data.toList.length = w.size := Array.length_toList
  rw [e] at h9
  first | exact hz (by simpa using h9.symm) | (simp at h9; omega)
theorem tasks_len {xs : List Task} (h : tasksOk xs = true) : xs.length ≤ 40 := by
  unfold tasksOk at h
  simp only [Bool.and_eq_true, decide_eq_true_eq] at h
  exact h.2
theorem no_many {s : ByteArray} (hm : 41 < (spl 10 s).length) : ¬ ∃ xs, IsTasks s xs := by
  rintro ⟨xs, hx⟩
  have hc := spl_count hx
  have := tasks_len hx.1
  omega
theorem SpTo.is {s : ByteArray} {ys : List Task} {m : Nat} (h : SpTo s ys m) (hm : (spl 10 s).length = m + 1) {w : ByteArray} (hw : (spl 10 s)[m]? = some w) (hz : w.size = 0) {xs : List Task} (hx : IsTasks s xs) : xs = ys := by
  have hc := spl_count hx
  apply List.ext_getElem?
  intro i
  by_cases hi : i < ys.length
  · have hy : ys[i]? = some ys[i] := List.getElem?_eq_getElem hi
    obtain ⟨w2, hw2, hp⟩ := h.2 i _ hy
    have hl := h.1
    have hxx : xs[i]? = some (xs[i]'(by omega)) := List.getElem?_eq_getElem (by omega)
    have e : ((spl 10 s).map (fun x => x.data.toList))[i]? = some w2.data.toList := by rw [List.getElem?_map, hw2]; rfl
    rw [spl_is hx, List.getElem?_append_left (by simp; omega), List.getElem?_map, hxx] at e
    simp only [Option.map_some, Option.some.injEq] at e
    rw [← e] at hp
    rw [hxx, hy, (TkSp.of (hx.bounds _ (List.getElem_mem _))).same hp]
  · have hl := h.1
    rw [List.getElem?_eq_none (by omega), List.getElem?_eq_none (by omega)]
end Go.Proofs.YtkegncanmfmmmaaDoor
