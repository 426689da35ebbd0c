/- The texts of tasks, read: the plain law. -/
import Derived.Test.YtkegncanmfmmmaaDoorRdGen
import Derived.Test.YtkegncanmfmmmaaDoorTaskText
import Derived.Test.YtkegncanmfmmmaaDoorLines
namespace Go.Proofs.YtkegncanmfmmmaaDoor
open Go.RowKit
set_option linter.unusedVariables false
set_option linter.unusedSimpArgs false

def craneB : List UInt8 := [99, 114, 97, 110, 101]
def liftB : List UInt8 := [108, 105, 102, 116]
/-- a task's first word -/
def spanB (p : Task) : List UInt8 := Lib.itoa p.start ++ [46, 46] ++ Lib.itoa p.stop
def tkWords (p : Task) : List (List UInt8) := [spanB p, craneB, Lib.itoa p.crane, liftB, Lib.itoa p.lift]
def tkL (p : Task) : List UInt8 := Lib.join (tkWords p) [32]
theorem tkLine_list (p : Task) : (tkLine p).data.toList = tkL p ++ [10] := by
  unfold tkLine tkL tkWords spanB craneB liftB
  simp [decS, Lib.join, Lib.joinTail, List.append_assoc]
structure TkB (p : Task) : Prop where
  s0 : 0 ≤ p.start
  s1 : p.start ≤ 1000000
  e0 : 0 ≤ p.stop
  e1 : p.stop ≤ 1000000
  c0 : 0 ≤ p.crane
  c1 : p.crane ≤ 1000000
  l0 : 0 ≤ p.lift
  l1 : p.lift ≤ 1000000
theorem tkB {p : Task} (h : tOk p = true) : TkB p := by
  unfold tOk tTime inB at h
  simp only [Bool.and_eq_true, decide_eq_true_eq] at h
  constructor <;> omega
theorem TkB.bytes {p : Task} (h : TkB p) : ∀ w ∈ tkWords p, w ≠ [] ∧ ∀ x ∈ w, x.toNat < 128 ∧ x ≠ 32 ∧ x ≠ 10 := by
  have hd : ∀ {n : Int}, 0 ≤ n → ∀ x ∈ Lib.itoa n, x.toNat < 128 ∧ x ≠ 32 ∧ x ≠ 10 := fun hn x hx => by
    have := itoa_nonneg_digits hn x hx
    exact ⟨by omega, fun e => by subst e; have h9 : (32 : UInt8).toNat = 32 := rfl; omega, fun e => by subst e; have h9 : (10 : UInt8).toNat = 10 := rfl; omega⟩
  intro w hw
  simp only [tkWords, List.mem_cons, List.not_mem_nil, or_false] at hw
  rcases hw with rfl | rfl | rfl | rfl | rfl
  · refine ⟨by unfold spanB; simp, fun x hx => ?_⟩
    unfold spanB at hx
    rcases List.mem_append.1 hx with hx | hx
    · rcases List.mem_append.1 hx with hx | hx
      · exact hd h.s0 x hx
      · simp at hx; subst hx; decide
    · exact hd h.e0 x hx
  · exact ⟨by decide, by decide⟩
  · exact ⟨itoa_ne _, hd h.c0⟩
  · exact ⟨by decide, by decide⟩
  · exact ⟨itoa_ne _, hd h.l0⟩
theorem TkB.line {p : Task} (h : TkB p) : ∀ x ∈ tkL p, x.toNat < 128 ∧ x ≠ 10 := by
  refine join_bytes 32 (by decide) _ (fun w hw x hx => ?_)
  have := (h.bytes w hw).2 x hx
  exact ⟨this.1, this.2.2⟩
theorem index_dots : ∀ (u v : List UInt8), (∀ x ∈ u, x ≠ 46) → Lib.index (u ++ 46 :: 46 :: v) [46, 46] = (u.length : Int)
  | [], v, _ => by
    show (if _ then (0 : Int) else _) = _
    rw [if_pos (by simp)]; rfl
  | b :: u, v, h => by
    have hb : b ≠ 46 := h b List.mem_cons_self
    have ih := index_dots u v (fun x hx => h x (List.mem_cons_of_mem _ hx))
    show (if List.isPrefixOf [46, 46] (b :: (u ++ 46 :: 46 :: v)) = true then (0 : Int) else if Lib.index (u ++ 46 :: 46 :: v) [46, 46] == -1 then -1 else Lib.index (u ++ 46 :: 46 :: v) [46, 46] + 1) = _
    have hp : List.isPrefixOf [46, 46] (b :: (u ++ 46 :: 46 :: v)) = false := by
      simp [List.isPrefixOf, Ne.symm hb]
    have h1 : ((u.length : Int) == -1) = false := by rw [beq_eq_false_iff_ne]; omega
    rw [hp, ih, h1]
    simp
theorem no_dot {n : Int} (h : 0 ≤ n) : ∀ x ∈ Lib.itoa n, x ≠ 46 := fun x hx e => by
  subst e
  have := itoa_nonneg_digits h _ hx
  have h9 : (46 : UInt8).toNat = 46 := rfl
  omega
theorem TkB.cut {p : Task} (h : TkB p) : Lib.cut (spanB p) [46, 46] = (Lib.itoa p.start, Lib.itoa p.stop, true) := by
  have e : spanB p = Lib.itoa p.start ++ 46 :: 46 :: Lib.itoa p.stop := by unfold spanB; simp
  unfold Lib.cut
  rw [e, index_dots _ _ (no_dot h.s0), if_pos (by omega)]
  simp
theorem TkB.nums {p : Task} (h : TkB p) : numO (Lib.itoa p.start) = some p.start ∧ numO (Lib.itoa p.stop) = some p.stop ∧ numO (Lib.itoa p.crane) = some p.crane ∧ numO (Lib.itoa p.lift) = some p.lift :=
  ⟨numO_of ⟨by have := h.s0; omega, by have := h.s1; omega⟩, numO_of ⟨by have := h.e0; omega, by have := h.e1; omega⟩, numO_of ⟨by have := h.c0; omega, by have := h.c1; omega⟩, numO_of ⟨by have := h.l0; omega, by have := h.l1; omega⟩⟩

/-- what the program reads out of a line -/
structure TkIn (q : ByteArray) (p : Task) : Prop where
  w : ∃ a c d e l, wordsOf q = [a, c, d, e, l] ∧ numO (Lib.cut a.data.toList [46, 46]).1 = some p.start ∧ numO (Lib.cut a.data.toList [46, 46]).2.1 = some p.stop ∧ numO d.data.toList = some p.crane ∧ numO l.data.toList = some p.lift
theorem TkIn.same {q : ByteArray} {p r : Task} (h : TkIn q p) (k : TkIn q r) : p = r := by
  obtain ⟨a, c, d, e, l, h1, h2, h3, h4, h5⟩ := h.w
  obtain ⟨a', c', d', e', l', k1, k2, k3, k4, k5⟩ := k.w
  rw [h1] at k1
  simp only [List.cons.injEq, and_true] at k1
  obtain ⟨rfl, rfl, rfl, rfl, rfl⟩ := k1
  rw [h2] at k2; rw [h3] at k3; rw [h4] at k4; rw [h5] at k5
  cases p; cases r
  simp only [Option.some.injEq] at k2 k3 k4 k5
  subst k2 k3 k4 k5; rfl
theorem TkIn.of {q : ByteArray} {p : Task} (h : TkB p) (hq : q.data.toList = tkL p) : TkIn q p := by
  have hasc : ∀ (j : Nat) (hj : j < q.size), (q[j]'hj).toNat < 128 := fun j hj => by
    obtain ⟨b, _, hb, e⟩ := drop_at q hj
    rw [e]; exact (h.line b (by rw [← hq]; exact List.mem_of_getElem? hb)).1
  have e1 := fields_fld q hasc
  rw [hq] at e1
  have e2 : fld none (tkL p) = tkWords p := fld_join _ (fun w hw => ⟨(h.bytes w hw).1, fun x hx => ((h.bytes w hw).2 x hx).2.1⟩)
  rw [e2] at e1
  have e3 : wordsOf q = (tkWords p).map fun l => ⟨l.toArray⟩ := by
    apply lists_inj
    rw [List.map_map]
    rw [show (wordsOf q).map (fun x => x.data.toList) = tkWords p from e1]
    exact (List.map_id' _).symm
  refine ⟨_, _, _, _, _, e3, ?_, ?_, ?_, ?_⟩
  · show numO (Lib.cut (spanB p) [46, 46]).1 = _; rw [h.cut]; exact h.nums.1
  · show numO (Lib.cut (spanB p) [46, 46]).2.1 = _; rw [h.cut]; exact h.nums.2.1
  · exact h.nums.2.2.1
  · exact h.nums.2.2.2
def trimNL (x : ByteArray) : ByteArray := ⟨(Lib.trimSuffix x.data.toList [10]).toArray⟩
theorem trimNL_line (p : Task) : (trimNL (tkLine p)).data.toList = tkL p := by
  unfold trimNL Lib.trimSuffix
  rw [tkLine_list]
  have : Lib.hasSuffix (tkL p ++ [10]) [10] = true := by unfold Lib.hasSuffix; simp
  rw [this]; simp

def IsTasks (s : ByteArray) (xs : List Task) : Prop := tasksOk xs = true ∧ s.data.toList = tksL xs
theorem tksL_cons (p : Task) (ps : List Task) : tksL (p :: ps) = tkL p ++ 10 :: tksL ps := by
  unfold tksL
  rw [List.map_cons, List.flatten_cons, tkLine_list]; simp
theorem linesB_app : ∀ (w : List UInt8) (r : List UInt8), (∀ x ∈ w, x ≠ 10) → linesB (w ++ 10 :: r) = (w ++ [10]) :: linesB r
  | [], r, _ => by simp [linesB]
  | b :: w, r, h => by
    show (if b = 10 then _ else match linesB (w ++ 10 :: r) with | [] => [[b]] | x :: xs => (b :: x) :: xs) = _
    rw [if_neg (h b List.mem_cons_self), linesB_app w r (fun x hx => h x (List.mem_cons_of_mem _ hx))]
    rfl
theorem linesB_tasks : ∀ xs : List Task, (∀ p ∈ xs, TkB p) → linesB (tksL xs) = xs.map fun p => (tkLine p).data.toList
  | [], _ => rfl
  | p :: ps, h => by
    rw [tksL_cons, linesB_app _ _ (fun x hx => ((h p List.mem_cons_self).line x hx).2), linesB_tasks ps (fun q hq => h q (List.mem_cons_of_mem _ hq)), List.map_cons, tkLine_list]
theorem IsTasks.bounds {s : ByteArray} {xs : List Task} (h : IsTasks s xs) : ∀ p ∈ xs, TkB p := fun p hp => tkB (tasksOk_mem h.1 hp)
theorem IsTasks.lines {s : ByteArray} {xs : List Task} (h : IsTasks s xs) : linesL s = xs.map tkLine := by
  unfold linesL
  rw [h.2, linesB_tasks xs h.bounds, List.map_map]
  rfl

def TkTo (s : ByteArray) (ys : List Task) (k : Nat) : Prop := ys.length = k ∧ ∀ (i : Nat) (c : Task), ys[i]? = some c → ∃ w, (linesL s)[i]? = some w ∧ TkIn (trimNL w) c
theorem TkTo.zero (s : ByteArray) : TkTo s [] 0 := ⟨rfl, fun i c h => by simp at h⟩
theorem TkTo.step {s : ByteArray} {ys : List Task} {k : Nat} {w : ByteArray} {c : Task} (h : TkTo s ys k) (hw : (linesL s)[k]? = some w) (hp : TkIn (trimNL w) c) : TkTo s (ys ++ [c]) (k + 1) := by
  refine ⟨by rw [List.length_append, h.1]; rfl, fun i d hi => ?_⟩
  by_cases hlt : i < ys.length
  · rw [List.getElem?_append_left hlt] at hi
    exact h.2 i d hi
  · rw [List.getElem?_append_right (by omega), h.1] at hi
    have : i = k := by
      have := (List.getElem?_eq_some_iff.1 hi).1
      have := h.1
      simp at *; omega
    subst this
    simp at hi; subst hi
    exact ⟨w, hw, hp⟩
theorem TkTo.whole {s : ByteArray} {ys xs : List Task} (h : TkTo s ys (linesL s).length) (hx : IsTasks s xs) : xs = ys := by
  have hl := hx.lines
  apply List.ext_getElem?
  intro i
  by_cases hi : i < ys.length
  · have hy : ys[i]? = some ys[i] := List.getElem?_eq_getElem hi
    have hxi : i < xs.length := by have := h.1; rw [hl, List.length_map] at this; omega
    have hxx : xs[i]? = some xs[i] := List.getElem?_eq_getElem hxi
    obtain ⟨w, e1, hp⟩ := h.2 i _ hy
    rw [hl, List.getElem?_map, hxx] at e1
    simp at e1
    subst e1
    have := TkIn.of (hx.bounds _ (List.getElem_mem hxi)) (trimNL_line xs[i])
    rw [hxx, hy, this.same hp]
  · have := h.1; rw [hl, List.length_map] at this
    rw [List.getElem?_eq_none (by omega), List.getElem?_eq_none (by omega)]
theorem no_tasks {s : ByteArray} {k : Nat} {w : ByteArray} (hw : (linesL s)[k]? = some w) (hno : ∀ c, ¬ TkIn (trimNL w) c) : ¬ ∃ xs, IsTasks s xs := by
  rintro ⟨xs, hx⟩
  rw [hx.lines, List.getElem?_map] at hw
  cases hc : xs[k]? with
  | none => rw [hc] at hw; cases hw
  | some c =>
    rw [hc] at hw
    simp at hw
    subst hw
    exact hno c (TkIn.of (hx.bounds _ (List.mem_of_getElem? hc)) (trimNL_line c))
theorem IsTasks.unique {s : ByteArray} {xs ys : List Task} (h : IsTasks s xs) (k : IsTasks s ys) : xs = ys := by
  refine TkTo.whole (ys := ys) ⟨by rw [k.lines, List.length_map], fun i c hc => ⟨tkLine c, by rw [k.lines, List.getElem?_map, hc]; rfl, TkIn.of (k.bounds _ (List.mem_of_getElem? hc)) (trimNL_line c)⟩⟩ h
end Go.Proofs.YtkegncanmfmmmaaDoor
