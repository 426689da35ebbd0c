/- ReadTasks of the program: the tasks that a text tells, if it tells any. -/
import Derived.Test.YtkegncanmfmmmaaDoorReadTask
import Derived.Maps.AppendAt
import Derived.Deep.AppendLies
import Derived.IntWalk
import Derived.Test.YtkegncanmfmmmaaDoorSteps
namespace Go.Proofs.YtkegncanmfmmmaaDoor
open Go.RowKit Go.Shelf
set_option linter.unusedVariables false
set_option linter.unusedSimpArgs false
attribute [local go_sem] Oper.semAt_some

def RetTks (s : ByteArray) (w : World) (e : Ending) (w' : World) : Prop :=
  Below w.heap.size w w' ∧ ((∃ xs A cap, IsTasks s xs ∧ e = .returned (.tuple #[.slice A xs.length cap, .bool true]) ∧ Own Task.cs 4 w' w.heap.size w'.heap.size 102 A xs.length xs) ∨ ((¬ ∃ xs, IsTasks s xs) ∧ e = .returned (.tuple #[.slice none 0 0, .bool false])))
theorem trim_any (x : ByteArray) (w : World) (hs : x.size ≤ 9223372036854775807) : Calls Tryd.prog 58 #[.string x, .string ⟨#[10]⟩] w fun e w' => e = .returned (.string (trimNL x)) ∧ w = w' := by
  refine (Tryd.strings_TrimSuffix x ⟨#[10]⟩ w hs).mono ?_
  rintro e w' ⟨rfl, rfl⟩
  exact ⟨rfl, rfl⟩
theorem trimNL_size (x : ByteArray) : (trimNL x).size ≤ x.size := by
  unfold trimNL
  rw [list_size]
  have h9 : x.data.toList.length = x.size := Array.length_toList
  have := Lib.trimSuffix_le x.data.toList [10]
  omega
theorem linesB_len : ∀ l : List UInt8, (linesB l).length ≤ l.length ∧ ∀ x ∈ linesB l, x.length ≤ l.length
  | [] => ⟨Nat.le_refl _, fun x hx => by cases hx⟩
  | b :: r => by
    obtain ⟨h1, h2⟩ := linesB_len r
    unfold linesB
    split
    · refine ⟨by simp; omega, fun x hx => ?_⟩
      rcases List.mem_cons.1 hx with rfl | hx
      · simp
      · have := h2 x hx; simp; omega
    · cases hl : linesB r with
      | nil => exact ⟨by simp, fun x hx => by rw [List.mem_singleton.1 hx]; simp⟩
      | cons a t =>
        rw [hl] at h1 h2
        refine ⟨by simp at h1 ⊢; omega, fun x hx => ?_⟩
        rcases List.mem_cons.1 hx with rfl | hx
        · have := h2 a List.mem_cons_self; simp; omega
        · have := h2 x (List.mem_cons_of_mem _ hx); simp; omega
theorem lines_len (s : ByteArray) : (linesL s).length ≤ s.size := by
  have h9 : s.data.toList.length = s.size := Array.length_toList
  have := (linesB_len s.data.toList).1
  unfold linesL
  rw [List.length_map]; omega
theorem lines_size (s : ByteArray) : ∀ x ∈ linesL s, x.size ≤ s.size := by
  intro x hx
  have h9 : s.data.toList.length = s.size := Array.length_toList
  unfold linesL at hx
  obtain ⟨l, hl, rfl⟩ := List.mem_map.1 hx
  rw [list_size]
  have := (linesB_len s.data.toList).2 l hl
  omega
theorem keepsFrom_below {B : Nat} {W W' : World} (h : Below W.heap.size W W') : KeepsFrom B W W' := ⟨h.size, fun k o _ hk _ => (h.block k (Array.getElem?_eq_some_iff.1 hk).1).trans hk⟩
/-- what stands between two rounds -/
def RowI (w : World) (s : ByteArray) (k : Nat) (W : World) : Prop :=
  (∃ v, Boxed W (w.heap.size + 2) 55 v ∧ ∃ ys, Grow Task.cs 4 W w.heap.size 102 v ys ∧ TkTo s ys k ∧ ∀ p ∈ ys, p.wf) ∧ (Boxed W w.heap.size 55 (.slice none 0 0) ∧ Boxed W (w.heap.size + 1) 4 (.bool false) ∧ ∃ u, Boxed W (w.heap.size + 3) 9 u) ∧ Below w.heap.size w W
def RowX (w : World) (s : ByteArray) (W : World) : Prop :=
  (Boxed W w.heap.size 55 (.slice none 0 0) ∧ Boxed W (w.heap.size + 1) 4 (.bool false)) ∧ Below w.heap.size w W ∧ ¬ ∃ xs, IsTasks s xs
theorem box_keep {W W' : World} {b : Nat} {t : TypeId} {v : Value} {row : Option Nat} (h : Boxed W b t v) (hg : W.grownBy W' row) (hr : ∀ r, row = some r → ∃ o : Obj, W.heap[r]? = some o ∧ o.isCells = false) : Boxed W' b t v :=
  h.kept hg (fun e => by obtain ⟨o, ho, hc⟩ := hr b e.symm; rw [show W.heap[b]? = _ from h] at ho; cases ho; cases hc)
theorem rowI_own (w : World) (s : ByteArray) (B : Nat) (hB : w.heap.size ≤ B) : OwnFrom B (RowI w s) := by
  rintro k W W' row ⟨⟨v, hv, ys, hr, ht, hw⟩, ⟨b1, b2, u, b3⟩, hb⟩ hg hrow
  have hrow2 := fun r e => (hrow r e).2
  obtain ⟨v', hv', hr', _, rfl⟩ := holdsRow_own w.heap.size (w.heap.size + 2) 55 102 4 (fun ys : List Task => ys.length) (fun ys => ys.flatMap Task.cs) (fun _ z => True ∧ z = v) ys W W' row ⟨v, hv, hr, trivial, rfl⟩ hg hrow2
  exact ⟨⟨v', hv', ys, hr', ht, hw⟩, ⟨box_keep b1 hg hrow2, box_keep b2 hg hrow2, u, box_keep b3 hg hrow2⟩, ownFrom_below (β := Unit) (Nat.le_refl _) hB () W W' row hb hg hrow⟩
theorem rowX_own (w : World) (s : ByteArray) (B : Nat) (hB : w.heap.size ≤ B) : OwnFrom B (fun (_ : Unit) W => RowX w s W) := by
  rintro _ W W' row ⟨⟨b1, b2⟩, hb, hn⟩ hg hrow
  have hrow2 := fun r e => (hrow r e).2
  exact ⟨⟨box_keep b1 hg hrow2, box_keep b2 hg hrow2⟩, ownFrom_below (β := Unit) (Nat.le_refl _) hB () W W' row hb hg hrow, hn⟩
theorem rowI_set {w : World} {s : ByteArray} (k : Nat) (X : World) (z : Value) (h : RowI w s k X) : RowI w s k (X.setCell ⟨w.heap.size + 3, 0, none⟩ z) := by
  obtain ⟨⟨v, hv, ys, hr, ht, hw⟩, ⟨b1, b2, u, b3⟩, hb⟩ := h
  exact ⟨⟨v, hv.other (by omega) z, ys, hr.kept (grownBy_setCell' X _ z) (.inr (b3.not_row (by decide) hr).symm), ht, hw⟩, ⟨b1.other (by omega) z, b2.other (by omega) z, z, b3.set z⟩, hb.setCell (p := ⟨w.heap.size + 3, 0, none⟩) (show w.heap.size ≤ w.heap.size + 3 by omega) z⟩
set_option maxRecDepth 100000 in
set_option maxHeartbeats 3200000 in
theorem readTasks_any (s : ByteArray) (hs : s.size ≤ 1048576) (w : World) (ht : TabW w) (hE : ErrW w) (hM : MaxW w) : Calls Tryd.prog 26 #[.string s] w (RetTks s w) := by
  have HT := Lib.hid ht
  have HE := Lib.hid hE
  have HM := Lib.hid hM
  clear ht hE hM
  refine (callsIn_wide (n := 5)).1 ?_
  have hro : Fence.wide.round = none := rfl
  refine callsIn_of_wp_marks Tryd.func26 rfl trivial ?_ hro
  simp only [Tryd.ntmps26, List.size_toArray, List.length_cons, List.length_nil, Nat.reduceAdd, Nat.reduceSub, Array.replicate_succ, Array.replicate_zero, List.push_toArray, List.append_toArray, List.nil_append, List.cons_append]
  gi_wp2_with fail
  refine ⟨trivial, ?_⟩
  refine (lines_in _ s _).mono ?_
  rintro e w2 ⟨rfl, hw2⟩
  gi_wp2_with fail
  obtain ⟨i0, hi, hz0, hz1, hz2⟩ := info_parts TaskInfo
  have b0 : Boxed w2 w.heap.size 55 (.slice none 0 0) := by rw [hw2]; exact (((Boxed.new w 55 _).alloc _).alloc _).alloc _
  have b1 : Boxed w2 (w.heap.size + 1) 4 (.bool false) := by
    rw [hw2]
    have := Boxed.new (w.alloc (.cells #[.slice none 0 0] 55)) 4 (.bool false)
    rw [World.size_alloc] at this
    exact (this.alloc _).alloc _
  have b2 : Boxed w2 (w.heap.size + 2) 55 (.slice none 0 0) := by
    rw [hw2]
    have := Boxed.new ((w.alloc (.cells #[.slice none 0 0] 55)).alloc (.cells #[.bool false] 4)) 55 (.slice none 0 0)
    rw [World.size_alloc, World.size_alloc] at this
    exact this.alloc _
  have b3 : Boxed w2 (w.heap.size + 3) 9 (.string s) := by
    rw [hw2]
    have := Boxed.new (((w.alloc (.cells #[.slice none 0 0] 55)).alloc (.cells #[.bool false] 4)).alloc (.cells #[.slice none 0 0] 55)) 9 (.string s)
    rwa [World.size_alloc, World.size_alloc, World.size_alloc] at this
  have hB0 : Below w.heap.size w w2 := by rw [hw2]; exact ((((Below.refl _ w).alloc (Nat.le_refl _) _).alloc (by simp) _).alloc (by simp; omega) _).alloc (by simp; omega) _
  have hsz : w2.heap.size = w.heap.size + 4 := by rw [hw2]; simp
  rw [← hw2]
  clear hw2
  have hln := lines_len s
  have hlz := lines_size s
  refine range_rows hro (by omega : 1 ≤ 5) (gf := 104) (lb := #[.pointer (some ⟨w.heap.size + 3, 0, none⟩)]) rfl trivial (enters_of Tryd.func104 (by kernel_rfl) rfl) (by omega : w.heap.size + 3 < w2.heap.size)
    (lines_go (5 - 1) (by omega) (w.heap.size + 3) s hs w2 b3) (fun _ => rfl) (RowI w s) (RowX w s) (rowI_own w s _ (by omega)) (fun k X v h => rowI_set k X v h) (rowX_own w s _ (by omega))
    ⟨⟨_, b2, [], World.ownsRow_nil _ _ _ _, TkTo.zero s, fun p hp => by cases hp⟩, ⟨b0, b1, _, b3⟩, hB0⟩
    (fun x => { tmps := #[.string s, undef, .pointer (some ⟨w.heap.size, 0, none⟩), .pointer (some ⟨w.heap.size + 1, 0, none⟩), .pointer (some ⟨w.heap.size + 2, 0, none⟩), .string x, undef, undef, .string s, .func (.func 104) #[] #[.pointer (some ⟨w.heap.size + 3, 0, none⟩)], .string x, undef, undef, undef, undef, undef, undef, undef, undef, undef, undef, undef, undef, undef, undef, undef, undef, undef, undef, undef, undef, undef, undef], defers := [] })
    ?assign ?body ?done ?stop
  case assign =>
    intro l x W K hK
    gi_wp2
    exact hK
  case body =>
    rintro l k x W ⟨⟨v, hv, ys, hrow, htk, hwf⟩, ⟨bR, bK, u, bS⟩, hB⟩ hx
    have hc := hv.cell
    have hcf := hv.frozen
    have hxs := hlz x (List.mem_of_getElem? hx)
    have hkl := (List.getElem?_eq_some_iff.1 hx).1
    have HYL := Lib.hid htk.1
    have hBs := hB.size
    have HTK := Lib.hid htk
    have HX := Lib.hid hx
    clear htk hx
    gi_wp2_with fail
    refine ⟨trivial, ?_⟩
    refine (CallsIn.inRound l (callsIn_wide.2 (trim_any x _ (by omega)))).mono ?_
    rintro e w3 ⟨rfl, rfl⟩
    gi_wp2_with fail
    refine ⟨trivial, ?_⟩
    refine (CallsIn.inRound l (callsIn_wide.2 (readTask_any (trimNL x) (by have := trimNL_size x; omega) _ (HT.out.bel hB) (HE.out.bel hB) (HM.out.bel hB)))).mono ?_
    rintro e w4 ⟨hb4, ⟨p, hp, hpw, rfl⟩ | ⟨hno, rfl⟩⟩
    · have hs4 := hb4.size
      have HP := Lib.hid hp
      have hb5 : Below W.heap.size W (w4.alloc (.cells #[.int .i64 p.lift, .int .i64 p.crane, .int .i64 p.start, .int .i64 p.stop] 102)) := hb4.alloc hs4 _
      have hv4 : Boxed (w4.alloc (.cells #[.int .i64 p.lift, .int .i64 p.crane, .int .i64 p.start, .int .i64 p.stop] 102)) (w.heap.size + 2) 55 v := (hb5.block _ hv.lt).trans hv
      have bR4 : Boxed (w4.alloc (.cells #[.int .i64 p.lift, .int .i64 p.crane, .int .i64 p.start, .int .i64 p.stop] 102)) w.heap.size 55 (.slice none 0 0) := (hb5.block _ bR.lt).trans bR
      have bK4 : Boxed (w4.alloc (.cells #[.int .i64 p.lift, .int .i64 p.crane, .int .i64 p.start, .int .i64 p.stop] 102)) (w.heap.size + 1) 4 (.bool false) := (hb5.block _ bK.lt).trans bK
      have bS4 : Boxed (w4.alloc (.cells #[.int .i64 p.lift, .int .i64 p.crane, .int .i64 p.start, .int .i64 p.stop] 102)) (w.heap.size + 3) 9 u := (hb5.block _ bS.lt).trans bS
      have hrow4 := Grow.bel hrow hb5
      have hc4 := hv4.cell
      have hf4 := hv4.frozen
      clear hp
      gi_wp2_with (gi_at_builtin; refine wpListIn_append_own _ rfl _ _ 55 rfl w.heap.size 102 i0 _ 4 32 Tryd.underlying55 hi hz0 hz1 hz2 rfl (by decide) v ys.length (ys.flatMap Task.cs) rfl (Grow.alloc hrow4 _) ⟨w4.heap.size + 1, 0, none⟩ 1 1 p.cs rfl rfl (World.news_of_block (cs := #[.int .i64 p.lift, .int .i64 p.crane, .int .i64 p.start, .int .i64 p.stop]) (t := 102) (fr := (0, 0)) (heap_new_at _ _ (by simp))) (Task.cs_one p) (by have := HYL.out; unfold maxLen; omega) (by have := HYL.out; omega) (by simp; omega) ?_; intro v' w5 hown' hgrow _; obtain ⟨g', cap', rfl⟩ := ownsRow_succ hown'; obtain ⟨hv1, hv2, hr2, hk2, hb2⟩ := hv4.appended (by decide) hrow4 (by simp; omega) (by omega) hown' hgrow; have hc1 := hv1.cell; have hf1 := hv1.frozen)
      have hS6 : Boxed (w5.setCell ⟨w.heap.size + 2, 0, none⟩ (.slice (some ⟨g', 0, none⟩) (ys.length + 1) cap')) (w.heap.size + 3) 9 u := ((bS4.alloc _).kept hgrow (bS4.not_row (by decide) hrow4)).other (by omega) _
      have hR6 : Boxed (w5.setCell ⟨w.heap.size + 2, 0, none⟩ (.slice (some ⟨g', 0, none⟩) (ys.length + 1) cap')) w.heap.size 55 (.slice none 0 0) := ((bR4.alloc _).kept hgrow (bR4.not_row (by decide) hrow4)).other (by omega) _
      have hK6 : Boxed (w5.setCell ⟨w.heap.size + 2, 0, none⟩ (.slice (some ⟨g', 0, none⟩) (ys.length + 1) cap')) (w.heap.size + 1) 4 (.bool false) := ((bK4.alloc _).kept hgrow (bK4.not_row (by decide) hrow4)).other (by omega) _
      have hr3 : Grow Task.cs 4 (w5.setCell ⟨w.heap.size + 2, 0, none⟩ (.slice (some ⟨g', 0, none⟩) (ys.length + 1) cap')) w.heap.size 102 (.slice (some ⟨g', 0, none⟩) (ys.length + 1) cap') (ys ++ [p]) := by
        show World.ownsRow _ _ _ _ _ (ys ++ [p]).length ((ys ++ [p]).flatMap Task.cs)
        rw [List.length_append, List.flatMap_append]
        simpa using hr2
      exact ⟨(keepsFrom_below hb5).trans (hk2.from _), (show _ = _ from hS6).trans (show W.heap[w.heap.size + 3]? = _ from bS).symm, ⟨⟨_, hv2, ys ++ [p], hr3, HTK.out.step HX.out HP.out, fun r hr => by
        rcases List.mem_append.1 hr with hr | hr
        · exact hwf r hr
        · rw [List.mem_singleton.1 hr]; exact hpw⟩, ⟨hR6, hK6, u, hS6⟩, (hB.trans (hb5.mono hBs)).trans hb2⟩⟩
    · have hs4 := hb4.size
      have HNO := Lib.hid (no_tasks HX.out hno)
      have hb5 : Below W.heap.size W (w4.alloc (.cells #[.int .i64 0, .int .i64 0, .int .i64 0, .int .i64 0] 102)) := hb4.alloc hs4 _
      have bR4 : Boxed (w4.alloc (.cells #[.int .i64 0, .int .i64 0, .int .i64 0, .int .i64 0] 102)) w.heap.size 55 (.slice none 0 0) := (hb5.block _ bR.lt).trans bR
      have bK4 : Boxed (w4.alloc (.cells #[.int .i64 0, .int .i64 0, .int .i64 0, .int .i64 0] 102)) (w.heap.size + 1) 4 (.bool false) := (hb5.block _ bK.lt).trans bK
      have r0 := bR4.cell
      have r1 := bR4.frozen
      have k0 := bK4.cell
      have k1 := bK4.frozen
      clear hno
      gi_wp2
      exact ⟨(keepsFrom_below hb5).trans (((KeepsOthers.setCell _ _ _).trans (KeepsOthers.setCell _ _ _)).from _), ⟨(bR4.set _).other (by omega) _, (bK4.other (by omega) _).set _⟩, ((hB.trans (hb5.mono hBs)).setCell (p := ⟨w.heap.size, 0, none⟩) (Nat.le_refl _) _).setCell (p := ⟨w.heap.size + 1, 0, none⟩) (Nat.le_succ _) _, HNO.out⟩
  case done =>
    rintro D W hD ⟨⟨v, hv, ys, hrow, htk, hwf⟩, ⟨bR, bK, u, bS⟩, hB⟩ hK
    have hc := hv.cell
    have hBs := hB.size
    have HRW := Lib.hid htk
    have HYZ : Hid (ys.length ≤ 1048576) := by show _ ≤ _; have := htk.1; omega
    obtain ⟨A7, cap7, rfl, ho7⟩ := Grow.own hrow Task.cs_len
    have HAR := Lib.hid (ho7.arr Task.cs_len)
    have HDW : D < W.heap.size := (Array.getElem?_eq_some_iff.1 hK).1
    clear htk hv ho7
    cases hok : tasksOk ys
    · have HNO : Hid (¬ ∃ xs, IsTasks s xs) := by
        rintro ⟨xs, hx⟩
        have e := HRW.out.whole hx
        have := hx.1
        rw [e, hok] at this; cases this
      have HOK := Lib.hid hok
      clear hok
      gi_wp2_with fail
      refine ⟨trivial, ?_⟩
      refine (callsIn_wide.2 (validTasks_eq A7 ys.length cap7 ys _ w.heap.size HAR.out HYZ.out HOK.out)).mono ?_
      rintro e w6 ⟨rfl, hb6⟩
      have bR6 : Boxed w6 w.heap.size 55 (.slice none 0 0) := (hb6.block _ bR.lt).trans bR
      have bK6 : Boxed w6 (w.heap.size + 1) 4 (.bool false) := (hb6.block _ bK.lt).trans bK
      have hK6 := (hb6.block _ HDW).trans hK
      have r0 := bR6.cell
      have r1 := bR6.frozen
      have k0 := bK6.cell
      have k1 := bK6.frozen
      have hB6 := hB.trans (hb6.mono hBs)
      gi_wp2
      refine ⟨trivial, ?_⟩
      gi_wp2
      have hW8 : KeepsOthers w6 ((w6.setCell ⟨w.heap.size, 0, none⟩ (.slice none 0 0)).setCell ⟨w.heap.size + 1, 0, none⟩ (.bool false)) := (KeepsOthers.setCell _ _ _).trans (KeepsOthers.setCell _ _ _)
      have hK8 := hW8.same D _ hK6 rfl
      have bR8 : Boxed ((w6.setCell ⟨w.heap.size, 0, none⟩ (.slice none 0 0)).setCell ⟨w.heap.size + 1, 0, none⟩ (.bool false)) w.heap.size 55 (.slice none 0 0) := (bR6.set _).other (by omega) _
      have bK8 : Boxed ((w6.setCell ⟨w.heap.size, 0, none⟩ (.slice none 0 0)).setCell ⟨w.heap.size + 1, 0, none⟩ (.bool false)) (w.heap.size + 1) 4 (.bool false) := (bK6.other (by omega) _).set _
      have hB8 := (hB6.setCell (p := ⟨w.heap.size, 0, none⟩) (Nat.le_refl _) (.slice none 0 0)).setCell (p := ⟨w.heap.size + 1, 0, none⟩) (Nat.le_succ _) (.bool false)
      refine ⟨by simp, .inl ⟨_, _, rfl, run_takeDeferred hK8, ?_⟩⟩
      have q0 := (Boxed.cell (box_keep bR8 (grownBy_putObj' _ D (.deferred none)) (fun r e => by cases e; exact ⟨_, hK8, rfl⟩)))
      have q1 := (Boxed.cell (box_keep bK8 (grownBy_putObj' _ D (.deferred none)) (fun r e => by cases e; exact ⟨_, hK8, rfl⟩)))
      refine ⟨.tuple #[.slice none 0 0, .bool false], by simp [results, Tryd.results26, go_sem, q0, q1], ?_⟩
      exact ⟨hB8.trans (belowK_b (w := w) (Nat.le_refl _) _ D _ (.deferred none) (by omega) hK8 rfl rfl), .inr ⟨HNO.out, rfl⟩⟩
    · have HOK := Lib.hid hok
      have hcm : tksS ys = ⟨(tksL ys).toArray⟩ := by unfold tksS; rw [hok]; rfl
      have HCM := Lib.hid hcm
      clear hok hcm
      gi_wp2_with fail
      refine ⟨trivial, ?_⟩
      refine (callsIn_wide.2 (validTasks_eq A7 ys.length cap7 ys _ w.heap.size HAR.out HYZ.out HOK.out)).mono ?_
      rintro e w5 ⟨rfl, hb5⟩
      have hB5 := hB.trans (hb5.mono hBs)
      have hs5 := hb5.size
      have bR5 : Boxed w5 w.heap.size 55 (.slice none 0 0) := (hb5.block _ bR.lt).trans bR
      have bK5 : Boxed w5 (w.heap.size + 1) 4 (.bool false) := (hb5.block _ bK.lt).trans bK
      have hv5 : w5.cell? ⟨w.heap.size + 2, 0, none⟩ = some (.slice A7 ys.length cap7) := (hb5.cell (p := ⟨w.heap.size + 2, 0, none⟩) (by show w.heap.size + 2 < W.heap.size; omega)).trans hc
      have HAR5 := Lib.hid ((HAR.out.below hb5).more hs5)
      have hK5 := (hb5.block _ HDW).trans hK
      have hrow5 := Grow.bel hrow hb5
      gi_wp2_with fail
      refine ⟨trivial, ?_⟩
      refine (callsIn_wide.2 (tasksText_any A7 ys.length cap7 ys _ w.heap.size HAR5.out HYZ.out hwf (HT.out.bel hB5))).mono ?_
      rintro e w6 ⟨rfl, hb6⟩
      have bR6 : Boxed w6 w.heap.size 55 (.slice none 0 0) := (hb6.block _ bR5.lt).trans bR5
      have bK6 : Boxed w6 (w.heap.size + 1) 4 (.bool false) := (hb6.block _ bK5.lt).trans bK5
      have hK6 := (hb6.block _ (Nat.lt_of_lt_of_le HDW hs5)).trans hK5
      have hv6 : w6.cell? ⟨w.heap.size + 2, 0, none⟩ = some (.slice A7 ys.length cap7) := (hb6.cell (p := ⟨w.heap.size + 2, 0, none⟩) (by show w.heap.size + 2 < w5.heap.size; omega)).trans hv5
      have hrow6 := Grow.bel hrow5 hb6
      have r0 := bR6.cell
      have r1 := bR6.frozen
      have k0 := bK6.cell
      have k1 := bK6.frozen
      have hB6 := hB5.trans (hb6.mono (Nat.le_trans hBs hs5))
      by_cases heq : tksS ys = s
      · have HIS : Hid (IsTasks s ys) := ⟨HOK.out, by rw [← heq, HCM.out]⟩
        have hne : ((tksS ys).toList == s.toList) = true := by rw [heq]; simp
        clear heq
        gi_wp2
        have hW8 : KeepsOthers w6 ((w6.setCell ⟨w.heap.size, 0, none⟩ (.slice A7 ys.length cap7)).setCell ⟨w.heap.size + 1, 0, none⟩ (.bool true)) := (KeepsOthers.setCell _ _ _).trans (KeepsOthers.setCell _ _ _)
        have hK8 := hW8.same D _ hK6 rfl
        have bR8 : Boxed ((w6.setCell ⟨w.heap.size, 0, none⟩ (.slice A7 ys.length cap7)).setCell ⟨w.heap.size + 1, 0, none⟩ (.bool true)) w.heap.size 55 (.slice A7 ys.length cap7) := (bR6.set _).other (by omega) _
        have bK8 : Boxed ((w6.setCell ⟨w.heap.size, 0, none⟩ (.slice A7 ys.length cap7)).setCell ⟨w.heap.size + 1, 0, none⟩ (.bool true)) (w.heap.size + 1) 4 (.bool true) := (bK6.other (by omega) _).set _
        have hr7 : Grow Task.cs 4 (w6.setCell ⟨w.heap.size, 0, none⟩ (.slice A7 ys.length cap7)) w.heap.size 102 (.slice A7 ys.length cap7) ys := World.ownsRow.kept hrow6 (grownBy_setCell' w6 _ _) (.inr (bR6.not_row (by decide) hrow6).symm)
        have hr8 : Grow Task.cs 4 ((w6.setCell ⟨w.heap.size, 0, none⟩ (.slice A7 ys.length cap7)).setCell ⟨w.heap.size + 1, 0, none⟩ (.bool true)) w.heap.size 102 (.slice A7 ys.length cap7) ys := World.ownsRow.kept hr7 (grownBy_setCell' _ _ _) (.inr ((bK6.other (B' := w.heap.size) (by omega) (.slice A7 ys.length cap7)).not_row (by decide) hr7).symm)
        have hr9 := ownsRow_putObj hr8 (.deferred none) hK8 rfl
        obtain ⟨A9, c9, e9, ho9⟩ := Grow.own hr9 Task.cs_len
        cases e9
        have hB8 := (hB6.setCell (p := ⟨w.heap.size, 0, none⟩) (Nat.le_refl _) (.slice A7 ys.length cap7)).setCell (p := ⟨w.heap.size + 1, 0, none⟩) (Nat.le_succ _) (.bool true)
        refine ⟨by simp, .inl ⟨_, _, rfl, run_takeDeferred hK8, ?_⟩⟩
        have q0 := (Boxed.cell (box_keep bR8 (grownBy_putObj' _ D (.deferred none)) (fun r e => by cases e; exact ⟨_, hK8, rfl⟩)))
        have q1 := (Boxed.cell (box_keep bK8 (grownBy_putObj' _ D (.deferred none)) (fun r e => by cases e; exact ⟨_, hK8, rfl⟩)))
        refine ⟨.tuple #[.slice A7 ys.length cap7, .bool true], by simp [results, Tryd.results26, go_sem, q0, q1], ?_⟩
        exact ⟨hB8.trans (belowK_b (w := w) (Nat.le_refl _) _ D _ (.deferred none) (by omega) hK8 rfl rfl), .inl ⟨ys, A7, cap7, HIS.out, rfl, ho9⟩⟩
      · have HNO : Hid (¬ ∃ xs, IsTasks s xs) := by
          rintro ⟨xs, hx⟩
          have e := HRW.out.whole hx
          rw [e] at hx
          apply heq
          rw [HCM.out]
          apply ByteArray.ext
          show (tksL ys).toArray = s.data
          rw [← hx.2]
        have hne : ((tksS ys).toList == s.toList) = false := text_ne heq
        clear heq
        gi_wp2
        have hW8 : KeepsOthers w6 ((w6.setCell ⟨w.heap.size, 0, none⟩ (.slice none 0 0)).setCell ⟨w.heap.size + 1, 0, none⟩ (.bool false)) := (KeepsOthers.setCell _ _ _).trans (KeepsOthers.setCell _ _ _)
        have hK8 := hW8.same D _ hK6 rfl
        have bR8 : Boxed ((w6.setCell ⟨w.heap.size, 0, none⟩ (.slice none 0 0)).setCell ⟨w.heap.size + 1, 0, none⟩ (.bool false)) w.heap.size 55 (.slice none 0 0) := (bR6.set _).other (by omega) _
        have bK8 : Boxed ((w6.setCell ⟨w.heap.size, 0, none⟩ (.slice none 0 0)).setCell ⟨w.heap.size + 1, 0, none⟩ (.bool false)) (w.heap.size + 1) 4 (.bool false) := (bK6.other (by omega) _).set _
        have hB8 := (hB6.setCell (p := ⟨w.heap.size, 0, none⟩) (Nat.le_refl _) (.slice none 0 0)).setCell (p := ⟨w.heap.size + 1, 0, none⟩) (Nat.le_succ _) (.bool false)
        refine ⟨by simp, .inl ⟨_, _, rfl, run_takeDeferred hK8, ?_⟩⟩
        have q0 := (Boxed.cell (box_keep bR8 (grownBy_putObj' _ D (.deferred none)) (fun r e => by cases e; exact ⟨_, hK8, rfl⟩)))
        have q1 := (Boxed.cell (box_keep bK8 (grownBy_putObj' _ D (.deferred none)) (fun r e => by cases e; exact ⟨_, hK8, rfl⟩)))
        refine ⟨.tuple #[.slice none 0 0, .bool false], by simp [results, Tryd.results26, go_sem, q0, q1], ?_⟩
        exact ⟨hB8.trans (belowK_b (w := w) (Nat.le_refl _) _ D _ (.deferred none) (by omega) hK8 rfl rfl), .inr ⟨HNO.out, rfl⟩⟩
  case stop =>
    rintro D W hD ⟨⟨bR, bK⟩, hB, hno⟩ hK
    have HNO := Lib.hid hno
    clear hno
    gi_wp2
    refine ⟨by simp, .inl ⟨_, _, rfl, run_takeDeferred hK, ?_⟩⟩
    have r0 := (Boxed.cell (box_keep bR (grownBy_putObj' W D (.deferred none)) (fun r e => by cases e; exact ⟨_, hK, rfl⟩)))
    have r1 := (Boxed.cell (box_keep bK (grownBy_putObj' W D (.deferred none)) (fun r e => by cases e; exact ⟨_, hK, rfl⟩)))
    refine ⟨.tuple #[.slice none 0 0, .bool false], by simp [results, Tryd.results26, go_sem, r0, r1], ?_⟩
    exact ⟨hB.trans (belowK_b (w := w) (Nat.le_refl _) W D _ (.deferred none) (by omega) hK rfl rfl), .inr ⟨HNO.out, rfl⟩⟩
end Go.Proofs.YtkegncanmfmmmaaDoor
