/- ReadPersons of the program: the persons that a text tells, if it tells any. -/
import Derived.Test.YtkegncanmfmmmaaDoorPsSpLaw
import Derived.Test.YtkegncanmfmmmaaDoorWords2
import Derived.Deep.RegionHeld3
import Derived.StillTailTactics
import Derived.Maps.AppendAt
import Derived.Deep.AppendLies
import Derived.IntWalk
import Derived.Test.YtkegncanmfmmmaaDoorSteps
namespace Go.Proofs.YtkegncanmfmmmaaDoor
open Go.RowKit Go.Shelf
set_option linter.unusedVariables false
set_option linter.unusedSimpArgs false
attribute [local go_sem] Oper.semAt_some

def RetPs (s : ByteArray) (w : World) (e : Ending) (w' : World) : Prop :=
  Below w.heap.size w w' ∧ ((∃ xs A cap, IsPersons s xs ∧ e = .returned (.tuple #[.slice A xs.length cap, .bool true]) ∧ Own Person.cs 3 w' w.heap.size w'.heap.size 92 A xs.length xs) ∨ ((¬ ∃ xs, IsPersons s xs) ∧ e = .returned (.tuple #[.slice none 0 0, .bool false])))
theorem trim_any (x : ByteArray) (w : World) (hs : x.size ≤ 9223372036854775807) : Calls Tryd.prog 58 #[.string x, .string ⟨#[10]⟩] w fun e w' => e = .returned (.string (trimNLp x)) ∧ w = w' := by
  refine (Tryd.strings_TrimSuffix x ⟨#[10]⟩ w hs).mono ?_
  rintro e w' ⟨rfl, rfl⟩
  exact ⟨rfl, rfl⟩
theorem contains_one (x : ByteArray) (c : UInt8) (w : World) {v : Bool} (hv : decide (0 ≤ Lib.indexByte x.data.toList c) = v) : Calls Tryd.prog 60 #[.string x, .string ⟨#[c]⟩] w fun e w' => e = .returned (.bool v) ∧ w = w' := by
  subst hv
  refine (Tryd.strings_Contains_one x c w).mono ?_
  rintro e w' ⟨rfl, rfl⟩
  exact ⟨rfl, rfl⟩
theorem trimNLp_size (x : ByteArray) : (trimNLp x).size ≤ x.size := by
  unfold trimNLp
  rw [list_size]
  have h9 : x.data.toList.length = x.size := Array.length_toList
  have := Lib.trimSuffix_le x.data.toList [10]
  omega
theorem linesB_len : ∀ l : List UInt8, (linesB l).length ≤ l.length ∧ ∀ x ∈ linesB l, x.length ≤ l.length
  | [] => ⟨Nat.le_refl _, fun x hx => by cases hx⟩
  | b :: r => by
    obtain ⟨h1, h2⟩ := linesB_len r
    unfold linesB
    split
    · refine ⟨by simp; omega, fun x hx => ?_⟩
      rcases List.mem_cons.1 hx with rfl | hx
      · simp
      · have := h2 x hx; simp; omega
    · cases hl : linesB r with
      | nil => exact ⟨by simp, fun x hx => by rw [List.mem_singleton.1 hx]; simp⟩
      | cons a t =>
        rw [hl] at h1 h2
        refine ⟨by simp at h1 ⊢; omega, fun x hx => ?_⟩
        rcases List.mem_cons.1 hx with rfl | hx
        · have := h2 a List.mem_cons_self; simp; omega
        · have := h2 x (List.mem_cons_of_mem _ hx); simp; omega
theorem lines_len (s : ByteArray) : (linesL s).length ≤ s.size := by
  have h9 : s.data.toList.length = s.size := Array.length_toList
  have := (linesB_len s.data.toList).1
  unfold linesL
  rw [List.length_map]; omega
theorem lines_size (s : ByteArray) : ∀ x ∈ linesL s, x.size ≤ s.size := by
  intro x hx
  have h9 : s.data.toList.length = s.size := Array.length_toList
  unfold linesL at hx
  obtain ⟨l, hl, rfl⟩ := List.mem_map.1 hx
  rw [list_size]
  have := (linesB_len s.data.toList).2 l hl
  omega
theorem keepsFrom_below {B : Nat} {W W' : World} (h : Below W.heap.size W W') : KeepsFrom B W W' := ⟨h.size, fun k o _ hk _ => (h.block k (Array.getElem?_eq_some_iff.1 hk).1).trans hk⟩
/-- the roles behind k letters -/
def rTo (b : List UInt8) : Nat → Int
  | 0 => 0
  | 1 => rBit b 111 1
  | 2 => rBit b 111 1 + rBit b 115 2
  | _ => rIn b
theorem rBit_cases (b : List UInt8) (c : UInt8) (n : Int) : (decide (0 ≤ Lib.indexByte b c) = true ∧ rBit b c n = n) ∨ (decide (0 ≤ Lib.indexByte b c) = false ∧ rBit b c n = 0) := by
  unfold rBit
  by_cases h : 0 ≤ Lib.indexByte b c
  · exact .inl ⟨decide_eq_true h, if_pos h⟩
  · exact .inr ⟨decide_eq_false h, if_neg h⟩
theorem rTo_step {b : List UInt8} {c : UInt8} {n : Int} {v : Bool} (h : decide (0 ≤ Lib.indexByte b c) = v) : rBit b c n = if v then n else 0 := by
  subst h
  rcases rBit_cases b c n with ⟨h1, h2⟩ | ⟨h1, h2⟩ <;> rw [h1, h2] <;> rfl
theorem rTo_step0 {b : List UInt8} {v : Bool} (h : decide (0 ≤ Lib.indexByte b 111) = v) : rTo b 1 = rTo b 0 + if v then 1 else 0 := by
  show rBit b 111 1 = 0 + _
  rw [rTo_step h]; cases v <;> rfl
theorem rTo_step1 {b : List UInt8} {v : Bool} (h : decide (0 ≤ Lib.indexByte b 115) = v) : rTo b 2 = rTo b 1 + if v then 2 else 0 := by
  show _ + rBit b 115 2 = _ + _
  rw [rTo_step h]; rfl
theorem rTo_step2 {b : List UInt8} {v : Bool} (h : decide (0 ≤ Lib.indexByte b 114) = v) : rTo b 3 = rTo b 2 + if v then 4 else 0 := by
  show _ + rBit b 114 4 = _ + _
  rw [rTo_step h]; rfl
theorem rTo_or0 (b : List UInt8) : bits .or .i64 (rTo b 0) 1 = rTo b 0 + 1 := by show bits .or .i64 0 1 = 0 + 1; decide
theorem rTo_or1 (b : List UInt8) : bits .or .i64 (rTo b 1) 2 = rTo b 1 + 2 := by
  show bits .or .i64 (rBit b 111 1) 2 = rBit b 111 1 + 2
  rcases rBit_cases b 111 1 with ⟨_, h⟩ | ⟨_, h⟩ <;> rw [h] <;> decide
theorem rTo_or2 (b : List UInt8) : bits .or .i64 (rTo b 2) 4 = rTo b 2 + 4 := by
  show bits .or .i64 (rBit b 111 1 + rBit b 115 2) 4 = rBit b 111 1 + rBit b 115 2 + 4
  rcases rBit_cases b 111 1 with ⟨_, h⟩ | ⟨_, h⟩ <;> rcases rBit_cases b 115 2 with ⟨_, h'⟩ | ⟨_, h'⟩ <;> rw [h, h'] <;> decide
theorem rIn_wf (b : List UInt8) : 0 ≤ rIn b ∧ rIn b ≤ 7 := by
  unfold rIn
  rcases rBit_cases b 111 1 with ⟨_, h⟩ | ⟨_, h⟩ <;> rcases rBit_cases b 115 2 with ⟨_, h'⟩ | ⟨_, h'⟩ <;> rcases rBit_cases b 114 4 with ⟨_, h2⟩ | ⟨_, h2⟩ <;> rw [h, h', h2] <;> decide
/-- what stands between two letters: only blocks at and above P are turned, the person lies in P, the letters in the next block -/
def PIn (w5 : World) (a b : ByteArray) (z : Int) (j : Nat) (wr : World) : Prop :=
  Below w5.heap.size w5 wr ∧ Blk wr w5.heap.size 92 #[.string a, .int .i64 (rTo b.data.toList j), .int .i64 z] ∧ Blk wr (w5.heap.size + 1) 9 #[.string ⟨#[111]⟩, .string ⟨#[115]⟩, .string ⟨#[114]⟩]
theorem PIn.same {w5 wr : World} {a b : ByteArray} {z : Int} {j k : Nat} (h : PIn w5 a b z j wr) (e : rTo b.data.toList k = rTo b.data.toList j) : PIn w5 a b z k wr := ⟨h.1, by rw [e]; exact h.2.1, h.2.2⟩
theorem PIn.drew {w5 wr : World} {a b : ByteArray} {z : Int} {j : Nat} (h : PIn w5 a b z j wr) : PIn w5 a b z j wr.drew := ⟨h.1.drew, h.2.1, h.2.2⟩
theorem PIn.set {w5 wr : World} {a b : ByteArray} {z r : Int} {j k : Nat} (h : PIn w5 a b z j wr) (e : rTo b.data.toList k = r) : PIn w5 a b z k (wr.setCell ⟨w5.heap.size, 1, none⟩ (.int .i64 r)) := by
  refine ⟨h.1.setCell (p := ⟨w5.heap.size, 1, none⟩) (Nat.le_refl _) _, ?_, h.2.2.far (p := ⟨w5.heap.size, 1, none⟩) (by simp) _⟩
  have := h.2.1.set_ 1 (.int .i64 r)
  rw [e]
  exact this
/-- what stands between two rounds -/
def RowI (w : World) (s : ByteArray) (k : Nat) (W : World) : Prop :=
  (∃ v, Boxed W (w.heap.size + 2) 50 v ∧ ∃ ys, Grow Person.cs 3 W w.heap.size 92 v ys ∧ PsTo s ys k ∧ ∀ p ∈ ys, p.wf) ∧ (Boxed W w.heap.size 50 (.slice none 0 0) ∧ Boxed W (w.heap.size + 1) 4 (.bool false) ∧ ∃ u, Boxed W (w.heap.size + 3) 9 u) ∧ Below w.heap.size w W
def RowX (w : World) (s : ByteArray) (W : World) : Prop :=
  (Boxed W w.heap.size 50 (.slice none 0 0) ∧ Boxed W (w.heap.size + 1) 4 (.bool false)) ∧ Below w.heap.size w W ∧ ¬ ∃ xs, IsPersons s xs
theorem box_keep {W W' : World} {b : Nat} {t : TypeId} {v : Value} {row : Option Nat} (h : Boxed W b t v) (hg : W.grownBy W' row) (hr : ∀ r, row = some r → ∃ o : Obj, W.heap[r]? = some o ∧ o.isCells = false) : Boxed W' b t v :=
  h.kept hg (fun e => by obtain ⟨o, ho, hc⟩ := hr b e.symm; rw [show W.heap[b]? = _ from h] at ho; cases ho; cases hc)
theorem rowI_own (w : World) (s : ByteArray) (B : Nat) (hB : w.heap.size ≤ B) : OwnFrom B (RowI w s) := by
  rintro k W W' row ⟨⟨v, hv, ys, hr, ht, hw⟩, ⟨b1, b2, u, b3⟩, hb⟩ hg hrow
  have hrow2 := fun r e => (hrow r e).2
  obtain ⟨v', hv', hr', _, rfl⟩ := holdsRow_own w.heap.size (w.heap.size + 2) 50 92 3 (fun ys : List Person => ys.length) (fun ys => ys.flatMap Person.cs) (fun _ z => True ∧ z = v) ys W W' row ⟨v, hv, hr, trivial, rfl⟩ hg hrow2
  exact ⟨⟨v', hv', ys, hr', ht, hw⟩, ⟨box_keep b1 hg hrow2, box_keep b2 hg hrow2, u, box_keep b3 hg hrow2⟩, ownFrom_below (β := Unit) (Nat.le_refl _) hB () W W' row hb hg hrow⟩
theorem rowX_own (w : World) (s : ByteArray) (B : Nat) (hB : w.heap.size ≤ B) : OwnFrom B (fun (_ : Unit) W => RowX w s W) := by
  rintro _ W W' row ⟨⟨b1, b2⟩, hb, hn⟩ hg hrow
  have hrow2 := fun r e => (hrow r e).2
  exact ⟨⟨box_keep b1 hg hrow2, box_keep b2 hg hrow2⟩, ownFrom_below (β := Unit) (Nat.le_refl _) hB () W W' row hb hg hrow, hn⟩
theorem rowI_set {w : World} {s : ByteArray} (k : Nat) (X : World) (z : Value) (h : RowI w s k X) : RowI w s k (X.setCell ⟨w.heap.size + 3, 0, none⟩ z) := by
  obtain ⟨⟨v, hv, ys, hr, ht, hw⟩, ⟨b1, b2, u, b3⟩, hb⟩ := h
  exact ⟨⟨v, hv.other (by omega) z, ys, hr.kept (grownBy_setCell' X _ z) (.inr (b3.not_row (by decide) hr).symm), ht, hw⟩, ⟨b1.other (by omega) z, b2.other (by omega) z, z, b3.set z⟩, hb.setCell (p := ⟨w.heap.size + 3, 0, none⟩) (show w.heap.size ≤ w.heap.size + 3 by omega) z⟩
theorem psIn_no3 {q : ByteArray} (h : (wordsOf q).length ≠ 3) : ∀ p, ¬ PsIn q p := by
  intro p hp
  obtain ⟨b, c, h1, _, _⟩ := hp.w
  rw [h1] at h
  exact h rfl
theorem psIn_nonum {q a b c : ByteArray} (hq : wordsOf q = [a, b, c]) (h : numB c.data.toList = false) : ∀ p, ¬ PsIn q p := by
  intro p hp
  obtain ⟨b', c', h1, h2, _⟩ := hp.w
  rw [hq] at h1
  simp only [List.cons.injEq, and_true] at h1
  obtain ⟨rfl, rfl, rfl⟩ := h1
  have := (num_some h2).2
  rw [h] at this; cases this
theorem psIn_yes {q a b c : ByteArray} (hq : wordsOf q = [a, b, c]) (h : numB c.data.toList = true) : PsIn q ⟨a, rIn b.data.toList, numV c.data.toList⟩ := by
  unfold numB at h
  obtain ⟨x, hx⟩ := Option.isSome_iff_exists.1 h
  refine ⟨⟨b, c, hq, ?_, rfl⟩⟩
  rw [hx, (num_some hx).1]
theorem numV_wf (b : List UInt8) : -9223372036854775808 ≤ numV b ∧ numV b ≤ 9223372036854775807 := by
  cases h : numO b with
  | none => rw [(num_none h).1]; omega
  | some n => have := numO_range h; rw [(num_some h).1]; omega
set_option maxRecDepth 100000 in
set_option maxHeartbeats 6400000 in
theorem readPersons_any (s : ByteArray) (hs : s.size ≤ 1048576) (w : World) (ht : TabW w) (hE : ErrW w) : Calls Tryd.prog 21 #[.string s] w (RetPs s w) := by
  have HT := Lib.hid ht
  have HE := Lib.hid hE
  clear ht hE
  refine (callsIn_wide (n := 5)).1 ?_
  have hro : Fence.wide.round = none := rfl
  refine callsIn_of_wp_marks Tryd.func21 rfl trivial ?_ hro
  simp only [Tryd.ntmps21, List.size_toArray, List.length_cons, List.length_nil, Nat.reduceAdd, Nat.reduceSub, Array.replicate_succ, Array.replicate_zero, List.push_toArray, List.append_toArray, List.nil_append, List.cons_append]
  gi_wp2_with fail
  refine ⟨trivial, ?_⟩
  refine (lines_in _ s _).mono ?_
  rintro e w2 ⟨rfl, hw2⟩
  gi_wp2_with fail
  obtain ⟨i0, hi, hz0, hz1, hz2⟩ := info_parts PersonInfo
  have b0 : Boxed w2 w.heap.size 50 (.slice none 0 0) := by rw [hw2]; exact (((Boxed.new w 50 _).alloc _).alloc _).alloc _
  have b1 : Boxed w2 (w.heap.size + 1) 4 (.bool false) := by
    rw [hw2]
    have := Boxed.new (w.alloc (.cells #[.slice none 0 0] 50)) 4 (.bool false)
    rw [World.size_alloc] at this
    exact (this.alloc _).alloc _
  have b2 : Boxed w2 (w.heap.size + 2) 50 (.slice none 0 0) := by
    rw [hw2]
    have := Boxed.new ((w.alloc (.cells #[.slice none 0 0] 50)).alloc (.cells #[.bool false] 4)) 50 (.slice none 0 0)
    rw [World.size_alloc, World.size_alloc] at this
    exact this.alloc _
  have b3 : Boxed w2 (w.heap.size + 3) 9 (.string s) := by
    rw [hw2]
    have := Boxed.new (((w.alloc (.cells #[.slice none 0 0] 50)).alloc (.cells #[.bool false] 4)).alloc (.cells #[.slice none 0 0] 50)) 9 (.string s)
    rwa [World.size_alloc, World.size_alloc, World.size_alloc] at this
  have hB0 : Below w.heap.size w w2 := by rw [hw2]; exact ((((Below.refl _ w).alloc (Nat.le_refl _) _).alloc (by simp) _).alloc (by simp; omega) _).alloc (by simp; omega) _
  have hsz : w2.heap.size = w.heap.size + 4 := by rw [hw2]; simp
  rw [← hw2]
  clear hw2
  have hln := lines_len s
  have hlz := lines_size s
  refine range_rows hro (by omega : 1 ≤ 5) (gf := 104) (lb := #[.pointer (some ⟨w.heap.size + 3, 0, none⟩)]) rfl trivial (enters_of Tryd.func104 (by kernel_rfl) rfl) (by omega : w.heap.size + 3 < w2.heap.size)
    (lines_go (5 - 1) (by omega) (w.heap.size + 3) s hs w2 b3) (fun _ => rfl) (RowI w s) (RowX w s) (rowI_own w s _ (by omega)) (fun k X v h => rowI_set k X v h) (rowX_own w s _ (by omega))
    ⟨⟨_, b2, [], World.ownsRow_nil _ _ _ _, PsTo.zero s, fun p hp => by cases hp⟩, ⟨b0, b1, _, b3⟩, hB0⟩
    (fun x => { tmps := #[.string s, undef, .pointer (some ⟨w.heap.size, 0, none⟩), .pointer (some ⟨w.heap.size + 1, 0, none⟩), .pointer (some ⟨w.heap.size + 2, 0, none⟩), .string x, undef, undef, undef, undef, undef, undef, .string s, .func (.func 104) #[] #[.pointer (some ⟨w.heap.size + 3, 0, none⟩)], .string x, undef, undef, undef, undef, undef, undef, undef, undef, undef, undef, undef, undef, undef, undef, undef, undef, undef, undef, undef, undef, undef, undef, undef, undef, undef, undef, undef, undef, undef, undef, undef, undef, undef, undef, undef, undef, undef, undef, undef, undef, undef, undef, undef, undef, undef, undef, undef, undef, undef, undef, undef, undef, undef], defers := [] })
    ?assign ?body ?done ?stop
  case assign =>
    intro l x W K hK
    gi_wp2
    exact hK
  case body =>
    rintro l k x W ⟨⟨v, hv, ys, hrow, htk, hwf⟩, ⟨bR, bK, u, bS⟩, hB⟩ hx
    have hc := hv.cell
    have hcf := hv.frozen
    have hxs := hlz x (List.mem_of_getElem? hx)
    have hkl := (List.getElem?_eq_some_iff.1 hx).1
    have HYL := Lib.hid htk.1
    have hBs := hB.size
    have HTK := Lib.hid htk
    have HX := Lib.hid hx
    clear htk hx
    gi_wp2_with fail
    refine ⟨trivial, ?_⟩
    refine (CallsIn.inRound l (callsIn_wide.2 (trim_any x _ (by omega)))).mono ?_
    rintro e w3 ⟨rfl, rfl⟩
    obtain ⟨q, hq⟩ : ∃ q, q = trimNLp x := ⟨_, rfl⟩
    have HQ := Lib.hid hq
    have hqs : q.size ≤ 1048576 := by rw [hq]; have := trimNLp_size x; omega
    have hnl := words_len q
    have HW : Hid (∀ x ∈ wordsOf q, x.size ≤ q.size) := fun x hx => fields_size isBlank q x hx
    rw [← hq]
    clear hq
    obtain ⟨n, hn⟩ : ∃ n, n = (wordsOf q).length := ⟨_, rfl⟩
    gi_wp2_with fail
    refine ⟨trivial, ?_⟩
    refine (CallsIn.inRound l (callsIn_wide.2 (splitWords_any q _ hqs))).mono ?_
    rintro e w4 ⟨A0, cap0, rfl, ho0, hb4⟩
    have HO0 := Lib.hid (ho0.arr wc_len)
    have hs4 := hb4.size
    have HB4 := Lib.hid hb4
    clear ho0 hb4
    rw [← hn] at HO0 hnl ⊢
    have HN := Lib.hid hn
    clear hn
    by_cases h3 : n = 3
    · subst h3
      obtain ⟨a, b, c, hw3⟩ : ∃ a b c, wordsOf q = [a, b, c] := by
        have hh := HN.out
        match hq : wordsOf q, hh with
        | [a, b, c], _ => exact ⟨a, b, c, rfl⟩
      have HW3 := Lib.hid hw3
      have hcz : c.size ≤ 1048576 := Nat.le_trans (HW.out c (by rw [hw3]; simp)) hqs
      have haz : a.size ≤ 1048576 := Nat.le_trans (HW.out a (by rw [hw3]; simp)) hqs
      obtain ⟨g, off, s0, rfl, e0, g1, g2, c0⟩ := wc_at HO0.out (i := 0) (by omega)
      obtain ⟨g', off', s1, hbe, e1, _, _, c1⟩ := wc_at HO0.out (i := 1) (by omega)
      cases hbe
      obtain ⟨g', off', s2, hbe, e2, _, _, c2⟩ := wc_at HO0.out (i := 2) (by omega)
      cases hbe
      rw [hw3] at e0 e1 e2
      simp only [List.getElem?_cons_zero, List.getElem?_cons_succ, Option.some.injEq] at e0 e1 e2
      subst e0; subst e1; subst e2
      rw [Nat.add_zero] at c0
      clear hw3
      gi_wp2_with fail
      refine ⟨trivial, ?_⟩
      refine (CallsIn.inRound l (callsIn_wide.2 (readDecimal_any c _ (by omega) (HT.out.bel (hB.trans (HB4.out.mono hBs))) (HE.out.bel (hB.trans (HB4.out.mono hBs)))))).mono ?_
      rintro e w5 ⟨rfl, hb5⟩
      have hs5 := hb5.size
      have HB5 : Hid (Below W.heap.size W w5) := HB4.out.trans (hb5.mono hs4)
      have c0' := (hb5.cell (p := ⟨g, off, none⟩) g2).trans c0
      have c1' := (hb5.cell (p := ⟨g, off + 1, none⟩) g2).trans c1
      have hgz : g < w5.heap.size := by omega
      obtain ⟨z, hz⟩ : ∃ z, numV c.data.toList = z := ⟨_, rfl⟩
      rw [hz]
      clear hb5 c0 c1 c2
      cases hno : numB c.data.toList
      · have HNO := Lib.hid (no_persons HX.out (by rw [← HQ.out]; exact psIn_nonum HW3.out hno))
        have HB9 := HB5
        clear hno
        have bR9 : Boxed w5 w.heap.size 50 (.slice none 0 0) := (HB9.out.block _ bR.lt).trans bR
        have bK9 : Boxed w5 (w.heap.size + 1) 4 (.bool false) := (HB9.out.block _ bK.lt).trans bK
        have r0 := bR9.cell
        have r1 := bR9.frozen
        have k0 := bK9.cell
        have k1 := bK9.frozen
        gi_wp2
        exact ⟨(keepsFrom_below HB9.out).trans (((KeepsOthers.setCell _ _ _).trans (KeepsOthers.setCell _ _ _)).from _), ⟨(bR9.set _).other (by omega) _, (bK9.other (by omega) _).set _⟩, ((hB.trans (HB9.out.mono hBs)).setCell (p := ⟨w.heap.size, 0, none⟩) (Nat.le_refl _) _).setCell (p := ⟨w.heap.size + 1, 0, none⟩) (Nat.le_succ _) _, HNO.out⟩
      · have HP : Hid (PsIn q ⟨a, rIn b.data.toList, z⟩) := by rw [← hz]; exact psIn_yes HW3.out hno
        have HZW : Hid (-9223372036854775808 ≤ z ∧ z ≤ 9223372036854775807) := by rw [← hz]; exact numV_wf _
        clear hno hz
        have HPI : Hid (PIn w5 a b z 0 ((w5.alloc (.cells #[.string a, .int .i64 0, .int .i64 z] 92)).alloc (.cells #[.string ⟨#[111]⟩, .string ⟨#[115]⟩, .string ⟨#[114]⟩] 9))) := by
          refine ⟨((Below.refl _ w5).alloc (Nat.le_refl _) _).alloc (by simp) _, (Blk.new w5 92 #[.string a, .int .i64 0, .int .i64 z]).alloc _, ?_⟩
          have := Blk.new (w5.alloc (.cells #[.string a, .int .i64 0, .int .i64 z] 92)) 9 #[.string ⟨#[111]⟩, .string ⟨#[115]⟩, .string ⟨#[114]⟩]
          rwa [World.size_alloc] at this
        gi_wp2
        gi_loopw [37] (fun i wr => ∃ j : Nat, j ≤ 3 ∧ i = .int .i64 j ∧ PIn w5 a b z j wr) (fun i _ => 3 - (intOf i).toNat)
        case atStart => exact ⟨0, by omega, rfl, HPI.out⟩
        case round =>
          clear HPI
          obtain ⟨j, hj, rfl, hpi⟩ := hrel
          have HPI := Lib.hid hpi
          have hpb := hpi.2.1
          have hlb := hpi.2.2
          have hwz := hpi.1.size
          have hq1 := (hpi.1.cell (p := ⟨g, off + 1, none⟩) hgz).trans c1'
          have hpf := hpb.frozen 1
          by_cases hj3 : j < 3
          · have hj012 : j = 0 ∨ j = 1 ∨ j = 2 := by omega
            clear hj3
            rcases hj012 with rfl | rfl | rfl
            · have hl := hlb.cell 0
              obtain ⟨r, hr⟩ : ∃ r, rTo b.data.toList 0 = r := ⟨_, rfl⟩
              have hor : bits .or .i64 r 1 = r + 1 := by rw [← hr]; exact rTo_or0 b.data.toList
              have hp1 := hpb.cell 1
              rw [hr] at hp1
              obtain ⟨v9, hin⟩ : ∃ v9, decide (0 ≤ Lib.indexByte b.data.toList 111) = v9 := ⟨_, rfl⟩
              have HIN := Lib.hid hin
              have HR := Lib.hid hr
              clear hpi hr
              cases v9
              · have HRB : Hid (rTo b.data.toList 1 = rTo b.data.toList 0 + 0) := rTo_step0 hin
                clear hin
                gi_wp2_with fail
                refine ⟨trivial, ?_⟩
                refine (CallsIn.inRound l (callsIn_wide.2 (contains_one b 111 wr HIN.out))).mono ?_
                rintro e w6 ⟨rfl, rfl⟩
                gi_wp2
                go_roundw
                case rel => exact ⟨1, by omega, by go_num, HPI.out.same (by rw [HRB.out]; omega)⟩
                case measure => simp [intOf]
              · have HRB : Hid (rTo b.data.toList 1 = rTo b.data.toList 0 + 1) := rTo_step0 hin
                clear hin
                gi_wp2_with fail
                refine ⟨trivial, ?_⟩
                refine (CallsIn.inRound l (callsIn_wide.2 (contains_one b 111 wr HIN.out))).mono ?_
                rintro e w6 ⟨rfl, rfl⟩
                gi_wp2
                gi_region
                all_goals
                  gi_wp2
                  go_roundw
                  case rel => exact ⟨1, by omega, by go_num, HPI.out.drew.set (by rw [HRB.out, HR.out, hor])⟩
                  case measure => simp [intOf]
            · have hl := hlb.cell 1
              obtain ⟨r, hr⟩ : ∃ r, rTo b.data.toList 1 = r := ⟨_, rfl⟩
              have hor : bits .or .i64 r 2 = r + 2 := by rw [← hr]; exact rTo_or1 b.data.toList
              have hp1 := hpb.cell 1
              rw [hr] at hp1
              obtain ⟨v9, hin⟩ : ∃ v9, decide (0 ≤ Lib.indexByte b.data.toList 115) = v9 := ⟨_, rfl⟩
              have HIN := Lib.hid hin
              have HR := Lib.hid hr
              clear hpi hr
              cases v9
              · have HRB : Hid (rTo b.data.toList 2 = rTo b.data.toList 1 + 0) := rTo_step1 hin
                clear hin
                gi_wp2_with fail
                refine ⟨trivial, ?_⟩
                refine (CallsIn.inRound l (callsIn_wide.2 (contains_one b 115 wr HIN.out))).mono ?_
                rintro e w6 ⟨rfl, rfl⟩
                gi_wp2
                go_roundw
                case rel => exact ⟨2, by omega, by go_num, HPI.out.same (by rw [HRB.out]; omega)⟩
                case measure => simp [intOf]
              · have HRB : Hid (rTo b.data.toList 2 = rTo b.data.toList 1 + 2) := rTo_step1 hin
                clear hin
                gi_wp2_with fail
                refine ⟨trivial, ?_⟩
                refine (CallsIn.inRound l (callsIn_wide.2 (contains_one b 115 wr HIN.out))).mono ?_
                rintro e w6 ⟨rfl, rfl⟩
                gi_wp2
                gi_region
                all_goals
                  gi_wp2
                  go_roundw
                  case rel => exact ⟨2, by omega, by go_num, HPI.out.drew.set (by rw [HRB.out, HR.out, hor])⟩
                  case measure => simp [intOf]
            · have hl := hlb.cell 2
              obtain ⟨r, hr⟩ : ∃ r, rTo b.data.toList 2 = r := ⟨_, rfl⟩
              have hor : bits .or .i64 r 4 = r + 4 := by rw [← hr]; exact rTo_or2 b.data.toList
              have hp1 := hpb.cell 1
              rw [hr] at hp1
              obtain ⟨v9, hin⟩ : ∃ v9, decide (0 ≤ Lib.indexByte b.data.toList 114) = v9 := ⟨_, rfl⟩
              have HIN := Lib.hid hin
              have HR := Lib.hid hr
              clear hpi hr
              cases v9
              · have HRB : Hid (rTo b.data.toList 3 = rTo b.data.toList 2 + 0) := rTo_step2 hin
                clear hin
                gi_wp2_with fail
                refine ⟨trivial, ?_⟩
                refine (CallsIn.inRound l (callsIn_wide.2 (contains_one b 114 wr HIN.out))).mono ?_
                rintro e w6 ⟨rfl, rfl⟩
                gi_wp2
                go_roundw
                case rel => exact ⟨3, by omega, by go_num, HPI.out.same (by rw [HRB.out]; omega)⟩
                case measure => simp [intOf]
              · have HRB : Hid (rTo b.data.toList 3 = rTo b.data.toList 2 + 4) := rTo_step2 hin
                clear hin
                gi_wp2_with fail
                refine ⟨trivial, ?_⟩
                refine (CallsIn.inRound l (callsIn_wide.2 (contains_one b 114 wr HIN.out))).mono ?_
                rintro e w6 ⟨rfl, rfl⟩
                gi_wp2
                gi_region
                all_goals
                  gi_wp2
                  go_roundw
                  case rel => exact ⟨3, by omega, by go_num, HPI.out.drew.set (by rw [HRB.out, HR.out, hor])⟩
                  case measure => simp [intOf]
          · obtain rfl : j = 3 := by omega
            have hb6 : Below W.heap.size W wr := HB5.out.trans (hpi.1.mono HB5.out.size)
            have hv6 : Boxed wr (w.heap.size + 2) 50 v := (hb6.block _ hv.lt).trans hv
            have bR6 : Boxed wr w.heap.size 50 (.slice none 0 0) := (hb6.block _ bR.lt).trans bR
            have bK6 : Boxed wr (w.heap.size + 1) 4 (.bool false) := (hb6.block _ bK.lt).trans bK
            have bS6 : Boxed wr (w.heap.size + 3) 9 u := (hb6.block _ bS.lt).trans bS
            have hrow6 := Grow.bel hrow hb6
            have hs6 := hb6.size
            have hc6 := hv6.cell
            have hf6 := hv6.frozen
            obtain ⟨r, hr⟩ : ∃ r, rTo b.data.toList 3 = r := ⟨_, rfl⟩
            have HRI : Hid (rIn b.data.toList = r) := hr
            rw [hr] at hpb
            have hp0 := hpb.cell 0
            have hp1 := hpb.cell 1
            have hp2 := hpb.cell 2
            clear hpi HPI hr hlb hq1 hj3 hj
            obtain ⟨p, hp⟩ : ∃ p : Person, p = ⟨a, r, z⟩ := ⟨_, rfl⟩
            have HPP := Lib.hid hp
            have HPC : Hid (p.cs = [.string a, .int .i64 r, .int .i64 z]) := by show _ = _; rw [hp]; rfl
            clear hp
            gi_wp2_with (gi_at_builtin; refine wpListIn_append_own _ rfl _ _ 50 rfl w.heap.size 92 i0 _ 3 32 Tryd.underlying50 hi hz0 hz1 hz2 rfl (by decide) v ys.length (ys.flatMap Person.cs) rfl (Grow.alloc hrow6 _) ⟨wr.heap.size, 0, none⟩ 1 1 p.cs rfl (by rw [HPC.out]; rfl) (by rw [HPC.out]; exact World.news_of_block (cs := #[.string a, .int .i64 r, .int .i64 z]) (t := 92) (fr := (0, 0)) (heap_new_at _ _ (by simp))) (Person.cs_one p) (by have := HYL.out; unfold maxLen; omega) (by have := HYL.out; omega) (by first | omega | (simp; omega)) ?_; intro v' w7 hown' hgrow _; obtain ⟨g', cap', rfl⟩ := ownsRow_succ hown'; obtain ⟨hv1, hv2, hr2, hk2, hb2⟩ := hv6.appended (by decide) hrow6 (by first | omega | (simp; omega)) (by omega) hown' hgrow; have hc1 := hv1.cell; have hf1 := hv1.frozen)
            have hS7 : Boxed (w7.setCell ⟨w.heap.size + 2, 0, none⟩ (.slice (some ⟨g', 0, none⟩) (ys.length + 1) cap')) (w.heap.size + 3) 9 u := ((bS6.alloc _).kept hgrow (bS6.not_row (by decide) hrow6)).other (by omega) _
            have hR7 : Boxed (w7.setCell ⟨w.heap.size + 2, 0, none⟩ (.slice (some ⟨g', 0, none⟩) (ys.length + 1) cap')) w.heap.size 50 (.slice none 0 0) := ((bR6.alloc _).kept hgrow (bR6.not_row (by decide) hrow6)).other (by omega) _
            have hK7 : Boxed (w7.setCell ⟨w.heap.size + 2, 0, none⟩ (.slice (some ⟨g', 0, none⟩) (ys.length + 1) cap')) (w.heap.size + 1) 4 (.bool false) := ((bK6.alloc _).kept hgrow (bK6.not_row (by decide) hrow6)).other (by omega) _
            have hr3 : Grow Person.cs 3 (w7.setCell ⟨w.heap.size + 2, 0, none⟩ (.slice (some ⟨g', 0, none⟩) (ys.length + 1) cap')) w.heap.size 92 (.slice (some ⟨g', 0, none⟩) (ys.length + 1) cap') (ys ++ [p]) := by
              show World.ownsRow _ _ _ _ _ (ys ++ [p]).length ((ys ++ [p]).flatMap Person.cs)
              rw [List.length_append, List.flatMap_append]
              simpa using hr2
            have hpin : PsIn (trimNLp x) p := by rw [HPP.out, ← HRI.out, ← HQ.out]; exact HP.out
            have hpw : p.wf := by
              rw [HPP.out]
              have h1 := rIn_wf b.data.toList
              rw [HRI.out] at h1
              exact ⟨by show a.size ≤ _; omega, ⟨by show _ ≤ r; omega, by show r ≤ _; omega⟩, HZW.out⟩
            exact ⟨(keepsFrom_below hb6).trans (hk2.from _), (show _ = _ from hS7).trans (show W.heap[w.heap.size + 3]? = _ from bS).symm, ⟨⟨_, hv2, ys ++ [p], hr3, HTK.out.step HX.out hpin, fun r hr => by
              rcases List.mem_append.1 hr with hr | hr
              · exact hwf r hr
              · rw [List.mem_singleton.1 hr]; exact hpw⟩, ⟨hR7, hK7, u, hS7⟩, (hB.trans (hb6.mono hBs)).trans hb2⟩⟩
    · have hn3 : ¬ (n : Int) = 3 := by omega
      have HNO := Lib.hid (no_persons HX.out (by rw [← HQ.out]; exact psIn_no3 (by rw [← HN.out]; exact h3)))
      have HB9 := HB4
      clear h3
      have bR9 : Boxed w4 w.heap.size 50 (.slice none 0 0) := (HB9.out.block _ bR.lt).trans bR
      have bK9 : Boxed w4 (w.heap.size + 1) 4 (.bool false) := (HB9.out.block _ bK.lt).trans bK
      have r0 := bR9.cell
      have r1 := bR9.frozen
      have k0 := bK9.cell
      have k1 := bK9.frozen
      gi_wp2
      exact ⟨(keepsFrom_below HB9.out).trans (((KeepsOthers.setCell _ _ _).trans (KeepsOthers.setCell _ _ _)).from _), ⟨(bR9.set _).other (by omega) _, (bK9.other (by omega) _).set _⟩, ((hB.trans (HB9.out.mono hBs)).setCell (p := ⟨w.heap.size, 0, none⟩) (Nat.le_refl _) _).setCell (p := ⟨w.heap.size + 1, 0, none⟩) (Nat.le_succ _) _, HNO.out⟩
  case done =>
    rintro D W hD ⟨⟨v, hv, ys, hrow, htk, hwf⟩, ⟨bR, bK, u, bS⟩, hB⟩ hK
    have hc := hv.cell
    have hBs := hB.size
    have HRW := Lib.hid htk
    have HYZ : Hid (ys.length ≤ 1048576) := by show _ ≤ _; have := htk.1; omega
    obtain ⟨A7, cap7, rfl, ho7⟩ := Grow.own hrow Person.cs_len
    have HAR := Lib.hid (ho7.arr Person.cs_len)
    have HDW : D < W.heap.size := (Array.getElem?_eq_some_iff.1 hK).1
    clear htk hv ho7
    cases hok : personsOk ys
    · have HNO : Hid (¬ ∃ xs, IsPersons s xs) := by
        rintro ⟨xs, hx⟩
        have e := HRW.out.whole hx
        have := hx.1
        rw [e, hok] at this; cases this
      have HOK := Lib.hid hok
      clear hok
      gi_wp2_with fail
      refine ⟨trivial, ?_⟩
      refine (callsIn_wide.2 (validPersons_eq A7 ys.length cap7 ys _ w.heap.size HAR.out HYZ.out hwf HOK.out)).mono ?_
      rintro e w6 ⟨rfl, hb6⟩
      have bR6 : Boxed w6 w.heap.size 50 (.slice none 0 0) := (hb6.block _ bR.lt).trans bR
      have bK6 : Boxed w6 (w.heap.size + 1) 4 (.bool false) := (hb6.block _ bK.lt).trans bK
      have hK6 := (hb6.block _ HDW).trans hK
      have r0 := bR6.cell
      have r1 := bR6.frozen
      have k0 := bK6.cell
      have k1 := bK6.frozen
      have hB6 := hB.trans (hb6.mono hBs)
      gi_wp2
      refine ⟨trivial, ?_⟩
      gi_wp2
      have hW8 : KeepsOthers w6 ((w6.setCell ⟨w.heap.size, 0, none⟩ (.slice none 0 0)).setCell ⟨w.heap.size + 1, 0, none⟩ (.bool false)) := (KeepsOthers.setCell _ _ _).trans (KeepsOthers.setCell _ _ _)
      have hK8 := hW8.same D _ hK6 rfl
      have bR8 : Boxed ((w6.setCell ⟨w.heap.size, 0, none⟩ (.slice none 0 0)).setCell ⟨w.heap.size + 1, 0, none⟩ (.bool false)) w.heap.size 50 (.slice none 0 0) := (bR6.set _).other (by omega) _
      have bK8 : Boxed ((w6.setCell ⟨w.heap.size, 0, none⟩ (.slice none 0 0)).setCell ⟨w.heap.size + 1, 0, none⟩ (.bool false)) (w.heap.size + 1) 4 (.bool false) := (bK6.other (by omega) _).set _
      have hB8 := (hB6.setCell (p := ⟨w.heap.size, 0, none⟩) (Nat.le_refl _) (.slice none 0 0)).setCell (p := ⟨w.heap.size + 1, 0, none⟩) (Nat.le_succ _) (.bool false)
      refine ⟨by simp, .inl ⟨_, _, rfl, run_takeDeferred hK8, ?_⟩⟩
      have q0 := (Boxed.cell (box_keep bR8 (grownBy_putObj' _ D (.deferred none)) (fun r e => by cases e; exact ⟨_, hK8, rfl⟩)))
      have q1 := (Boxed.cell (box_keep bK8 (grownBy_putObj' _ D (.deferred none)) (fun r e => by cases e; exact ⟨_, hK8, rfl⟩)))
      refine ⟨.tuple #[.slice none 0 0, .bool false], by simp [results, Tryd.results21, go_sem, q0, q1], ?_⟩
      exact ⟨hB8.trans (belowK_b (w := w) (Nat.le_refl _) _ D _ (.deferred none) (by omega) hK8 rfl rfl), .inr ⟨HNO.out, rfl⟩⟩
    · have HOK := Lib.hid hok
      have hcm : psS ys = ⟨(psL ys).toArray⟩ := by unfold psS; rw [hok]; rfl
      have HCM := Lib.hid hcm
      clear hok hcm
      gi_wp2_with fail
      refine ⟨trivial, ?_⟩
      refine (callsIn_wide.2 (validPersons_eq A7 ys.length cap7 ys _ w.heap.size HAR.out HYZ.out hwf HOK.out)).mono ?_
      rintro e w5 ⟨rfl, hb5⟩
      have hB5 := hB.trans (hb5.mono hBs)
      have hs5 := hb5.size
      have bR5 : Boxed w5 w.heap.size 50 (.slice none 0 0) := (hb5.block _ bR.lt).trans bR
      have bK5 : Boxed w5 (w.heap.size + 1) 4 (.bool false) := (hb5.block _ bK.lt).trans bK
      have hv5 : w5.cell? ⟨w.heap.size + 2, 0, none⟩ = some (.slice A7 ys.length cap7) := (hb5.cell (p := ⟨w.heap.size + 2, 0, none⟩) (by show w.heap.size + 2 < W.heap.size; omega)).trans hc
      have HAR5 := Lib.hid ((HAR.out.below hb5).more hs5)
      have hK5 := (hb5.block _ HDW).trans hK
      have hrow5 := Grow.bel hrow hb5
      gi_wp2_with fail
      refine ⟨trivial, ?_⟩
      refine (callsIn_wide.2 (personsText_any A7 ys.length cap7 ys _ w.heap.size HAR5.out HYZ.out hwf (HT.out.bel hB5))).mono ?_
      rintro e w6 ⟨rfl, hb6⟩
      have bR6 : Boxed w6 w.heap.size 50 (.slice none 0 0) := (hb6.block _ bR5.lt).trans bR5
      have bK6 : Boxed w6 (w.heap.size + 1) 4 (.bool false) := (hb6.block _ bK5.lt).trans bK5
      have hK6 := (hb6.block _ (Nat.lt_of_lt_of_le HDW hs5)).trans hK5
      have hv6 : w6.cell? ⟨w.heap.size + 2, 0, none⟩ = some (.slice A7 ys.length cap7) := (hb6.cell (p := ⟨w.heap.size + 2, 0, none⟩) (by show w.heap.size + 2 < w5.heap.size; omega)).trans hv5
      have hrow6 := Grow.bel hrow5 hb6
      have r0 := bR6.cell
      have r1 := bR6.frozen
      have k0 := bK6.cell
      have k1 := bK6.frozen
      have hB6 := hB5.trans (hb6.mono (Nat.le_trans hBs hs5))
      by_cases heq : psS ys = s
      · have HIS : Hid (IsPersons s ys) := ⟨HOK.out, by rw [← heq, HCM.out]⟩
        have hne : ((psS ys).toList == s.toList) = true := by rw [heq]; simp
        clear heq
        gi_wp2
        have hW8 : KeepsOthers w6 ((w6.setCell ⟨w.heap.size, 0, none⟩ (.slice A7 ys.length cap7)).setCell ⟨w.heap.size + 1, 0, none⟩ (.bool true)) := (KeepsOthers.setCell _ _ _).trans (KeepsOthers.setCell _ _ _)
        have hK8 := hW8.same D _ hK6 rfl
        have bR8 : Boxed ((w6.setCell ⟨w.heap.size, 0, none⟩ (.slice A7 ys.length cap7)).setCell ⟨w.heap.size + 1, 0, none⟩ (.bool true)) w.heap.size 50 (.slice A7 ys.length cap7) := (bR6.set _).other (by omega) _
        have bK8 : Boxed ((w6.setCell ⟨w.heap.size, 0, none⟩ (.slice A7 ys.length cap7)).setCell ⟨w.heap.size + 1, 0, none⟩ (.bool true)) (w.heap.size + 1) 4 (.bool true) := (bK6.other (by omega) _).set _
        have hr7 : Grow Person.cs 3 (w6.setCell ⟨w.heap.size, 0, none⟩ (.slice A7 ys.length cap7)) w.heap.size 92 (.slice A7 ys.length cap7) ys := World.ownsRow.kept hrow6 (grownBy_setCell' w6 _ _) (.inr (bR6.not_row (by decide) hrow6).symm)
        have hr8 : Grow Person.cs 3 ((w6.setCell ⟨w.heap.size, 0, none⟩ (.slice A7 ys.length cap7)).setCell ⟨w.heap.size + 1, 0, none⟩ (.bool true)) w.heap.size 92 (.slice A7 ys.length cap7) ys := World.ownsRow.kept hr7 (grownBy_setCell' _ _ _) (.inr ((bK6.other (B' := w.heap.size) (by omega) (.slice A7 ys.length cap7)).not_row (by decide) hr7).symm)
        have hr9 := ownsRow_putObj hr8 (.deferred none) hK8 rfl
        obtain ⟨A9, c9, e9, ho9⟩ := Grow.own hr9 Person.cs_len
        cases e9
        have hB8 := (hB6.setCell (p := ⟨w.heap.size, 0, none⟩) (Nat.le_refl _) (.slice A7 ys.length cap7)).setCell (p := ⟨w.heap.size + 1, 0, none⟩) (Nat.le_succ _) (.bool true)
        refine ⟨by simp, .inl ⟨_, _, rfl, run_takeDeferred hK8, ?_⟩⟩
        have q0 := (Boxed.cell (box_keep bR8 (grownBy_putObj' _ D (.deferred none)) (fun r e => by cases e; exact ⟨_, hK8, rfl⟩)))
        have q1 := (Boxed.cell (box_keep bK8 (grownBy_putObj' _ D (.deferred none)) (fun r e => by cases e; exact ⟨_, hK8, rfl⟩)))
        refine ⟨.tuple #[.slice A7 ys.length cap7, .bool true], by simp [results, Tryd.results21, go_sem, q0, q1], ?_⟩
        exact ⟨hB8.trans (belowK_b (w := w) (Nat.le_refl _) _ D _ (.deferred none) (by omega) hK8 rfl rfl), .inl ⟨ys, A7, cap7, HIS.out, rfl, ho9⟩⟩
      · have HNO : Hid (¬ ∃ xs, IsPersons s xs) := by
          rintro ⟨xs, hx⟩
          have e := HRW.out.whole hx
          rw [e] at hx
          apply heq
          rw [HCM.out]
          apply ByteArray.ext
          show (psL ys).toArray = s.data
          rw [← hx.2]
        have hne : ((psS ys).toList == s.toList) = false := text_ne heq
        clear heq
        gi_wp2
        have hW8 : KeepsOthers w6 ((w6.setCell ⟨w.heap.size, 0, none⟩ (.slice none 0 0)).setCell ⟨w.heap.size + 1, 0, none⟩ (.bool false)) := (KeepsOthers.setCell _ _ _).trans (KeepsOthers.setCell _ _ _)
        have hK8 := hW8.same D _ hK6 rfl
        have bR8 : Boxed ((w6.setCell ⟨w.heap.size, 0, none⟩ (.slice none 0 0)).setCell ⟨w.heap.size + 1, 0, none⟩ (.bool false)) w.heap.size 50 (.slice none 0 0) := (bR6.set _).other (by omega) _
        have bK8 : Boxed ((w6.setCell ⟨w.heap.size, 0, none⟩ (.slice none 0 0)).setCell ⟨w.heap.size + 1, 0, none⟩ (.bool false)) (w.heap.size + 1) 4 (.bool false) := (bK6.other (by omega) _).set _
        have hB8 := (hB6.setCell (p := ⟨w.heap.size, 0, none⟩) (Nat.le_refl _) (.slice none 0 0)).setCell (p := ⟨w.heap.size + 1, 0, none⟩) (Nat.le_succ _) (.bool false)
        refine ⟨by simp, .inl ⟨_, _, rfl, run_takeDeferred hK8, ?_⟩⟩
        have q0 := (Boxed.cell (box_keep bR8 (grownBy_putObj' _ D (.deferred none)) (fun r e => by cases e; exact ⟨_, hK8, rfl⟩)))
        have q1 := (Boxed.cell (box_keep bK8 (grownBy_putObj' _ D (.deferred none)) (fun r e => by cases e; exact ⟨_, hK8, rfl⟩)))
        refine ⟨.tuple #[.slice none 0 0, .bool false], by simp [results, Tryd.results21, go_sem, q0, q1], ?_⟩
        exact ⟨hB8.trans (belowK_b (w := w) (Nat.le_refl _) _ D _ (.deferred none) (by omega) hK8 rfl rfl), .inr ⟨HNO.out, rfl⟩⟩
  case stop =>
    rintro D W hD ⟨⟨bR, bK⟩, hB, hno⟩ hK
    have HNO := Lib.hid hno
    clear hno
    gi_wp2
    refine ⟨by simp, .inl ⟨_, _, rfl, run_takeDeferred hK, ?_⟩⟩
    have r0 := (Boxed.cell (box_keep bR (grownBy_putObj' W D (.deferred none)) (fun r e => by cases e; exact ⟨_, hK, rfl⟩)))
    have r1 := (Boxed.cell (box_keep bK (grownBy_putObj' W D (.deferred none)) (fun r e => by cases e; exact ⟨_, hK, rfl⟩)))
    refine ⟨.tuple #[.slice none 0 0, .bool false], by simp [results, Tryd.results21, go_sem, r0, r1], ?_⟩
    exact ⟨hB.trans (belowK_b (w := w) (Nat.le_refl _) W D _ (.deferred none) (by omega) hK rfl rfl), .inr ⟨HNO.out, rfl⟩⟩
end Go.Proofs.YtkegncanmfmmmaaDoor
