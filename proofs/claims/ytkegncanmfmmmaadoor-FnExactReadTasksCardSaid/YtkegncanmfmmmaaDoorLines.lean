/- strings.Lines: the lines of a text, and the iterator's contract. -/
import Derived.Test.YtkegncanmfmmmaaDoorRangeRow
import Derived.Test.YtkegncanmfmmmaaDoorRdWalk
import Derived.Test.YtkegncanmfmmmaaDoorShelf
import Derived.RangeFuncBound
import Derived.Shelf.Abstract
import Derived.Shelf.RegionOpen
import Derived.WalkKit
import Derived.BigRegionIn
import Derived.OwnWalkIn
import Derived.TacticsInMore
import Derived.LoopNIn
import Derived.LoopIn
namespace Go.Proofs.YtkegncanmfmmmaaDoor
open Go.RowKit Go.Shelf
set_option linter.unusedVariables false
set_option linter.unusedSimpArgs false
attribute [local go_sem] Oper.semAt_some

/-- the lines of a text, each with the byte 10 that ends it -/
def linesB : List UInt8 → List (List UInt8)
  | [] => []
  | b :: r => if b = 10 then [10] :: linesB r else match linesB r with | [] => [[b]] | x :: xs => (b :: x) :: xs
def linesL (s : ByteArray) : List ByteArray := (linesB s.data.toList).map fun l => ⟨l.toArray⟩
theorem linesB_cut : ∀ (l : List UInt8) (a : Nat), Lib.indexByte l 10 = (a : Int) → a < l.length ∧ linesB l = l.take (a + 1) :: linesB (l.drop (a + 1))
  | [], a, h => by unfold Lib.indexByte at h; omega
  | b :: r, a, h => by
    unfold Lib.indexByte at h
    by_cases hb : b = 10
    · subst hb
      simp at h
      obtain rfl : a = 0 := by omega
      exact ⟨by simp, by simp [linesB]⟩
    · have hb2 : (b == 10) = false := by simp [hb]
      rw [hb2] at h
      simp only [Bool.false_eq_true, if_false] at h
      by_cases hi : Lib.indexByte r 10 = -1
      · rw [hi] at h; simp at h
      · have hi2 : (Lib.indexByte r 10 == -1) = false := by simp [hi]
        rw [hi2] at h
        simp only [Bool.false_eq_true, if_false] at h
        have := Lib.indexByte_ge r 10
        obtain ⟨c, rfl⟩ : ∃ c, a = c + 1 := ⟨a - 1, by omega⟩
        obtain ⟨h1, h2⟩ := linesB_cut r c (by omega)
        refine ⟨by simp only [List.length_cons]; omega, ?_⟩
        show (if b = 10 then _ else _) = _
        rw [if_neg hb, h2]
        rfl
theorem linesB_last : ∀ (l : List UInt8), l ≠ [] → Lib.indexByte l 10 < 0 → linesB l = [l]
  | [], h, _ => absurd rfl h
  | b :: r, _, h => by
    unfold Lib.indexByte at h
    by_cases hb : b = 10
    · subst hb; simp at h
    · have hb2 : (b == 10) = false := by simp [hb]
      rw [hb2] at h
      simp only [Bool.false_eq_true, if_false] at h
      have h2 : Lib.indexByte r 10 < 0 := by
        by_cases hi : Lib.indexByte r 10 = -1
        · omega
        · have hi2 : (Lib.indexByte r 10 == -1) = false := by simp [hi]
          rw [hi2] at h
          simp only [Bool.false_eq_true, if_false] at h
          omega
      show (if b = 10 then _ else _) = _
      rw [if_neg hb]
      cases r with
      | nil => rfl
      | cons c t => rw [linesB_last (c :: t) (by simp) h2]
theorem bytes_of_list (q : ByteArray) (l : List UInt8) (h : q.data.toList = l) : q = ⟨l.toArray⟩ := by subst h; rfl
theorem lines_cut {t : ByteArray} {a : Nat} (h : Lib.indexByte t.data.toList 10 = (a : Int)) : a < t.size ∧ linesL t = t.extract 0 (a + 1) :: linesL (t.extract (a + 1) t.size) := by
  obtain ⟨h1, h2⟩ := linesB_cut _ _ h
  have h9 : t.data.toList.length = t.size := Array.length_toList
  refine ⟨by omega, ?_⟩
  unfold linesL
  rw [h2, extract_list, List.map_cons]
  congr 1
  · refine (bytes_of_list _ _ ?_).symm
    rw [extract_list]; simp
  · rw [List.take_of_length_le (by simp)]
theorem lines_last {t : ByteArray} (h0 : 0 < t.size) (h : Lib.indexByte t.data.toList 10 < 0) : linesL t = [t] := by
  have h9 : t.data.toList.length = t.size := Array.length_toList
  unfold linesL
  rw [linesB_last _ (fun e => by rw [e] at h9; simp only [List.length_nil] at h9; omega) h]
  rfl
theorem lines_none {t : ByteArray} (h0 : t.size = 0) : linesL t = [] := by rw [empty_text h0]; rfl
theorem drop_cons {α : Type} {L : List α} {k : Nat} {x : α} {r : List α} (h : L.drop k = x :: r) : L[k]? = some x ∧ L.drop (k + 1) = r ∧ k < L.length := by
  have h1 : L[k]? = some x := by
    have : (L.drop k)[0]? = some x := by rw [h]; rfl
    simpa using this
  exact ⟨h1, by rw [← List.drop_drop, h]; rfl, (List.getElem?_eq_some_iff.1 h1).1⟩
theorem drop_nil {α : Type} {L : List α} {k : Nat} (hk : k ≤ L.length) (h : L.drop k = []) : k = L.length := by
  have := List.drop_eq_nil_iff.1 h; omega
def boxSize (Bs : Nat) (w : World) : Nat := match w.cell? ⟨Bs, 0, none⟩ with | some (.string t) => t.size | _ => 0
theorem boxSize_eq {Bs : Nat} {w : World} {t : ByteArray} (h : w.cell? ⟨Bs, 0, none⟩ = some (.string t)) : boxSize Bs w = t.size := by unfold boxSize; rw [h]

theorem index10 (t : ByteArray) (w : World) {v : Int} (hv : Lib.indexByte t.data.toList 10 = v) : Calls Tryd.prog 105 #[.string t, .int .u8 10] w fun e w' => e = .returned (.int .i64 v) ∧ w = w' := by
  subst hv
  refine (Tryd.strings_IndexByte t 10 w).mono ?_
  rintro e w' ⟨rfl, rfl⟩
  exact ⟨rfl, rfl⟩
set_option maxRecDepth 100000 in
set_option maxHeartbeats 3200000 in
theorem lines1_in (n : Nat) (hn : 1 ≤ n) (l Bs : Nat) (s : ByteArray) (hs : s.size ≤ 1048576) (J : Nat → World → Prop) (Jx : World → Prop) (hJg : ∀ k X Y, J k X → X.grownBy Y none → J k Y) (hJs : ∀ k X v, J k X → J k (X.setCell ⟨Bs, 0, none⟩ v))
    (hY : ∀ k x X, J k X → (linesL s)[k]? = some x → YieldAt Fence.wide (n - 1) Tryd.prog l #[.string x] X fun e Y => (e = .returned (.bool true) ∧ J (k + 1) Y ∧ Y.heap[Bs]? = X.heap[Bs]?) ∨ (e = .returned (.bool false) ∧ Jx Y))
    (W : World) (hB : Boxed W Bs 9 (.string s)) (h0 : J 0 W) :
    CallsIn Fence.wide n Tryd.prog 104 #[.func (.yield l) #[] #[], .pointer (some ⟨Bs, 0, none⟩)] W fun e Y => (∃ v, e = .returned v) ∧ (J (linesL s).length Y ∨ Jx Y) := by
  have hro : Fence.wide.round = none := rfl
  obtain ⟨L, hL⟩ : ∃ L, L = linesL s := ⟨_, rfl⟩
  rw [← hL] at hY ⊢
  refine callsIn_of_wp Tryd.func104 rfl trivial ?_ hro
  simp only [Tryd.ntmps104, List.size_toArray, List.length_cons, List.length_nil, Nat.reduceAdd, Nat.reduceSub, Array.replicate_succ, Array.replicate_zero, List.push_toArray, List.append_toArray, List.nil_append, List.cons_append]
  gi_wp2
  gi_loopw [3, 4] (fun v i wr => ∃ (k : Nat) (t : ByteArray), k ≤ L.length ∧ L.drop k = linesL t ∧ t.size ≤ 1048576 ∧ J k wr ∧ Boxed wr Bs 9 (.string t)) (fun _ _ wr => boxSize Bs wr)
  case atStart => exact ⟨0, s, Nat.zero_le _, by rw [hL]; rfl, hs, h0, hB⟩
  case round =>
    obtain ⟨k, t, hk, hd, ht, hj, hb⟩ := hrel
    have c0 := hb.cell
    have f0 := hb.frozen
    by_cases h0 : t.size = 0
    · have hz : ¬ (0 : Int) < (t.size : Int) := by omega
      have HJ := Lib.hid (show J L.length wr by have := drop_nil hk (hd.trans (lines_none h0)); rw [← this]; exact hj)
      clear hd hj hY hJg hJs h0
      gi_wp2
      go_end0
      exact ⟨⟨_, rfl⟩, .inl (by rw [← hL]; exact HJ.out)⟩
    · have hz : (0 : Int) < (t.size : Int) := by omega
      obtain ⟨v, hv⟩ : ∃ v, Lib.indexByte t.data.toList 10 = v := ⟨_, rfl⟩
      have HV := Lib.hid hv
      by_cases hneg : v < 0
      · obtain ⟨hx, hd2, hkl⟩ := drop_cons (hd.trans (lines_last (by omega) (by rw [hv]; exact hneg)))
        have hj2 := hJs k wr (.string ⟨#[]⟩) hj
        obtain ⟨fn, tmps, assign, body, hy, hR⟩ := hY k t _ hj2 hx
        have HR := Lib.hid hR
        have HD2 := Lib.hid hd2
        have HB := Lib.hid hb
        clear hv hx hj2 hR hd2 hY hJg hJs hd hj
        gi_wp2_with fail
        refine ⟨trivial, ?_⟩
        refine (callsIn_wide.2 (index10 t _ HV.out)).mono ?_
        rintro e w1 ⟨rfl, rfl⟩
        gi_wp2
        refine HR.out.mono ?_
        rintro e W3 (⟨rfl, hJ3, hk3⟩ | ⟨rfl, hJx3⟩)
        · have HB3 : Hid (Boxed W3 Bs 9 (.string ⟨#[]⟩)) := hk3.trans (Boxed.set _ HB.out)
          gi_wp2
          go_roundw
          case rel => exact ⟨k + 1, ⟨#[]⟩, hkl, HD2.out, by decide, hJ3, HB3.out⟩
          case measure => rw [boxSize_eq HB3.out.cell, boxSize_eq c0]; show 0 < _; omega
        · gi_wp2
          refine bodyPost_ret (results_none rfl _ _ _) rfl ?_
          exact ⟨⟨_, rfl⟩, .inr hJx3⟩
      · obtain ⟨a, rfl⟩ := Int.eq_ofNat_of_zero_le (show 0 ≤ v by omega)
        obtain ⟨ha, hlc⟩ := lines_cut hv
        obtain ⟨x, hx0⟩ : ∃ x, t.extract 0 (a + 1) = x := ⟨_, rfl⟩
        obtain ⟨r, hr0⟩ : ∃ r, t.extract (a + 1) t.size = r := ⟨_, rfl⟩
        have hrs : r.size = t.size - (a + 1) := by rw [← hr0, ByteArray.size_extract]; omega
        have HRS := Lib.hid hrs
        rw [hx0, hr0] at hlc
        obtain ⟨hx, hd2, hkl⟩ := drop_cons (hd.trans hlc)
        have ha1 : (a : Int) + 1 ≤ (t.size : Int) := by omega
        have ha0 : (0 : Int) ≤ (a : Int) + 1 := by omega
        have hj2 := hJg k _ (wr.setCell ⟨Bs, 0, none⟩ (.string r)).drew (hJs k wr (.string r) hj) ⟨rfl, rfl, rfl, Nat.le_refl _, fun _ _ _ => rfl⟩
        obtain ⟨fn, tmps, assign, body, hy, hR⟩ := hY k x _ hj2 hx
        have HR := Lib.hid hR
        have HD2 := Lib.hid hd2
        have HB := Lib.hid hb
        clear hv hx hj2 hR hd2 hY hJg hJs hd hj hlc hrs
        gi_wp2_with fail
        refine ⟨trivial, ?_⟩
        refine (callsIn_wide.2 (index10 t _ HV.out)).mono ?_
        rintro e w1 ⟨rfl, rfl⟩
        gi_wp2
        gi_region
        all_goals gi_wp2
        refine HR.out.mono ?_
        rintro e W3 (⟨rfl, hJ3, hk3⟩ | ⟨rfl, hJx3⟩)
        · have HB3 : Hid (Boxed W3 Bs 9 (.string r)) := hk3.trans (Boxed.set _ HB.out)
          gi_wp2
          go_roundw
          case rel => exact ⟨k + 1, r, hkl, HD2.out, by have := HRS.out; omega, hJ3, HB3.out⟩
          case measure => rw [boxSize_eq HB3.out.cell, boxSize_eq c0]; have := HRS.out; omega
        · gi_wp2
          refine bodyPost_ret (results_none rfl _ _ _) rfl ?_
          exact ⟨⟨_, rfl⟩, .inr hJx3⟩

theorem lines_go (n : Nat) (hn : 1 ≤ n) (Bs : Nat) (s : ByteArray) (hs : s.size ≤ 1048576) (w : World) (hB : Boxed w Bs 9 (.string s)) :
    RowsGo Fence.wide n Tryd.prog 104 #[.pointer (some ⟨Bs, 0, none⟩)] (fun x : ByteArray => #[.string x]) (linesL s) Bs w := fun l J Jx W hW hJg hJs hY h0 =>
  lines1_in n hn l Bs s hs J Jx hJg hJs hY W ((hW.block Bs hB.lt).trans hB) h0
set_option maxHeartbeats 1000000 in
theorem lines_in (n : Nat) (s : ByteArray) (w : World) :
    CallsIn Fence.wide n Tryd.prog 57 #[.string s] w fun e w' => e = .returned (.func (.func 104) #[] #[.pointer (some ⟨w.heap.size, 0, none⟩)]) ∧ w' = w.alloc (.cells #[.string s] 9) := by
  refine callsIn_of_wp Tryd.func57 rfl trivial ?_ rfl
  simp only [Tryd.ntmps57, List.size_toArray, List.length_cons, List.length_nil, Nat.reduceAdd, Nat.reduceSub, Array.replicate_succ, Array.replicate_zero, List.push_toArray, List.append_toArray, List.nil_append, List.cons_append]
  gi_wp2
  go_ret
  exact ⟨rfl, rfl⟩
end Go.Proofs.YtkegncanmfmmmaaDoor
