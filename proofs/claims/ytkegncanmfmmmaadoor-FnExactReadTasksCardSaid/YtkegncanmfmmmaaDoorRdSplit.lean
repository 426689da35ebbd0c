/- SplitWords of the program and l01Split of the reference. -/
import Derived.Test.YtkegncanmfmmmaaDoorRdFld
import Derived.Test.YtkegncanmfmmmaaDoorRdAll
namespace Go.Proofs.YtkegncanmfmmmaaDoor
open Go.RowKit
set_option linter.unusedVariables false

theorem grow_of_strings {w : World} {lo : Nat} {v : Value} {ss : List ByteArray} (h : w.ownsRow lo 9 1 v ss.length (ss.map Value.string)) : Grow wc 1 w lo 9 v ss := by
  have e : ss.flatMap wc = ss.map Value.string := by
    clear h
    induction ss with
    | nil => rfl
    | cons s ss ih => rw [List.flatMap_cons, List.map_cons, ih]; rfl
  unfold Grow; rw [e]; exact h
theorem blank_any (x : Nat) (w : World) : Calls Tryd.prog 90 #[.int .i32 (x : Int)] w fun e w' => e = .returned (.bool (isBlank x)) ∧ Below w.heap.size w w' := by
  have H : Hid (isBlank x = decide ((x : Int) = 32)) := rfl
  by_cases h : (x : Int) = 32
  · have hb : ((x : Int) == 32) = true := by rw [h]; rfl
    have H2 : Hid (isBlank x = true) := by show _ = _; rw [H.out, decide_eq_true h]
    clear h
    go_enter Tryd.func90, Tryd.ntmps90
    go_wp2
    go_ret
    exact ⟨by rw [H2.out]; rfl, Below.refl _ _⟩
  · have hb : ((x : Int) == 32) = false := beq_eq_false_iff_ne.2 h
    have H2 : Hid (isBlank x = false) := by show _ = _; rw [H.out, decide_eq_false h]
    clear h
    go_enter Tryd.func90, Tryd.ntmps90
    go_wp2
    go_ret
    exact ⟨by rw [H2.out]; rfl, Below.refl _ _⟩
/-- the words of a text, as SplitWords hands them back -/
def wordsOf (s : ByteArray) : List ByteArray := Lib.goFieldsP isBlank s
theorem splitWords_any (s : ByteArray) (w : World) (hs : s.size ≤ 1048576) :
    Calls Tryd.prog 47 #[.string s] w fun e w' => ∃ A cap, e = .returned (.slice A (wordsOf s).length cap) ∧ Own wc 1 w' w.heap.size w'.heap.size 9 A (wordsOf s).length (wordsOf s) ∧ Below w.heap.size w w' := by
  have hf := Tryd.strings_FieldsFunc_grows 90 #[] (enters_of Tryd.func90 (by kernel_rfl) rfl) isBlank s w (by omega) (fun W x _ _ => blank_any x W)
  go_enter Tryd.func47, Tryd.ntmps47
  go_wp2_with (go_at_call 89; refine hf.mono ?_; rintro e w1 ⟨A, rfl, hA, hown, hb⟩; have HO : Hid (Grow wc 1 w1 w.heap.size 9 (.slice (some ⟨A, 0, none⟩) (Lib.goFieldsP isBlank s).length (Lib.goFieldsP isBlank s).length) (Lib.goFieldsP isBlank s)) := grow_of_strings hown; clear hown)
  go_ret
  obtain ⟨A5, cap5, hv5, ho5⟩ := HO.out.own wc_len
  exact ⟨A5, cap5, by unfold wordsOf; rw [← hv5]; rfl, ho5, hb⟩

/-- the pieces of a text between bytes -/
def spl (b : UInt8) (s : ByteArray) : List ByteArray := (splitB b s.data.toList).map fun l => ⟨l.toArray⟩
theorem spl_list (b : UInt8) (s : ByteArray) : (spl b s).map (fun x => x.data.toList) = splitB b s.data.toList := by
  unfold spl; rw [List.map_map]
  conv => rhs; rw [← List.map_id (splitB b s.data.toList)]
  apply List.map_congr_left; intro x _; simp
/-- P the pieces so far, the open one from f to k -/
structure SplSt (b : UInt8) (s : ByteArray) (P : List ByteArray) (f k : Nat) : Prop where
  le : f ≤ k
  few : P.length ≤ k
  all : splitB b s.data.toList = P.map (fun x => x.data.toList) ++ splitB b (s.data.toList.drop f)
  free : ∀ x ∈ (s.data.toList.drop f).take (k - f), x ≠ b
theorem SplSt.start (b : UInt8) (s : ByteArray) : SplSt b s [] 0 0 := ⟨Nat.le_refl _, Nat.le_refl _, by simp, by simp⟩
theorem SplSt.step {b : UInt8} {s : ByteArray} {P : List ByteArray} {f k : Nat} (h : SplSt b s P f k) (hk : k < s.size) (hne : PlainAid.bt s k ≠ b.toNat) : SplSt b s P f (k + 1) := by
  obtain ⟨c, hd, hc, hg⟩ := drop_at s hk
  have hcb : c ≠ b := fun e => hne (by rw [← PlainAid.get_bt s k hk, hg, e])
  refine ⟨by have := h.le; omega, by have := h.few; omega, h.all, fun x hx => ?_⟩
  rw [piece_snoc h.le hc] at hx
  rcases List.mem_append.1 hx with hx | hx
  · exact h.free x hx
  · rw [List.mem_singleton.1 hx]; exact hcb
theorem SplSt.cut {b : UInt8} {s : ByteArray} {P : List ByteArray} {f k : Nat} (h : SplSt b s P f k) (hk : k < s.size) (he : PlainAid.bt s k = b.toNat) : SplSt b s (P ++ [s.extract f k]) (k + 1) (k + 1) := by
  obtain ⟨c, hd, hc, hg⟩ := drop_at s hk
  have hcb : c = b := by
    have : ((s[k]'hk).toNat : Int) = b.toNat := by rw [PlainAid.get_bt s k hk]; exact he
    rw [hg] at this; exact UInt8.toNat_inj.1 (by omega)
  subst hcb
  refine ⟨Nat.le_refl _, by rw [List.length_append]; have := h.few; simp; omega, ?_, by simp⟩
  have e : s.data.toList.drop f = (s.data.toList.drop f).take (k - f) ++ c :: s.data.toList.drop (k + 1) := by
    conv => lhs; rw [← List.take_append_drop (k - f) (s.data.toList.drop f)]
    rw [List.drop_drop, show f + (k - f) = k by have := h.le; omega, hd]
  rw [h.all, e, split_app c _ _ h.free]
  simp
theorem SplSt.whole {b : UInt8} {s : ByteArray} {P : List ByteArray} {f : Nat} (h : SplSt b s P f s.size) : P ++ [s.extract f s.size] = spl b s := by
  have hlen : s.data.toList.length = s.size := Array.length_toList
  have e : (s.data.toList.drop f).take (s.size - f) = s.data.toList.drop f := List.take_of_length_le (by rw [List.length_drop]; omega)
  have hf := h.free
  rw [e] at hf
  have h2 := h.all
  rw [split_plain b _ hf] at h2
  unfold spl
  rw [h2, List.map_append, List.map_map]
  congr 1
  · conv => lhs; rw [← List.map_id P]
    apply List.map_congr_left; intro x _; simp
  · simp only [List.map_cons, List.map_nil]
    congr 1
    apply ByteArray.ext
    show _ = (s.data.toList.drop f).toArray
    rw [← e, ← extract_list]

set_option maxRecDepth 100000 in
set_option maxHeartbeats 1600000 in
theorem l01Split_any (b : UInt8) (c : Int) (hc : (b.toNat : Int) = c) (s : ByteArray) (w : World) (hs : s.size ≤ 1048576) :
    Calls Tryd.prog 44 #[.string s, .int .u8 c] w fun e w' => ∃ A cap, e = .returned (.slice A (spl b s).length cap) ∧ Own wc 1 w' w.heap.size w'.heap.size 9 A (spl b s).length (spl b s) ∧ Below w.heap.size w w' := by
  have HCC := Lib.hid hc
  have HG0 := PlainAid.get_bt s
  clear hc
  go_enter Tryd.func44, Tryd.ntmps44
  go_wp2
  go_loopw [5, 6, 7] (fun v5 v6 v7 wr => ∃ (P : List ByteArray) (f k : Nat), k ≤ s.size ∧ v7 = .int .i64 k ∧ v6 = .int .i64 f ∧ SplSt b s P f k ∧ Grow wc 1 wr w.heap.size 9 v5 P ∧ Below w.heap.size w wr) (fun _ _ v7 _ => s.size - (intOf v7).toNat)
  case atStart => exact ⟨[], 0, 0, Nat.zero_le _, rfl, rfl, SplSt.start b s, Grow.empty _ _ _ (Nat.le_refl _), (Below.refl _ _).alloc (Nat.le_refl _) _⟩
  case round v _ _ =>
    obtain ⟨P, f, k, hk, rfl, rfl, hst, hg, hb⟩ := hrel
    have HST := Lib.hid hst
    have HG := Lib.hid hg
    have HB := Lib.hid hb
    have hsz := hb.size
    have hfk := hst.le
    have hfew := hst.few
    clear hst hg hb
    by_cases hlt : k < s.size
    · have hk0 : (0 : Int) ≤ (k : Int) := by omega
      have hk1 : (k : Int) < (s.size : Int) := by omega
      have hfk2 : (f : Int) ≤ (k : Int) := by omega
      by_cases heq : PlainAid.bt s k = c
      · have hbe : (PlainAid.bt s k == c) = true := by rw [heq]; simp
        have HC := Lib.hid (HST.out.cut hlt (by rw [HCC.out]; exact heq))
        clear heq
        go_wp2_with (at_builtin; refine wpList_snoc _ rfl _ _ 75 rfl w.heap.size 9 (.string ⟨#[]⟩) 16 Tryd.underlying75 infoWord rfl (by omega) _ P (s.extract f k) rfl (HG.out.alloc _) _ _ rfl (heap_alloc_new _ _) rfl rfl (wc_one _) (by omega) (by omega) (by simp; omega) ?_; intro v5 w5 hg5 hgr5; have hb5 : RowKit.Below w.heap.size w w5 := (HG.out.alloc _).below (HB.out.alloc (by omega) _) hgr5 (Nat.le_refl _) (by simp; omega); have HB5 := Lib.hid hb5; have HG5 := Lib.hid hg5; clear hg5 hgr5 hb5)
        go_roundw
        case rel => exact ⟨_, k + 1, k + 1, by omega, by go_num, by go_num, HC.out, HG5.out, HB5.out⟩
        case measure => simp [intOf]; omega
      · have hbe : (PlainAid.bt s k == c) = false := beq_eq_false_iff_ne.2 heq
        have HC := Lib.hid (HST.out.step hlt (by rw [HCC.out]; exact heq))
        clear heq
        go_wp2
        go_roundw
        case rel => exact ⟨P, f, k + 1, by omega, by go_num, rfl, HC.out, HG.out, HB.out⟩
        case measure => simp [intOf]; omega
    · obtain rfl : k = s.size := by omega
      have hf0 : (0 : Int) ≤ (f : Int) := by omega
      have hf1 : (f : Int) ≤ (s.size : Int) := by omega
      have HWH := Lib.hid HST.out.whole
      go_wp2_with (at_builtin; refine wpList_snoc _ rfl _ _ 75 rfl w.heap.size 9 (.string ⟨#[]⟩) 16 Tryd.underlying75 infoWord rfl (by omega) _ P (s.extract f s.size) rfl (HG.out.alloc _) _ _ rfl (heap_alloc_new _ _) rfl rfl (wc_one _) (by omega) (by omega) (by simp; omega) ?_; intro v5 w5 hg5 hgr5; have hb5 : RowKit.Below w.heap.size w w5 := (HG.out.alloc _).below (HB.out.alloc (by omega) _) hgr5 (Nat.le_refl _) (by simp; omega); have HB5 := Lib.hid hb5; have HG5 := Lib.hid hg5; clear hg5 hgr5 hb5)
      go_ret
      obtain ⟨A6, cap6, hv6, ho6⟩ := HG5.out.own wc_len
      rw [HWH.out] at hv6 ho6
      exact ⟨A6, cap6, by rw [hv6]; rfl, ho6, HB5.out⟩
end Go.Proofs.YtkegncanmfmmmaaDoor
