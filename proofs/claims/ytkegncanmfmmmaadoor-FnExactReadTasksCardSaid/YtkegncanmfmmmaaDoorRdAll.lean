/- readAll of the program: the numbers of words, if each is one. -/
import Derived.Test.YtkegncanmfmmmaaDoorRdWalk
import Derived.Test.YtkegncanmfmmmaaDoorRInt64
namespace Go.Proofs.YtkegncanmfmmmaaDoor
open Go.RowKit
set_option linter.unusedVariables false

def wc (s : ByteArray) : List Value := [.string s]
theorem wc_len (s : ByteArray) : (wc s).length = 1 := rfl
theorem wc_one (s : ByteArray) : ∀ u ∈ wc s, u.oneCell' = true := by intro u hu; simp [wc] at hu; subst hu; rfl
theorem infoWord : (Tryd.prog.info? 9).map (fun i => (i.zero, i.size, i.bytes)) = some (some (.string ⟨#[]⟩), 1, 16) := by kernel_rfl
theorem wc_at {w : World} {lo hi : Nat} {A : Option Addr} {n : Nat} {ss : List ByteArray} (h : Arr wc 1 w lo hi A n ss) {i : Nat} (hi' : i < n) :
    ∃ b off s, A = some ⟨b, off, none⟩ ∧ ss[i]? = some s ∧ lo ≤ b ∧ b < hi ∧ w.cell? ⟨b, off + i, none⟩ = some (.string s) := by
  obtain ⟨b, off, s, e, hx, h1, h2, hc⟩ := h.cells hi'
  refine ⟨b, off, s, e, hx, h1, h2, ?_⟩
  have := hc 0 (.string s) rfl
  simpa using this
def wOk (s : ByteArray) : Bool := numB s.data.toList
def wV (s : ByteArray) : Int := numV s.data.toList
def RetN (ss : List ByteArray) (w : World) (e : Ending) (w' : World) : Prop :=
  (ss.all wOk = true ∧ (∃ A cap, e = .returned (.tuple #[.slice A ss.length cap, .bool true]) ∧ Own ic 1 w' w.heap.size w'.heap.size 2 A ss.length (ss.map wV)) ∨ ss.all wOk = false ∧ e = .returned (.tuple #[.slice none 0 0, .bool false])) ∧ Below w.heap.size w w'
theorem readDecimal_eq (s : ByteArray) (w : World) (hs : s.size ≤ 281474976710656) (ht : TabW w) (hE : ErrW w) {v : Bool} (hv : wOk s = v) :
    Calls Tryd.prog 59 #[.string s] w fun e w' => e = .returned (.tuple #[.int .i64 (wV s), .bool v]) ∧ Below w.heap.size w w' := by subst hv; exact readDecimal_any s w hs ht hE
theorem allOk_step {ss : List ByteArray} {k : Nat} {s : ByteArray} (h : (ss.take k).all wOk = true) (hx : ss[k]? = some s) (hp : wOk s = true) : (ss.take (k + 1)).all wOk = true := by
  obtain ⟨hk, rfl⟩ := List.getElem?_eq_some_iff.1 hx
  rw [List.take_succ_eq_append_getElem hk, List.all_append, h]; simp [hp]
theorem allOk_bad {ss : List ByteArray} {k : Nat} {s : ByteArray} (hx : ss[k]? = some s) (hp : wOk s = false) : ss.all wOk = false := by
  cases h : ss.all wOk with
  | false => rfl
  | true => rw [List.all_eq_true] at h; rw [h s (List.mem_of_getElem? hx)] at hp; cases hp
set_option maxHeartbeats 1600000 in
theorem readAll_any (A : Option Addr) (n c : Nat) (ss : List ByteArray) (w : World) (lo : Nat) (h : Arr wc 1 w lo w.heap.size A n ss) (hn : n ≤ 1048576) (hs : ∀ s ∈ ss, s.size ≤ 281474976710656) (ht : TabW w) (hE : ErrW w) :
    Calls Tryd.prog 49 #[.slice A n c] w (RetN ss w) := by
  have HT := Lib.hid ht
  have HE := Lib.hid hE
  have HLN := Lib.hid h.1
  have HSZ := Lib.hid hs
  clear ht hE hs
  go_enter Tryd.func49, Tryd.ntmps49
  go_wp2
  go_loopw [4, 11] (fun v i wr => ∃ k : Nat, k ≤ n ∧ i = .int .i64 k ∧ (ss.take k).all wOk = true ∧ Grow ic 1 wr w.heap.size 2 v ((ss.take k).map wV) ∧ Below w.heap.size w wr) (fun _ i _ => n - (intOf i).toNat)
  case atStart => exact ⟨0, Nat.zero_le _, rfl, rfl, Grow.nil _ _ _, Below.refl _ _⟩
  case round v _ =>
    obtain ⟨k, hk, rfl, hall, hg, hb⟩ := hrel
    have HA := Lib.hid hall
    have HG := Lib.hid hg
    have HB := Lib.hid hb
    have hsz := hb.size
    clear hall hg
    by_cases hlt : k < n
    · obtain ⟨b, off, s, rfl, hx, _, hbl, c0⟩ := wc_at (h.below hb) hlt
      have HX := Lib.hid hx
      have hsl : s.size ≤ 281474976710656 := HSZ.out s (List.mem_of_getElem? hx)
      have hk0 : (0 : Int) ≤ (k : Int) := by omega
      have hk1 : (k : Int) < (n : Int) := by omega
      have HR := fun v hv => readDecimal_eq s wr hsl (HT.out.bel hb) (HE.out.bel hb) (v := v) hv
      have hlk : ((ss.take k).map wV).length ≤ 1048576 := by rw [List.length_map]; exact Nat.le_trans (List.length_take_le ..) (by omega)
      have HLK := Lib.hid hlk
      have HST : Hid (∀ s, ss[k]? = some s → (ss.take (k + 1)).map wV = (ss.take k).map wV ++ [wV s]) := fun s hx => by rw [List.take_add_one, hx]; simp
      clear hx hb hlk
      cases hok : wOk s
      · have hR := HR _ hok
        have HO := Lib.hid (allOk_bad HX.out hok)
        clear HR hok
        go_wp2_with (go_at_call 59; refine hR.mono ?_; rintro e w1 ⟨rfl, hb1⟩)
        go_ret2
        exact ⟨.inr ⟨HO.out, rfl⟩, HB.out.trans (hb1.mono hsz)⟩
      · have hR := HR _ hok
        have HO := Lib.hid hok
        clear HR hok
        go_wp2_with (first | (go_at_call 59; refine hR.mono ?_; rintro e w1 ⟨rfl, hb1⟩; have HB1 := Lib.hid (HB.out.trans (hb1.mono hsz)); have HG1 := Lib.hid (HG.out.bel hb1); have hs1 := hb1.size; clear hb1) | (at_builtin; refine wpList_snoc _ rfl _ _ 39 rfl w.heap.size 2 (.int .i64 0) 8 Tryd.underlying39 infoInt rfl (by omega) _ ((ss.take k).map wV) (wV s) rfl (HG1.out.alloc _) _ _ rfl (heap_alloc_new _ _) rfl rfl (ic_one _) (by have := HLK.out; omega) (by omega) (by simp; omega) ?_; intro v5 w5 hg5 hgr5; have hb5 : Below w.heap.size w w5 := (HG1.out.alloc _).below (HB1.out.alloc (by omega) _) hgr5 (Nat.le_refl _) (by simp; omega); have HB5 := Lib.hid hb5; have HG5 := Lib.hid hg5; clear hg5 hgr5 hb5))
        go_roundw
        case rel => exact ⟨k + 1, by omega, by go_num, allOk_step HA.out HX.out HO.out, by rw [HST.out s HX.out]; exact HG5.out, HB5.out⟩
        case measure => simp [intOf]; omega
    · obtain rfl : k = n := by omega
      have HAL : Hid (ss.all wOk = true) := by have := HA.out; rwa [List.take_of_length_le (by rw [HLN.out]; exact Nat.le_refl _)] at this
      have HMP : Hid ((ss.take k).map wV = ss.map wV) := by show _ = _; rw [List.take_of_length_le (by rw [HLN.out]; exact Nat.le_refl _)]
      go_wp2
      go_ret2
      obtain ⟨A5, cap5, hv5, ho5⟩ := HG.out.own ic_len
      rw [HMP.out, List.length_map] at hv5 ho5
      exact ⟨.inl ⟨HAL.out, A5, cap5, by rw [hv5]; rfl, ho5⟩, HB.out⟩
end Go.Proofs.YtkegncanmfmmmaaDoor
