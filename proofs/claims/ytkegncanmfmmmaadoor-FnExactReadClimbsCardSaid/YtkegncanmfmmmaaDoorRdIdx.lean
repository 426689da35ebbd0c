/- strings.IndexAny at the two signs, for every text. -/
import Derived.Test.YtkegncanmfmmmaaDoorRdSplit
import Derived.Test.YtkegncanmfmmmaaDoorQuiet
import Derived.Laws.Runes
import Derived.WalkMore
import Derived.Lib.IndexAny
import Derived.Lib.TrimU
namespace Go.Proofs.YtkegncanmfmmmaaDoor
open Go.RowKit
set_option linter.unusedVariables false

theorem indexByte_none (c : Int) (w : World) : Calls Tryd.prog 105 #[.string ByteArray.empty, .int .u8 c] w fun e w' => e = .returned (.int .i64 (-1)) ∧ w = w' := (Tryd.strings_IndexByte ByteArray.empty c w).mono fun _ _ h => ⟨h.1, h.2.symm⟩
theorem iter_below (w : World) (s : ByteArray) (i : Nat) : Below w.heap.size w (w.iter s i) := (Below.refl _ _).alloc (Nat.le_refl _) _
set_option maxRecDepth 100000 in
set_option maxHeartbeats 3200000 in
theorem indexRuneHigh_any (r : Int) (h0 : 128 ≤ r) (h1 : r ≤ 1114111) (w : World) :
    Calls Tryd.prog 91 #[.string ⟨#[43, 45]⟩, .int .i32 r] w fun e w' => e = .returned (.int .i64 (-1)) ∧ Below w.heap.size w w' := by
  have hz : ¬ r < 128 := by omega
  have hz0 : (0 : Int) ≤ r := by omega
  by_cases hbad : r = 65533
  · subst hbad
    have hnx0 := fun ty => run_next_ascii (P := Tryd.prog) w ⟨#[43, 45]⟩ 0 ty (by decide) (by decide)
    have hnx1 := fun ty => run_next_ascii (P := Tryd.prog) w ⟨#[43, 45]⟩ 1 ty (by decide) (by decide)
    have hnx2 := run_next_end (P := Tryd.prog) w ⟨#[43, 45]⟩ 2
    go_enter Tryd.func91, Tryd.ntmps91
    go_wp2
    refine wp_loop_rounds 3 ?_
    rw [rounds_succ]
    go_wp2
    rw [rounds_succ]
    go_wp2
    rw [rounds_succ]
    go_wp2
    go_ret
    exact ⟨rfl, iter_below w _ _⟩
  · have hbb : (r == 65533) = false := beq_eq_false_iff_ne.2 hbad
    cases hv : Lib.validRune r with
    | false =>
      have HV := Lib.hid hv
      clear hbad hv
      go_enter Tryd.func91, Tryd.ntmps91
      go_wp2_with (go_at_call 130; refine (Tryd.utf8_ValidRune r w).mono ?_; rintro e w1 ⟨rfl, rfl⟩; rw [HV.out])
      go_ret
      exact ⟨rfl, Below.refl _ _⟩
    | true =>
      have HV := Lib.hid hv
      obtain ⟨e1, e2, e3⟩ := encode_facts r (by rw [validRune_eq]; exact hv) h0
      have hcv : ∀ W : World, (convert 21 9 (.int .i32 r)).run Tryd.prog W = .ok (.string (Utf8.encode r)) W := fun W => run_convert_int_string W _ _ _ _ (by rw [Tryd.underlying21]; rfl) Tryd.underlying9
      generalize Utf8.encode r = E at *
      clear hbad hv
      by_cases h3 : 3 ≤ E.size
      · have hlz : ¬ ((E.size - 1 : Nat) : Int) < 2 := by omega
        have hl1 : (E.size : Int) - 1 = ((E.size - 1 : Nat) : Int) := by omega
        go_enter Tryd.func91, Tryd.ntmps91
        go_wp2_with (go_at_call 130; refine (Tryd.utf8_ValidRune r w).mono ?_; rintro e w1 ⟨rfl, rfl⟩; rw [HV.out])
        go_step3
        go_wp2
        refine wp_loop_rounds 1 ?_
        rw [rounds_succ]
        go_wp2
        (try rw [Exit.noGoto_ret])
        go_ret
        exact ⟨rfl, Below.refl _ _⟩
      · have h2 : E.size = 2 := by omega
        have hbt := PlainAid.get_bt E
        have hb1 : 128 ≤ PlainAid.bt E 1 := by
          have := e3 (by omega)
          rw [← PlainAid.get_bt E 1 (by omega)]
          simp only [h2] at this
          exact_mod_cast this
        have hne : ((45 : Int) != PlainAid.bt E 1) = true := by rw [bne_iff_ne]; omega
        have h45 : ((((⟨#[43, 45]⟩ : ByteArray)[1]'(by decide)).toNat : Nat) : Int) = 45 := rfl
        clear e1 e2 e3
        go_enter Tryd.func91, Tryd.ntmps91
        go_wp2_with (go_at_call 130; refine (Tryd.utf8_ValidRune r w).mono ?_; rintro e w1 ⟨rfl, rfl⟩; rw [HV.out])
        go_step3
        go_wp2
        refine wp_loop_rounds 1 ?_
        rw [rounds_succ]
        go_wp2
        go_step3
        go_wp2
        go_quiet (fail)
        have hbq : Below w1.heap.size w1 (w1.drewN nq) := bel_drewN (Below.refl _ _) _
        generalize w1.drewN nq = W2 at hbq ⊢
        go_wp2
        have ew : IntKind.i64.wrap 2 = 2 := by rfl
        have hex : (⟨#[43, 45]⟩ : ByteArray).extract 2 2 = ⟨#[]⟩ := by rfl
        go_quiet ((go_at_call 105; exact quiet_left (indexByte_none _ _)))
        go_wp2
        repeat (first | rw [Exit.noGoto_ret] | (simp only [Exit.inBlock, Exit.then]))
        go_ret
        exact ⟨rfl, bel_drewN hbq _⟩
theorem indexAny_hi (chars : List UInt8) : ∀ l : List UInt8, Lib.indexAny l chars < l.length ∨ Lib.indexAny l chars = -1
  | [] => .inr rfl
  | b :: l => by
    have ih := indexAny_hi chars l
    simp only [Lib.indexAny, List.length_cons]
    split
    · left; omega
    · split
      · right; rfl
      · next h =>
        rcases ih with ih | ih
        · left; omega
        · exact absurd ih (by simpa using h)
/-- where a sign stands, as IndexAny tells it: exactly at ASCII texts, somewhere at others -/
def SgnAt (s : ByteArray) (v : Int) : Prop := -1 ≤ v ∧ (v < s.size ∨ v = -1) ∧ ((∀ (j : Nat) b, s.data.toList[j]? = some b → b.toNat < 128) → v = Lib.indexAny s.data.toList [43, 45])
theorem SgnAt.exact (s : ByteArray) : SgnAt s (Lib.indexAny s.data.toList [43, 45]) := ⟨Lib.indexAny_ge _ _, by have := indexAny_hi [43, 45] s.data.toList; have h9 : s.data.toList.length = s.size := Array.length_toList; omega, fun _ => rfl⟩
theorem pm_ascii : ∀ (j : Nat) (b : UInt8), (⟨#[43, 45]⟩ : ByteArray).data.toList[j]? = some b → b.toNat < 128 := fun j b h => by
  have : b ∈ [(43 : UInt8), 45] := List.mem_of_getElem? h
  simp at this
  rcases this with rfl | rfl <;> decide
theorem asciiSet_zero : (Tryd.prog.info? 130).map (fun i => (i.zero, i.size)) = some (some (.agg (Array.replicate 256 (.bool false))), 256) := by kernel_rfl
set_option maxRecDepth 100000 in
set_option maxHeartbeats 3200000 in
theorem indexShort_any (s : ByteArray) (h8 : s.size ≤ 8) (hno : ¬ ∀ (j : Nat) b, s.data.toList[j]? = some b → b.toNat < 128) (w : World) :
    Calls Tryd.prog 48 #[.string s, .string ⟨#[43, 45]⟩] w fun e w' => ∃ v, e = .returned (.int .i64 v) ∧ SgnAt s v ∧ Below w.heap.size w w' := by
  have HNO := Lib.hid hno
  clear hno
  have h8z : decide ((8 : Int) < (s.size : Int)) = false := decide_eq_false (by omega)
  have hw0 : (w.iter s 0).heap.size = w.heap.size + 1 := by simp [World.iter]
  go_enter Tryd.func48, Tryd.ntmps48
  go_wp2_with (go_at_call 92; refine (Tryd.strings_shouldUseASCIISet _ _).mono ?_; rintro e w' ⟨rfl, rfl⟩)
  go_loopg [9, 10] s.size (fun g _ _ wx => ∃ i : Nat, i ≤ s.size ∧ s.size ≤ i + g ∧ wx.heap[w'.heap.size]? = some (.stringIter s i) ∧ Below w'.heap.size w' wx)
  case atStart => exact ⟨0, Nat.zero_le _, by omega, World.iter_heap w' s 0, iter_below w' s 0⟩
  case round =>
    obtain ⟨i, hi, hfu, hit, hb⟩ := hrel
    have hsz := hb.size
    by_cases hlt : i < s.size
    · obtain ⟨g', rfl⟩ : ∃ g', gk = g' + 1 := ⟨gk - 1, by omega⟩
      have hnx := fun ty => Lib.run_next_any_at (P := Tryd.prog) wr w'.heap.size s i ty hit hlt
      have hr := Lib.rune_le s i
      have hwd := Lib.width_pos s i
      have hwn : i + (Utf8.decode s i).2 ≤ s.size := by
        have := Lib.decodeN_le_n' (s.size - i) (s.get! i).toNat (s.get! (i + 1)).toNat (s.get! (i + 2)).toNat (s.get! (i + 3)).toNat (by omega)
        rw [← Lib.decode_at] at this
        omega
      generalize (Utf8.decode s i).1 = R at *
      generalize (Utf8.decode s i).2 = K at *
      have hit2 := Lib.iterAt_heap wr w'.heap.size s i (i + K) hit
      have hb2 := Lib.below_iterAt hb (k := w'.heap.size) (Nat.le_refl _) s (i + K)
      have hsz2 := hb2.size
      have hITW : w'.heap.size < (wr.iterAt w'.heap.size s (i + K)).heap.size := (Array.getElem?_eq_some_iff.1 hit2).1
      have HIT := Lib.hid hit2
      have HB2 := Lib.hid hb2
      clear hit hit2 hb hb2 hsz
      by_cases h128 : R < 128
      · obtain ⟨v, hv⟩ : ∃ v, Lib.indexByte (⟨#[43, 45]⟩ : ByteArray).data.toList ((R : Int).toNat.toUInt8) = v := ⟨_, rfl⟩
        have hcr := fun W => Tryd.strings_IndexRune_ascii ⟨#[43, 45]⟩ (R : Int) W (by omega) (by omega)
        rw [hv] at hcr
        clear hv
        by_cases hv0 : 0 ≤ v
        · go_wp2_with (go_at_call 91; refine (hcr _).mono ?_; rintro e w2 ⟨rfl, rfl⟩)
          go_ret
          exact ⟨i, rfl, ⟨by omega, by omega, fun h => absurd h HNO.out⟩, HB2.out⟩
        · go_wp2_with (go_at_call 91; refine (hcr _).mono ?_; rintro e w2 ⟨rfl, rfl⟩)
          go_roundg g'
          case measure => omega
          case rel => exact ⟨i + K, hwn, by omega, HIT.out, HB2.out⟩
      · go_wp2_with (go_at_call 91; refine (indexRuneHigh_any (R : Int) (by omega) (by omega) _).mono ?_; rintro e w2 ⟨rfl, hb3⟩)
        go_roundg g'
        case measure => omega
        case rel => exact ⟨i + K, hwn, by omega, by rw [hb3.block _ hITW]; exact HIT.out, HB2.out.trans (hb3.mono hsz2)⟩
    · have hnx := fun ty => Lib.run_next_end_at (P := Tryd.prog) wr w'.heap.size s i ty hit hlt
      have HB := Lib.hid hb
      clear hb
      go_wp2
      go_ret
      exact ⟨-1, rfl, ⟨by omega, .inr rfl, fun h => absurd h HNO.out⟩, HB.out⟩
theorem indexAny_any (s : ByteArray) (hs : s.size ≤ 1048576) (w : World) :
    Calls Tryd.prog 48 #[.string s, .string ⟨#[43, 45]⟩] w fun e w' => ∃ v, e = .returned (.int .i64 v) ∧ SgnAt s v ∧ Below w.heap.size w w' := by
  by_cases hasc : ∀ (j : Nat) b, s.data.toList[j]? = some b → b.toNat < 128
  · exact (Tryd.strings_IndexAny_laid s ⟨#[43, 45]⟩ w (by omega) (by decide) hasc pm_ascii).mono fun _ _ h => ⟨_, h.1, SgnAt.exact s, h.2⟩
  · by_cases h8 : s.size ≤ 8
    · exact indexShort_any s h8 hasc w
    · refine (Tryd.strings_IndexAny_long (zero_of_info asciiSet_zero).1 s ⟨#[43, 45]⟩ w (by decide) (by omega) (by omega) (by decide) pm_ascii).mono ?_
      rintro e w' ⟨rfl, rfl⟩
      exact ⟨_, rfl, SgnAt.exact s, ((Below.refl _ _).alloc (Nat.le_refl _) _).alloc (by simp) _⟩
end Go.Proofs.YtkegncanmfmmmaaDoor
