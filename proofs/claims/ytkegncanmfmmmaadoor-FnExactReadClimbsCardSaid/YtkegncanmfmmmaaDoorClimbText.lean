/- ClimbsText of the program and of the reference: cmS. -/
import Derived.Test.YtkegncanmfmmmaaDoorBRow
import Derived.Test.YtkegncanmfmmmaaDoorQuietTail2
import Derived.Test.YtkegncanmfmmmaaDoorClimbs
namespace Go.Proofs.YtkegncanmfmmmaaDoor
open Go.RowKit Go.Sort
set_option linter.unusedVariables false

def In64 (x : Int) : Prop := -9223372036854775808 ≤ x ∧ x ≤ 9223372036854775807
theorem decS_size (n : Int) (h : In64 n) : (decS n).size ≤ 21 := Lib.itoa_length_le n h.1 h.2
def sbc (s : ByteArray) : List Value := [.string s]
theorem sbc_len (s : ByteArray) : (sbc s).length = 1 := rfl
theorem sbc_one (s : ByteArray) : ∀ u ∈ sbc s, u.oneCell' = true := by intro u hu; simp [sbc] at hu; subst hu; rfl
theorem infoStr : (Tryd.prog.info? 9).map (fun i => (i.zero, i.size, i.bytes)) = some (some (.string ⟨#[]⟩), 1, 16) := by kernel_rfl
def plusB (c : Climb) : List UInt8 := if 0 < c.sections then [43] else []
def cWord (c : Climb) : ByteArray := decS c.crane ++ ⟨(plusB c).toArray⟩ ++ decS c.sections
def cText (ps : List Climb) : List UInt8 := Lib.join (ps.map fun c => (cWord c).data.toList) [32]
def cmS (ps : List Climb) : ByteArray := if climbsOk ps then ⟨(cText ps).toArray⟩ else ⟨#[]⟩
theorem cWord_toList (c : Climb) : (cWord c).data.toList = (decS c.crane).data.toList ++ plusB c ++ (decS c.sections).data.toList := by
  simp [cWord, ByteArray.data_append]
theorem cWord_len {c : Climb} (h : c.wf) : (cWord c).data.toList.length ≤ 43 := by
  have s1 := decS_size c.crane h.crane
  have s2 := decS_size c.sections h.sections
  have e1 : (decS c.crane).data.toList.length = (decS c.crane).size := Array.length_toList
  have e2 : (decS c.sections).data.toList.length = (decS c.sections).size := Array.length_toList
  have e3 : (plusB c).length ≤ 1 := by unfold plusB; split <;> simp
  rw [cWord_toList, List.length_append, List.length_append]
  omega
theorem joinTail_snoc (sep : List UInt8) (r : List (List UInt8)) (y : List UInt8) : Lib.joinTail sep (r ++ [y]) = Lib.joinTail sep r ++ sep ++ y := by
  simp [Lib.joinTail]
theorem join_snoc (xs : List (List UInt8)) (y sep : List UInt8) : Lib.join (xs ++ [y]) sep = (if xs = [] then Lib.join xs sep else Lib.join xs sep ++ sep) ++ y := by
  cases xs with
  | nil => simp [Lib.join_one, Lib.join_nil]
  | cons x r => rw [List.cons_append, Lib.join_cons, joinTail_snoc, Lib.join_cons, if_neg (by simp)]; simp
theorem cText_step {ps : List Climb} {k : Nat} {c : Climb} (h : ps[k]? = some c) : cText (ps.take (k + 1)) = (if k = 0 then cText (ps.take k) else cText (ps.take k) ++ [32]) ++ (cWord c).data.toList := by
  have hk : k < ps.length := (List.getElem?_eq_some_iff.1 h).1
  unfold cText
  rw [List.take_add_one, h, List.map_append]
  have e : ((ps.take k).map fun c => (cWord c).data.toList) = [] ↔ k = 0 := by
    rw [List.map_eq_nil_iff, List.take_eq_nil_iff]
    constructor
    · rintro (h0 | h0)
      · exact h0
      · rw [h0] at hk; exact absurd hk (by simp)
    · exact .inl
  show Lib.join (_ ++ [_]) _ = _
  rw [join_snoc]
  by_cases h0 : k = 0
  · rw [if_pos h0, if_pos (e.2 h0)]
  · rw [if_neg h0, if_neg (fun h1 => h0 (e.1 h1))]
theorem cText_len : ∀ {ps : List Climb} (_ : ∀ c ∈ ps, c.wf) (k : Nat), (cText (ps.take k)).length ≤ 44 * k := by
  intro ps hw k
  induction k with
  | zero => simp [cText, Lib.join_nil]
  | succ k ih =>
    cases h : ps[k]? with
    | none =>
      have hl : ps.length ≤ k := List.getElem?_eq_none_iff.1 h
      rw [List.take_of_length_le (by omega)]
      rw [List.take_of_length_le hl] at ih
      omega
    | some c =>
      have h1 := cWord_len (hw c (List.mem_of_getElem? h))
      rw [cText_step h, List.length_append]
      split
      · omega
      · simp only [List.length_append, List.length_singleton]; omega
theorem climbsOk_eq (A : Option Addr) (n c : Nat) (ps : List Climb) (w : World) (lo : Nat) (h : Arr Climb.cs 2 w lo w.heap.size A n ps) (hn : n ≤ 9223372036854775807) {v : Bool} (hv : climbsOk ps = v) :
    Calls Tryd.prog 51 #[.slice A n c] w fun e w' => e = .returned (.bool v) ∧ Below w.heap.size w w' := hv ▸ climbsOk_any A n c ps w lo h hn
theorem l23Ok_eq (A : Option Addr) (n c : Nat) (ps : List Climb) (w : World) (lo : Nat) (h : Arr Climb.cs 2 w lo w.heap.size A n ps) (hn : n ≤ 9223372036854775807) {v : Bool} (hv : climbsOk ps = v) :
    Calls Tryd.prog 46 #[.slice A n c] w fun e w' => e = .returned (.bool v) ∧ w = w' := hv ▸ l23Ok_any A n c ps w lo h hn

set_option maxRecDepth 100000 in
set_option maxHeartbeats 3200000 in
theorem climbsText_any (A : Option Addr) (n c : Nat) (ps : List Climb) (w : World) (lo : Nat) (h : Arr Climb.cs 2 w lo w.heap.size A n ps) (hn : n ≤ 1048576) (hwf : ∀ p ∈ ps, p.wf) (ht : TabW w) :
    Calls Tryd.prog 52 #[.slice A n c] w fun e w' => e = .returned (.string (cmS ps)) ∧ Below w.heap.size w w' := by
  have HT := Lib.hid ht
  have HWF := Lib.hid hwf
  have HLN := Lib.hid h.1
  clear ht hwf
  cases hv : climbsOk ps
  · have HE : Hid (cmS ps = ⟨#[]⟩) := by show _ = _; unfold cmS; rw [hv]; rfl
    go_enter Tryd.func52, Tryd.ntmps52
    go_wp2_with fail
    refine (climbsOk_eq A n c ps w lo h (by omega) hv).mono ?_
    rintro e w1 ⟨rfl, hb1⟩
    go_wp2
    go_ret
    exact ⟨by rw [HE.out]; rfl, hb1⟩
  · have HE : Hid (cmS ps = ⟨(cText ps).toArray⟩) := by show _ = _; unfold cmS; rw [hv]; rfl
    have hn60 : n ≤ 60 := by rw [← HLN.out]; exact climbsOk_len hv
    go_enter Tryd.func52, Tryd.ntmps52
    go_wp2_with fail
    refine (climbsOk_eq A n c ps w lo h (by omega) hv).mono ?_
    rintro e w1 ⟨rfl, hb1⟩
    have HB0 := Lib.hid hb1
    clear hv hb1
    go_wp2
    go_loopw [3, 12] (fun v i wr => ∃ k : Nat, k ≤ n ∧ i = .int .i64 k ∧ Grow sbc 1 wr w.heap.size 9 v ((ps.take k).map cWord) ∧ Below w.heap.size w wr) (fun _ i _ => n - (intOf i).toNat)
    case atStart => exact ⟨0, Nat.zero_le _, rfl, Grow.nil _ _ _, HB0.out⟩
    case round v _ =>
      obtain ⟨k, hk, rfl, hg, hb⟩ := hrel
      have HG := Lib.hid hg
      have HB := Lib.hid hb
      have hsz := hb.size
      clear hg
      by_cases hlt : k < n
      · obtain ⟨b, off, p, rfl, hx, _, hbl, c0, c1⟩ := Climb.at (h.below hb) hlt
        have HX := Lib.hid hx
        have hk1 : (k : Int) < (n : Int) := by omega
        have hpw := HWF.out p (List.mem_of_getElem? hx)
        have i1 : In64 p.crane := hpw.crane
        have i2 : In64 p.sections := hpw.sections
        have s1 := decS_size _ i1
        have s2 := decS_size _ i2
        have hlk : ((ps.take k).map cWord).length ≤ 60 := by rw [List.length_map]; exact Nat.le_trans (List.length_take_le ..) (by omega)
        have HLK := Lib.hid hlk
        have HST : Hid ((ps.take (k + 1)).map cWord = (ps.take k).map cWord ++ [cWord p]) := by show _ = _; rw [List.take_add_one, hx]; simp
        obtain ⟨W, hW⟩ : ∃ W : World, W = wr.alloc (.cells #[.int .i64 p.crane, .int .i64 p.sections] 78) := ⟨_, rfl⟩
        have hbW : Below wr.heap.size wr W := by rw [hW]; exact (Below.refl _ _).alloc (Nat.le_refl _) _
        have HBW := Lib.hid hbW
        have t0 := cell_regrown (show W.cell? ⟨wr.heap.size, 0, none⟩ = some (.int .i64 p.crane) by rw [hW]; simp)
        have t1 := cell_regrown (show W.cell? ⟨wr.heap.size, 1, none⟩ = some (.int .i64 p.sections) by rw [hW]; simp)
        have T1 : Hid (W.cell? ⟨wr.heap.size, 1, none⟩ = some (.int .i64 p.sections)) := by show _ = _; rw [hW]; simp
        have HDD : Hid (∀ x, In64 x → ∀ d os, Calls Tryd.prog 99 #[.int .i64 x] (grow (redrawn W d) os) fun e w' => e = .returned (.string (decS x)) ∧ Below (grow (redrawn W d) os).heap.size (grow (redrawn W d) os) w') := fun x hx d os => decimal_any x hx.1 hx.2 _ (((HT.out.bel HB.out).bel hbW).bel (below_regrown W d os))
        have hlk2 := HLK.out
        clear hx hpw hb hbW hlk hlk2
        by_cases hp : 0 < p.sections
        · have HPL : Hid ((⟨(plusB p).toArray⟩ : ByteArray) = ⟨#[43]⟩) := by show _ = _; unfold plusB; rw [if_pos hp]
          have HWD : Hid (cWord p = decS p.crane ++ ⟨#[43]⟩ ++ decS p.sections) := by show _ = _; unfold cWord; rw [HPL.out]
          go_wp2
          rw [← hW]
          clear hW c0 c1
          refine wp_region_below_move 10 (by kernel_rfl) (by kernel_rfl) _ rfl rfl (fun _ _ _ h => h) ?_
          simp only [Nat.reduceSub, List.take_succ_cons, List.take_zero, List.drop_succ_cons, List.drop_zero]
          conv => enter [6]; simp [Act.put, Act.eval]
          repeat (go_big_quiet_step (first | (go_at_call 99; exact Calls.regrown_of (HDD.out _ (by assumption) _ _))))
          refine wpQuiet_nil ?_
          intro _ hw9
          obtain ⟨⟨dq, osq⟩, hw9⟩ := hw9
          subst hw9
          have hb1 := below_regrown W dq osq
          dsimp only at hb1 ⊢
          generalize grow (redrawn W dq) osq = W2 at hb1 ⊢
          have HBA := Lib.hid (HBW.out.trans (hb1.mono HBW.out.size))
          have HG2 := Lib.hid (HG.out.bel HBA.out)
          have hs2 : w.heap.size ≤ W2.heap.size := by have := HBA.out.size; omega
          clear hb1 t0 t1
          go_wp2_with (at_builtin; refine wpList_snoc _ rfl _ _ 75 rfl w.heap.size 9 (.string ⟨#[]⟩) 16 Tryd.underlying75 infoStr rfl (by omega) _ ((ps.take k).map cWord) (cWord p) rfl (HG2.out.alloc _) _ _ rfl (heap_alloc_new _ _) (by rw [HWD.out]; rfl) rfl (sbc_one _) (by have := HLK.out; omega) (by omega) (by simp; omega) ?_; intro v5 w5 hg5 hgr5)
          have HB5 : Hid (RowKit.Below w.heap.size w w5) := (HG2.out.alloc _).below ((HB.out.trans (HBA.out.mono hsz)).alloc hs2 _) hgr5 (Nat.le_refl _) (by simp; omega)
          rw [← HST.out] at hg5
          have HG5 := Lib.hid hg5
          clear hg5 hgr5
          go_wp2
          go_roundw
          case rel => exact ⟨k + 1, by omega, by simp, HG5.out, HB5.out⟩
          case measure => simp [intOf]; omega
        · have HPL : Hid ((⟨(plusB p).toArray⟩ : ByteArray) = ⟨#[]⟩) := by show _ = _; unfold plusB; rw [if_neg hp]
          have hp2 : p.sections ≤ 0 := by omega
          have HWD : Hid (cWord p = decS p.crane ++ ⟨#[]⟩ ++ decS p.sections) := by show _ = _; unfold cWord; rw [HPL.out]
          go_wp2
          rw [← hW]
          clear hW c0 c1
          refine wp_region_below_move 10 (by kernel_rfl) (by kernel_rfl) _ rfl rfl (fun _ _ _ h => h) ?_
          simp only [Nat.reduceSub, List.take_succ_cons, List.take_zero, List.drop_succ_cons, List.drop_zero]
          conv => enter [6]; simp [Act.put, Act.eval]
          repeat (go_big_quiet_step (first | (go_at_call 99; exact Calls.regrown_of (HDD.out _ (by assumption) _ _))))
          refine wpQuiet_nil ?_
          intro _ hw9
          obtain ⟨⟨dq, osq⟩, hw9⟩ := hw9
          subst hw9
          have hb1 := below_regrown W dq osq
          dsimp only at hb1 ⊢
          generalize grow (redrawn W dq) osq = W2 at hb1 ⊢
          have HBA := Lib.hid (HBW.out.trans (hb1.mono HBW.out.size))
          have HG2 := Lib.hid (HG.out.bel HBA.out)
          have hs2 : w.heap.size ≤ W2.heap.size := by have := HBA.out.size; omega
          clear hb1 t0 t1
          go_wp2_with (at_builtin; refine wpList_snoc _ rfl _ _ 75 rfl w.heap.size 9 (.string ⟨#[]⟩) 16 Tryd.underlying75 infoStr rfl (by omega) _ ((ps.take k).map cWord) (cWord p) rfl (HG2.out.alloc _) _ _ rfl (heap_alloc_new _ _) (by rw [HWD.out]; rfl) rfl (sbc_one _) (by have := HLK.out; omega) (by omega) (by simp; omega) ?_; intro v5 w5 hg5 hgr5)
          have HB5 : Hid (RowKit.Below w.heap.size w w5) := (HG2.out.alloc _).below ((HB.out.trans (HBA.out.mono hsz)).alloc hs2 _) hgr5 (Nat.le_refl _) (by simp; omega)
          rw [← HST.out] at hg5
          have HG5 := Lib.hid hg5
          clear hg5 hgr5
          go_wp2
          go_roundw
          case rel => exact ⟨k + 1, by omega, by simp, HG5.out, HB5.out⟩
          case measure => simp [intOf]; omega
      · have hkn : k = n := by omega
        subst hkn
        have HTK : Hid (ps.take k = ps) := by show _ = _; rw [← HLN.out]; exact List.take_length ..
        have hg2 := HG.out
        rw [HTK.out] at hg2
        have HLT : Hid ((cText ps).length ≤ 2640) := by
          have := cText_len HWF.out k
          rw [HTK.out] at this
          exact Nat.le_trans this (by omega)
        have HJ : Hid (Lib.join ((ps.map cWord).map (·.data.toList)) [32] = cText ps) := by show _ = _; unfold cText; rw [List.map_map]; rfl
        have hl60 : (ps.map cWord).length ≤ 60 := by rw [List.length_map, HLN.out]; exact hn60
        clear HG HTK
        generalize ps.map cWord = ws at *
        have HG2 := Lib.hid hg2
        obtain ⟨A2, cap, rfl, ho⟩ := hg2.own sbc_len
        clear hg2
        by_cases h0 : 0 < ws.length
        · obtain ⟨g, cs, e1, h1, h2, h3, h4, h5⟩ := ho.2 h0
          subst e1
          have hcap : ws.length ≤ cap := by
            obtain ⟨_, h6⟩ := HG2.out
            rcases h6 with ⟨h6, _⟩ | ⟨g', cap', cur, h6, _, _, h7, _⟩
            · cases h6
            · cases h6; exact h7
          have HCALL := Lib.hid (Tryd.strings_Join g 0 cap ws ⟨#[32]⟩ wr (fun j x hj => by
            rw [cell_of_row wr g (0 + j) cs _ (0, 0) h3]
            have := h5 j x hj 0 (by decide)
            rw [show j * 1 + 0 = 0 + j by omega] at this
            rw [this]; rfl) h2 (by omega) hcap (by
              show (Lib.join (ws.map (·.data.toList)) [32]).length ≤ _
              rw [HJ.out]; have := HLT.out; omega))
          clear ho h3 h4 h5 HG2
          go_wp2_with fail
          refine HCALL.out.mono ?_
          rintro e w3 ⟨rfl, hb3⟩
          go_wp2
          go_ret
          exact ⟨by rw [HE.out, ← HJ.out]; rfl, hb.trans (hb3.mono hsz)⟩
        · have hnil : ws = [] := List.length_eq_zero_iff.1 (by omega)
          have HN : Hid (cText ps = []) := by show _ = _; rw [← HJ.out, hnil]; rfl
          subst hnil
          clear ho HG2
          go_wp2_with fail
          refine (Tryd.strings_Join_none A2 cap ⟨#[32]⟩ _).mono ?_
          rintro e w3 ⟨rfl, rfl⟩
          go_wp2
          go_ret
          exact ⟨by rw [HE.out, HN.out]; rfl, hb⟩

end Go.Proofs.YtkegncanmfmmmaaDoor
