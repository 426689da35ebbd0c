/- PersonsText of the program and of the reference: psS. -/
import Derived.Test.YtkegncanmfmmmaaDoorBRow
import Derived.Test.YtkegncanmfmmmaaDoorQuietTail
import Derived.Test.YtkegncanmfmmmaaDoorRoles
import Derived.Test.YtkegncanmfmmmaaDoorValidPersons
namespace Go.Proofs.YtkegncanmfmmmaaDoor
open Go.RowKit Go.Sort
set_option linter.unusedVariables false

def In64 (x : Int) : Prop := -9223372036854775808 ≤ x ∧ x ≤ 9223372036854775807
theorem decS_size (n : Int) (h : In64 n) : (decS n).size ≤ 21 := Lib.itoa_length_le n h.1 h.2
def rlS (r : Int) : ByteArray := ⟨(rlB r.toNat).toArray⟩
def pLine (p : Person) : ByteArray := p.name ++ ⟨#[32]⟩ ++ rlS p.roles ++ ⟨#[32]⟩ ++ decS p.till ++ ⟨#[10]⟩
def psL (ps : List Person) : List UInt8 := (ps.map fun p => (pLine p).data.toList).flatten
def psS (ps : List Person) : ByteArray := if personsOk ps then ⟨(psL ps).toArray⟩ else ⟨#[]⟩
theorem rlB_le (r : Nat) : (rlB r).length ≤ 3 := by
  unfold rlB; split
  · simp
  · exact rlTo_le r 3
theorem rlS_size (r : Int) : (rlS r).size ≤ 3 := by
  have h : (rlS r).size = (rlB r.toNat).length := by show (rlB r.toNat).toArray.size = _; simp
  rw [h]; exact rlB_le _
theorem personOk_mem {ps : List Person} (h : personsOk ps = true) {i : Nat} {p : Person} (hi : ps[i]? = some p) : pOk p = true := by
  unfold personsOk at h
  rw [Bool.and_eq_true] at h
  have := allTo_iff.1 h.1 i (List.getElem?_eq_some_iff.1 hi).1
  rw [okAt_of hi, Bool.and_eq_true] at this
  exact this.1
theorem personsOk_len {ps : List Person} (h : personsOk ps = true) : ps.length ≤ 30 := by
  unfold personsOk at h
  rw [Bool.and_eq_true] at h
  exact of_decide_eq_true h.2
theorem pOk_parts {p : Person} (h : pOk p = true) : p.name.size ≤ 12 ∧ (∃ r : Nat, p.roles = (r : Int) ∧ r ≤ 7) := by
  unfold pOk at h
  simp only [Bool.and_eq_true] at h
  have h1 := h.1
  unfold nmOk at h1
  simp only [Bool.and_eq_true, decide_eq_true_eq] at h1
  have h2 := inB_true.1 h.2.1
  exact ⟨h1.2.2, p.roles.toNat, by omega, by omega⟩
theorem pLine_toList (p : Person) : (pLine p).data.toList = p.name.data.toList ++ [32] ++ rlB p.roles.toNat ++ [32] ++ (decS p.till).data.toList ++ [10] := by
  simp [pLine, rlS, ByteArray.data_append]
theorem pLine_len {p : Person} (h : pOk p = true) (hw : p.wf) : (pLine p).size ≤ 39 := by
  have h1 := (pOk_parts h).1
  have h2 := rlS_size p.roles
  have h3 := decS_size p.till hw.till
  have e1 : (⟨#[32]⟩ : ByteArray).size = 1 := rfl
  have e2 : (⟨#[10]⟩ : ByteArray).size = 1 := rfl
  unfold pLine
  rw [ByteArray.size_append, ByteArray.size_append, ByteArray.size_append, ByteArray.size_append, ByteArray.size_append]
  omega
theorem psL_step {ps : List Person} {k : Nat} {p : Person} (h : ps[k]? = some p) : psL (ps.take (k + 1)) = psL (ps.take k) ++ (pLine p).data.toList := by
  rw [List.take_add_one, h]; simp [psL]
theorem psL_len {ps : List Person} (hok : personsOk ps = true) (hw : ∀ p ∈ ps, p.wf) (k : Nat) : (psL (ps.take k)).length ≤ 39 * k := by
  induction k with
  | zero => simp [psL]
  | succ k ih =>
    cases h : ps[k]? with
    | none =>
      have hl : ps.length ≤ k := List.getElem?_eq_none_iff.1 h
      rw [List.take_of_length_le (by omega)]
      rw [List.take_of_length_le hl] at ih
      omega
    | some p =>
      have h1 := pLine_len (personOk_mem hok h) (hw p (List.mem_of_getElem? h))
      have h2 : (pLine p).data.toList.length = (pLine p).size := Array.length_toList
      rw [psL_step h, List.length_append]
      omega
theorem validPersons_eq (A : Option Addr) (n c : Nat) (ps : List Person) (w : World) (lo : Nat) (h : Arr Person.cs 3 w lo w.heap.size A n ps) (hn : n ≤ 1048576) (hp : ∀ p ∈ ps, p.wf) {v : Bool} (hv : personsOk ps = v) :
    Calls Tryd.prog 61 #[.slice A n c] w fun e w' => e = .returned (.bool v) ∧ Below w.heap.size w w' := hv ▸ validPersons_any A n c ps w lo h hn hp
theorem l24Ok_eq (A : Option Addr) (n c : Nat) (ps : List Person) (w : World) (lo : Nat) (h : Arr Person.cs 3 w lo w.heap.size A n ps) (hn : n ≤ 1048576) (hp : ∀ p ∈ ps, p.wf) {v : Bool} (hv : personsOk ps = v) :
    Calls Tryd.prog 56 #[.slice A n c] w fun e w' => e = .returned (.bool v) ∧ Below w.heap.size w w' := hv ▸ specOk_any A n c ps w lo h hn hp
theorem letters_any (w : World) : Calls Tryd.prog 103 #[] w fun e w' => e = .returned (.string ⟨#[111, 115, 114]⟩) ∧ w = w' := by
  go_enter Tryd.func103, Tryd.ntmps103
  go_wp2
  go_ret
  exact ⟨rfl, rfl⟩

set_option maxRecDepth 100000 in
set_option maxHeartbeats 3200000 in
theorem personsText_any (A : Option Addr) (n c : Nat) (ps : List Person) (w : World) (lo : Nat) (h : Arr Person.cs 3 w lo w.heap.size A n ps) (hn : n ≤ 1048576) (hwf : ∀ p ∈ ps, p.wf) (ht : TabW w) :
    Calls Tryd.prog 62 #[.slice A n c] w fun e w' => e = .returned (.string (psS ps)) ∧ Below w.heap.size w w' := by
  have HT := Lib.hid ht
  have HWF := Lib.hid hwf
  have HLN := Lib.hid h.1
  clear ht
  cases hv : personsOk ps
  · have HE : Hid (psS ps = ⟨#[]⟩) := by show _ = _; unfold psS; rw [hv]; rfl
    go_enter Tryd.func62, Tryd.ntmps62
    go_wp2_with fail
    refine (validPersons_eq A n c ps w lo h hn hwf hv).mono ?_
    rintro e w1 ⟨rfl, hb1⟩
    go_wp2
    go_ret
    exact ⟨by rw [HE.out]; rfl, hb1⟩
  · have HE : Hid (psS ps = ⟨(psL ps).toArray⟩) := by show _ = _; unfold psS; rw [hv]; rfl
    have HOK := Lib.hid hv
    have hn30 : n ≤ 30 := by rw [← HLN.out]; exact personsOk_len hv
    go_enter Tryd.func62, Tryd.ntmps62
    go_wp2_with fail
    refine (validPersons_eq A n c ps w lo h hn hwf hv).mono ?_
    rintro e w1 ⟨rfl, hb1⟩
    obtain ⟨W, hW⟩ : ∃ W : World, W = w1.alloc (.cells #[.pointer none, .slice none 0 0] 149) := ⟨_, rfl⟩
    have HB0 : Hid (RowKit.Below w.heap.size w W) := by show _; rw [hW]; exact hb1.alloc hb1.size _
    have HD0 : Hid (Bld w.heap.size w1.heap.size [] W) := by show _; rw [hW]; exact Bld.new w1 _ hb1.size
    clear hv hwf
    go_wp2
    rw [← hW]
    clear hW hb1
    go_loopw [11] (fun i wr => ∃ k : Nat, k ≤ n ∧ i = .int .i64 k ∧ Bld w.heap.size w1.heap.size (psL (ps.take k)) wr ∧ Below w.heap.size w wr) (fun i _ => n - (intOf i).toNat)
    case atStart => exact ⟨0, Nat.zero_le _, rfl, HD0.out, HB0.out⟩
    case round =>
      obtain ⟨k, hk, rfl, hbd, hb⟩ := hrel
      have HBD := Lib.hid hbd
      have HB := Lib.hid hb
      have hsz := hb.size
      clear hbd
      by_cases hlt : k < n
      · obtain ⟨b, off, p, rfl, hx, _, hbl, c0, c1, c2⟩ := Person.at (h.below hb) hlt
        have HX := Lib.hid hx
        have hk1 : (k : Int) < (n : Int) := by omega
        have hpo := personOk_mem HOK.out hx
        have hpw := HWF.out p (List.mem_of_getElem? hx)
        obtain ⟨hnm, r, hr, hr7⟩ := pOk_parts hpo
        rw [hr] at c1
        have HRL : Hid (rlS p.roles = ⟨(rlB r).toArray⟩) := by show _ = _; unfold rlS; rw [hr]; rfl
        have i1 : In64 p.till := hpw.till
        have s1 := decS_size _ i1
        have s2 := rlB_le r
        have HROOM : Hid ((psL (ps.take k)).length + (pLine p).size ≤ 140737488355328) := by
          have h1 := psL_len HOK.out HWF.out k
          have h2 := pLine_len hpo hpw
          show _ ≤ _
          omega
        obtain ⟨W, hW⟩ : ∃ W : World, W = wr.alloc (.cells #[.string p.name, .int .i64 (r : Int), .int .i64 p.till] 92) := ⟨_, rfl⟩
        have hbW : Below wr.heap.size wr W := by rw [hW]; exact (Below.refl _ _).alloc (Nat.le_refl _) _
        have HBW := Lib.hid hbW
        have t0 := cell_regrown (show W.cell? ⟨wr.heap.size, 0, none⟩ = some (.string p.name) by rw [hW]; simp)
        have t1 := cell_regrown (show W.cell? ⟨wr.heap.size, 1, none⟩ = some (.int .i64 (r : Int)) by rw [hW]; simp)
        have t2 := cell_regrown (show W.cell? ⟨wr.heap.size, 2, none⟩ = some (.int .i64 p.till) by rw [hW]; simp)
        have HDD : Hid (∀ d os, Calls Tryd.prog 99 #[.int .i64 p.till] (grow (redrawn W d) os) fun e w' => e = .returned (.string (decS p.till)) ∧ Below (grow (redrawn W d) os).heap.size (grow (redrawn W d) os) w') := fun d os => decimal_any _ i1.1 i1.2 _ (((HT.out.bel HB.out).bel hbW).bel (below_regrown W d os))
        have HRR : Hid (∀ d os, Calls Tryd.prog 111 #[.int .i64 (r : Int)] (grow (redrawn W d) os) fun e w' => e = .returned (.string ⟨(rlB r).toArray⟩) ∧ Below (grow (redrawn W d) os).heap.size (grow (redrawn W d) os) w') := fun d os => rolesText_any r hr7 _
        have HLINE : Hid (pLine p = p.name ++ ⟨#[32]⟩ ++ ⟨(rlB r).toArray⟩ ++ ⟨#[32]⟩ ++ decS p.till ++ ⟨#[10]⟩) := by show _ = _; unfold pLine; rw [HRL.out]
        clear hx hpw hb hbW hpo hr
        go_wp2
        rw [← hW]
        clear hW c0 c1 c2
        refine wp_region_below_tail 13 (by kernel_rfl) (by kernel_rfl) ?_
        simp only [List.take_succ_cons, List.take_zero, List.drop_succ_cons, List.drop_zero]
        repeat (go_big_quiet_step (first | (go_at_call 111; exact Calls.regrown_of (HRR.out _ _)) | (go_at_call 99; exact Calls.regrown_of (HDD.out _ _))))
        refine wpQuiet_nil ?_
        intro _ hw9
        obtain ⟨⟨dq, osq⟩, hw9⟩ := hw9
        subst hw9
        have hb1 := below_regrown W dq osq
        dsimp only at hb1 ⊢
        generalize grow (redrawn W dq) osq = W2 at hb1 ⊢
        have HBA := Lib.hid (HBW.out.trans (hb1.mono HBW.out.size))
        have HBD2 := Lib.hid (HBD.out.bel HBA.out)
        have hs2 : w.heap.size ≤ W2.heap.size := by have := HBA.out.size; omega
        clear hb1
        go_wp2_with fail
        rw [← HLINE.out]
        refine (writeString_any _ _ _ (pLine p) _ HBD2.out HROOM.out hs2).mono ?_
        rintro e w3 ⟨rfl, hd3, hb3⟩
        rw [← psL_step HX.out] at hd3
        have HD3 := Lib.hid hd3
        have HB3 := Lib.hid ((HB.out.trans (HBA.out.mono hsz)).trans hb3)
        clear hd3 hb3
        go_wp2
        go_roundw
        case rel => exact ⟨k + 1, by omega, by simp, HD3.out, HB3.out⟩
        case measure => simp [intOf]; omega
      · have hkn : k = n := by omega
        subst hkn
        have HTK : Hid (ps.take k = ps) := by show _ = _; rw [← HLN.out]; exact List.take_length ..
        go_wp2_with fail
        refine (builderString_any _ _ _ _ HBD.out hsz).mono ?_
        rintro e w3 ⟨rfl, hb3⟩
        go_wp2
        go_ret
        exact ⟨by rw [HE.out, HTK.out]; rfl, HB.out.trans hb3⟩

end Go.Proofs.YtkegncanmfmmmaaDoor
