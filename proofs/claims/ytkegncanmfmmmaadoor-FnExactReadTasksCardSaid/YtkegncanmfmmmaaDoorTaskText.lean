/- TasksText of the program and of the reference: tksS. -/
import Derived.Test.YtkegncanmfmmmaaDoorBRow
import Derived.Test.YtkegncanmfmmmaaDoorQuietTail
import Derived.Test.YtkegncanmfmmmaaDoorValidTasks
namespace Go.Proofs.YtkegncanmfmmmaaDoor
open Go.RowKit Go.Sort
set_option linter.unusedVariables false

def In64 (x : Int) : Prop := -9223372036854775808 ≤ x ∧ x ≤ 9223372036854775807
theorem decS_size (n : Int) (h : In64 n) : (decS n).size ≤ 21 := Lib.itoa_length_le n h.1 h.2
def tkLine (p : Task) : ByteArray := decS p.start ++ ⟨#[46, 46]⟩ ++ decS p.stop ++ ⟨#[32, 99, 114, 97, 110, 101, 32]⟩ ++ decS p.crane ++ ⟨#[32, 108, 105, 102, 116, 32]⟩ ++ decS p.lift ++ ⟨#[10]⟩
def tksL (ps : List Task) : List UInt8 := (ps.map fun p => (tkLine p).data.toList).flatten
def tksS (ps : List Task) : ByteArray := if tasksOk ps then ⟨(tksL ps).toArray⟩ else ⟨#[]⟩
theorem tkLine_size {p : Task} (h : p.wf) : (tkLine p).size ≤ 100 := by
  have s1 := decS_size p.start h.start
  have s2 := decS_size p.stop h.stop
  have s3 := decS_size p.crane h.crane
  have s4 := decS_size p.lift h.lift
  have e1 : (⟨#[46, 46]⟩ : ByteArray).size = 2 := rfl
  have e2 : (⟨#[32, 99, 114, 97, 110, 101, 32]⟩ : ByteArray).size = 7 := rfl
  have e3 : (⟨#[32, 108, 105, 102, 116, 32]⟩ : ByteArray).size = 6 := rfl
  have e4 : (⟨#[10]⟩ : ByteArray).size = 1 := rfl
  unfold tkLine
  rw [ByteArray.size_append, ByteArray.size_append, ByteArray.size_append, ByteArray.size_append, ByteArray.size_append, ByteArray.size_append, ByteArray.size_append]
  omega
theorem tksL_len : ∀ {ps : List Task}, (∀ p ∈ ps, p.wf) → (tksL ps).length ≤ 100 * ps.length
  | [], _ => Nat.le_refl _
  | p :: ps, h => by
    have h1 := tksL_len (ps := ps) fun q hq => h q (List.mem_cons_of_mem _ hq)
    have h2 := tkLine_size (h p (List.mem_cons_self ..))
    have h3 : (tkLine p).data.toList.length = (tkLine p).size := Array.length_toList
    simp only [tksL, List.map_cons, List.flatten_cons, List.length_append, List.length_cons] at h1 ⊢
    omega
theorem tksL_step {ps : List Task} {k : Nat} {p : Task} (h : ps[k]? = some p) : tksL (ps.take (k + 1)) = tksL (ps.take k) ++ (tkLine p).data.toList := by
  rw [List.take_add_one, h]; simp [tksL]
theorem tksL_room {ps : List Task} {k : Nat} {p : Task} (hw : ∀ p ∈ ps, p.wf) (h : ps[k]? = some p) (hn : ps.length ≤ 1048576) : (tksL (ps.take k)).length + (tkLine p).size ≤ 140737488355328 := by
  have h1 := tksL_len (ps := ps.take k) fun q hq => hw q (List.mem_of_mem_take hq)
  have h2 := tkLine_size (hw p (List.mem_of_getElem? h))
  have h3 := List.length_take_le' k ps
  omega
theorem validTasks_eq (A : Option Addr) (n c : Nat) (ps : List Task) (w : World) (lo : Nat) (h : Arr Task.cs 4 w lo w.heap.size A n ps) (hn : n ≤ 1048576) {v : Bool} (hv : tasksOk ps = v) :
    Calls Tryd.prog 68 #[.slice A n c] w fun e w' => e = .returned (.bool v) ∧ Below w.heap.size w w' := hv ▸ validTasks_any A n c ps w lo h hn
theorem l11Ok_eq (A : Option Addr) (n c : Nat) (ps : List Task) (w : World) (lo : Nat) (h : Arr Task.cs 4 w lo w.heap.size A n ps) (hn : n ≤ 1048576) {v : Bool} (hv : tasksOk ps = v) :
    Calls Tryd.prog 66 #[.slice A n c] w fun e w' => e = .returned (.bool v) ∧ Below w.heap.size w w' := by
  refine (l11Ok_any A n c ps w lo h hn).mono ?_
  rintro e w' ⟨he, m, hm⟩
  rw [hv] at he
  exact ⟨he, by rw [hm]; exact bel_drewN (Below.refl _ _) m⟩

set_option maxRecDepth 100000 in
set_option maxHeartbeats 3200000 in
theorem tasksText_any (A : Option Addr) (n c : Nat) (ps : List Task) (w : World) (lo : Nat) (h : Arr Task.cs 4 w lo w.heap.size A n ps) (hn : n ≤ 1048576) (hwf : ∀ p ∈ ps, p.wf) (ht : TabW w) :
    Calls Tryd.prog 69 #[.slice A n c] w fun e w' => e = .returned (.string (tksS ps)) ∧ Below w.heap.size w w' := by
  have HT := Lib.hid ht
  have HWF := Lib.hid hwf
  have HLN := Lib.hid h.1
  clear ht hwf
  cases hv : tasksOk ps
  · have HE : Hid (tksS ps = ⟨#[]⟩) := by show _ = _; unfold tksS; rw [hv]; rfl
    go_enter Tryd.func69, Tryd.ntmps69
    go_wp2_with fail
    refine (validTasks_eq A n c ps w lo h hn hv).mono ?_
    rintro e w1 ⟨rfl, hb1⟩
    go_wp2
    go_ret
    exact ⟨by rw [HE.out]; rfl, hb1⟩
  · have HE : Hid (tksS ps = ⟨(tksL ps).toArray⟩) := by show _ = _; unfold tksS; rw [hv]; rfl
    go_enter Tryd.func69, Tryd.ntmps69
    go_wp2_with fail
    refine (validTasks_eq A n c ps w lo h hn hv).mono ?_
    rintro e w1 ⟨rfl, hb1⟩
    obtain ⟨W, hW⟩ : ∃ W : World, W = w1.alloc (.cells #[.pointer none, .slice none 0 0] 149) := ⟨_, rfl⟩
    have HB0 : Hid (Below w.heap.size w W) := by show _; rw [hW]; exact hb1.alloc hb1.size _
    have HD0 : Hid (Bld w.heap.size w1.heap.size [] W) := by show _; rw [hW]; exact Bld.new w1 _ hb1.size
    clear hv
    go_wp2
    rw [← hW]
    clear hW hb1
    go_loopw [11] (fun i wr => ∃ k : Nat, k ≤ n ∧ i = .int .i64 k ∧ Bld w.heap.size w1.heap.size (tksL (ps.take k)) wr ∧ Below w.heap.size w wr) (fun i _ => n - (intOf i).toNat)
    case atStart => exact ⟨0, Nat.zero_le _, rfl, HD0.out, HB0.out⟩
    case round =>
      obtain ⟨k, hk, rfl, hbd, hb⟩ := hrel
      have HBD := Lib.hid hbd
      have HB := Lib.hid hb
      have hsz := hb.size
      clear hbd
      by_cases hlt : k < n
      · obtain ⟨b, off, p, rfl, hx, _, hbl, c0, c1, c2, c3⟩ := Task.at (h.below hb) hlt
        have HX := Lib.hid hx
        have hk1 : (k : Int) < (n : Int) := by omega
        have hpw := HWF.out p (List.mem_of_getElem? hx)
        have i1 : In64 p.start := hpw.start
        have i2 : In64 p.stop := hpw.stop
        have i3 : In64 p.crane := hpw.crane
        have i4 : In64 p.lift := hpw.lift
        have s1 := decS_size _ i1
        have s2 := decS_size _ i2
        have s3 := decS_size _ i3
        have s4 := decS_size _ i4
        have HROOM : Hid ((tksL (ps.take k)).length + (tkLine p).size ≤ 140737488355328) := tksL_room HWF.out hx (by rw [HLN.out]; exact hn)
        obtain ⟨W, hW⟩ : ∃ W : World, W = wr.alloc (.cells #[.int .i64 p.lift, .int .i64 p.crane, .int .i64 p.start, .int .i64 p.stop] 102) := ⟨_, rfl⟩
        have hbW : Below wr.heap.size wr W := by rw [hW]; exact (Below.refl _ _).alloc (Nat.le_refl _) _
        have HBW := Lib.hid hbW
        have t0 := cell_regrown (show W.cell? ⟨wr.heap.size, 0, none⟩ = some (.int .i64 p.lift) by rw [hW]; simp)
        have t1 := cell_regrown (show W.cell? ⟨wr.heap.size, 1, none⟩ = some (.int .i64 p.crane) by rw [hW]; simp)
        have t2 := cell_regrown (show W.cell? ⟨wr.heap.size, 2, none⟩ = some (.int .i64 p.start) by rw [hW]; simp)
        have t3 := cell_regrown (show W.cell? ⟨wr.heap.size, 3, none⟩ = some (.int .i64 p.stop) by rw [hW]; simp)
        have HDD : Hid (∀ x, In64 x → ∀ d os, Calls Tryd.prog 99 #[.int .i64 x] (grow (redrawn W d) os) fun e w' => e = .returned (.string (decS x)) ∧ Below (grow (redrawn W d) os).heap.size (grow (redrawn W d) os) w') := fun x hx d os => decimal_any x hx.1 hx.2 _ (((HT.out.bel HB.out).bel hbW).bel (below_regrown W d os))
        clear hx hpw hb hbW
        go_wp2
        rw [← hW]
        clear hW c0 c1 c2 c3
        refine wp_region_below_tail 19 (by kernel_rfl) (by kernel_rfl) ?_
        simp only [List.take_succ_cons, List.take_zero, List.drop_succ_cons, List.drop_zero]
        repeat (go_big_quiet_step (first | (go_at_call 99; exact Calls.regrown_of (HDD.out _ (by assumption) _ _))))
        refine wpQuiet_nil ?_
        intro _ hw9
        obtain ⟨⟨dq, osq⟩, hw9⟩ := hw9
        subst hw9
        have hb1 := below_regrown W dq osq
        dsimp only at hb1 ⊢
        generalize grow (redrawn W dq) osq = W2 at hb1 ⊢
        have HBA := Lib.hid (HBW.out.trans (hb1.mono HBW.out.size))
        have HBD2 := Lib.hid (HBD.out.bel HBA.out)
        have hs2 : w.heap.size ≤ W2.heap.size := by have := HBA.out.size; omega
        clear hb1
        go_wp2_with fail
        refine (writeString_any _ _ _ (tkLine p) _ HBD2.out HROOM.out hs2).mono ?_
        rintro e w3 ⟨rfl, hd3, hb3⟩
        rw [← tksL_step HX.out] at hd3
        have HD3 := Lib.hid hd3
        have HB3 := Lib.hid ((HB.out.trans (HBA.out.mono hsz)).trans hb3)
        clear hd3 hb3
        go_wp2
        go_roundw
        case rel => exact ⟨k + 1, by omega, by simp, HD3.out, HB3.out⟩
        case measure => simp [intOf]; omega
      · have hkn : k = n := by omega
        subst hkn
        have HTK : Hid (ps.take k = ps) := by show _ = _; rw [← HLN.out]; exact List.take_length ..
        go_wp2_with fail
        refine (builderString_any _ _ _ _ HBD.out hsz).mono ?_
        rintro e w3 ⟨rfl, hb3⟩
        go_wp2
        go_ret
        exact ⟨by rw [HE.out, HTK.out]; rfl, HB.out.trans hb3⟩

end Go.Proofs.YtkegncanmfmmmaaDoor
