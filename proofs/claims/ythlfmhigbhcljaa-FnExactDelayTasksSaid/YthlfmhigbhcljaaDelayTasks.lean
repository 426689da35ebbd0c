/- DelayTasks, of the program and of the reference: both hand back delXs and delCode. -/
import Derived.Test.YthlfmhigbhcljaaValidTasks
namespace Go.Proofs.Ythlfmhigbhcljaa
open Go.RowKit
set_option linter.unusedVariables false

/-- a call that hands back a copy in a row of its own -/
def CloneT (ps : List Task) (w : World) (e : Ending) (w' : World) : Prop :=
  ∃ A cap, e = .returned (.slice A ps.length cap) ∧ Own Task.cs 4 w' w.heap.size w'.heap.size 120 A ps.length ps ∧ Below w.heap.size w w'
set_option maxHeartbeats 800000 in
theorem cloneTask_any (a : Addr) (n c : Nat) (ps : List Task) (w : World) (lo : Nat) (h : Arr Task.cs 4 w lo w.heap.size (some a) n ps) (hn : n ≤ 1048576) :
    Calls Try.prog 102 #[.slice (some a) n c] w (CloneT ps w) := by
  have hnil := fun W => Lib.run_eql_slice_nil (P := Try.prog) W 51 120 (some a) n c 0 0 Try.underlying51
  go_enter Try.func102, Try.ntmps102
  go_wp2_with (at_builtin; refine wpList_join _ rfl _ _ 51 rfl w.heap.size 120 (.agg #[.int .i64 0, .int .i64 0, .int .i64 0, .int .i64 0]) 32 Try.underlying51 TaskInfo rfl (by omega) _ [] ps rfl (Grow.empty _ _ _ (Nat.le_refl _)) a n c rfl lo w.heap.size (h.below ((Below.refl _ _).alloc (Nat.le_refl _) _)) Task.cs_len Task.cs_one (by simp; omega) (by omega) (by simp) ?_; intro v' w5 hg5 hgr5)
  obtain ⟨A, cap, hv, ho⟩ := hg5.own Task.cs_len
  rw [hv]
  go_wp2
  go_ret
  refine ⟨A, cap, rfl, ho, ?_⟩
  exact ((Below.refl _ _).alloc (Nat.le_refl _) _).grown hgr5 (by simp) (fun j hj => by have := ownBlock_eq hj; omega)

def del1 (t : Task) (sh : Int) : Task := ⟨t.lift, t.crane, t.start + sh, t.stop⟩
def del2 (t : Task) (sh : Int) : Task := ⟨t.lift, t.crane, t.start + sh, t.stop + sh⟩
def del (start sh : Int) (t : Task) : Task := if t.start < start then t else del2 t sh
def delAt (xs : List Task) (start sh : Int) (k : Nat) : Bool := match xs[k]? with | some t => tOk (del start sh t) | none => true
theorem delAt_of {xs : List Task} {k : Nat} {t : Task} (h : xs[k]? = some t) (start sh : Int) : delAt xs start sh k = tOk (del start sh t) := by simp only [delAt, h]
def delMix (xs : List Task) (start sh : Int) (k : Nat) : List Task := (xs.take k).map (del start sh) ++ xs.drop k
theorem delMix_zero (xs : List Task) (start sh : Int) : delMix xs start sh 0 = xs := by simp [delMix]
theorem delMix_len (xs : List Task) (start sh : Int) (k : Nat) : (delMix xs start sh k).length = xs.length := by simp [delMix]; omega
theorem delMix_all {xs : List Task} {n : Nat} (h : xs.length = n) (start sh : Int) : delMix xs start sh n = xs.map (del start sh) := by simp [delMix, ← h]
theorem delMix_at {xs : List Task} {k : Nat} {t : Task} (h : xs[k]? = some t) (start sh : Int) : (delMix xs start sh k)[k]? = some t := by
  have hk := (List.getElem?_eq_some_iff.1 h).1
  have hl : ((xs.take k).map (del start sh)).length = k := by simp; omega
  unfold delMix
  rw [List.getElem?_append_right (by omega), hl, Nat.sub_self, List.getElem?_drop, Nat.add_zero]; exact h
theorem delMix_set {xs : List Task} {k : Nat} {t : Task} (h : xs[k]? = some t) (start sh : Int) : (delMix xs start sh k).set k (del start sh t) = delMix xs start sh (k + 1) := by
  obtain ⟨hk, rfl⟩ := List.getElem?_eq_some_iff.1 h
  have e : xs.drop k = xs[k] :: xs.drop (k + 1) := List.drop_eq_getElem_cons hk
  have hl : ((xs.take k).map (del start sh)).length = k := by simp; omega
  unfold delMix
  rw [e, List.set_append_right _ _ (by omega), hl, Nat.sub_self, List.set_cons_zero, List.take_succ_eq_append_getElem hk, List.map_append, List.append_assoc]
  rfl
theorem set_sameT {xs : List Task} {k : Nat} {t : Task} (h : xs[k]? = some t) : xs.set k t = xs := by
  obtain ⟨hk, rfl⟩ := List.getElem?_eq_some_iff.1 h
  exact List.set_getElem_self hk
theorem delMix_skip {xs : List Task} {k : Nat} {t : Task} (h : xs[k]? = some t) {start sh : Int} (hs : t.start < start) : delMix xs start sh (k + 1) = delMix xs start sh k := by
  have e : del start sh t = t := by unfold del; rw [if_pos hs]
  rw [← delMix_set h, e, set_sameT (delMix_at h start sh)]
def delXs (xs : List Task) (start sh : Int) : List Task := if tasksOk xs then (if inB sh 0 1000000 then (if allTo (delAt xs start sh) xs.length then xs.map (del start sh) else []) else []) else []
def delCode (xs : List Task) (start sh : Int) : Int := if tasksOk xs then (if inB sh 0 1000000 then (if allTo (delAt xs start sh) xs.length then 0 else 5) else 2) else 1
theorem del_1 {xs : List Task} (start sh : Int) (h : tasksOk xs = false) : delXs xs start sh = [] ∧ delCode xs start sh = 1 := by unfold delXs delCode; rw [h]; exact ⟨rfl, rfl⟩
theorem del_2 {xs : List Task} (start : Int) {sh : Int} (h : tasksOk xs = true) (h2 : inB sh 0 1000000 = false) : delXs xs start sh = [] ∧ delCode xs start sh = 2 := by unfold delXs delCode; rw [h, h2]; exact ⟨rfl, rfl⟩
theorem del_5 {xs : List Task} {start sh : Int} (h : tasksOk xs = true) (h2 : inB sh 0 1000000 = true) (h3 : allTo (delAt xs start sh) xs.length = false) : delXs xs start sh = [] ∧ delCode xs start sh = 5 := by unfold delXs delCode; rw [h, h2, h3]; exact ⟨rfl, rfl⟩
theorem del_0 {xs : List Task} {start sh : Int} (h : tasksOk xs = true) (h2 : inB sh 0 1000000 = true) (h3 : allTo (delAt xs start sh) xs.length = true) : delXs xs start sh = xs.map (del start sh) ∧ delCode xs start sh = 0 := by unfold delXs delCode; rw [h, h2, h3]; exact ⟨rfl, rfl⟩
theorem delXs_len (xs : List Task) (start sh : Int) : (delXs xs start sh).length ≤ xs.length := by
  unfold delXs; split
  · split
    · split
      · simp
      · exact Nat.zero_le _
    · exact Nat.zero_le _
  · exact Nat.zero_le _

set_option maxRecDepth 100000 in
set_option maxHeartbeats 1600000 in
theorem delayTasks_any (a : Addr) (n c : Nat) (ps : List Task) (start sh : Int) (w : World) (lo : Nat) (h : Arr Task.cs 4 w lo w.heap.size (some a) n ps) (hn : n ≤ 1048576) :
    Calls Try.prog 50 #[.slice (some a) n c, .int .i64 start, .int .i64 sh] w (RetS Task.cs 4 120 (delXs ps start sh) (delCode ps start sh) w) := by
  cases h1 : tasksOk ps
  · have H := Lib.hid (del_1 start sh h1)
    go_enter Try.func50, Try.ntmps50
    go_wp2_with (go_at_call 84; refine (validTasks_any _ _ _ ps _ lo h hn).mono ?_; rintro e w1 ⟨rfl, hb⟩)
    go_ret2
    rw [H.out.1, H.out.2]; exact RetS.nil hb
  · cases h2 : inB sh 0 1000000
    · have H := Lib.hid (del_2 start h1 h2)
      go_enter Try.func50, Try.ntmps50
      go_wp2_with (first | (go_at_call 84; refine (validTasks_any _ _ _ ps _ lo h hn).mono ?_; rintro e w1 ⟨rfl, hb⟩) | (go_at_call 101; refine (within_any _ _ _ _).mono ?_; rintro e w2 ⟨rfl, rfl⟩))
      go_ret2
      rw [H.out.1, H.out.2]; exact RetS.nil hb
    · have H1 := Lib.hid h1
      have H2 := Lib.hid h2
      have hsh := inB_true.1 h2
      go_enter Try.func50, Try.ntmps50
      go_wp2_with (first | (go_at_call 84; refine (validTasks_any _ _ _ ps _ lo h hn).mono ?_; rintro e w1 ⟨rfl, hb⟩) | (go_at_call 101; refine (within_any _ _ _ _).mono ?_; rintro e w2 ⟨rfl, rfl⟩) | (go_at_call 102; refine (cloneTask_any a n c ps _ lo ((h.below hb).more hb.size) hn).mono ?_; rintro e w3 ⟨A, cap, rfl, ho, hb4⟩))
      have hb5 := hb.trans (hb4.mono hb.size)
      have hlen := h.1
      have hs3 := hb4.size
      have hs1 := hb.size
      rw [hlen] at ho ⊢
      clear h1 h2
      rcases Nat.eq_zero_or_pos n with rfl | hn0
      · have hx0 : ps = [] := List.length_eq_zero_iff.1 hlen
        refine wp_loop_rounds 1 ?_
        rw [rounds_succ]
        go_wp2
        go_ret2
        have H := Lib.hid (del_0 H1.out H2.out (start := start) (by rw [hlen]; rfl))
        rw [H.out.1, H.out.2, hx0]
        exact ⟨A, cap, rfl, (by rw [hx0] at ho; exact ho.wide (by omega) (by omega)), hb5⟩
      · obtain ⟨g, cs0, rfl, _, _, _, _, _⟩ := ho.2 hn0
        go_loopw [23] (fun i wr => ∃ k : Nat, k ≤ n ∧ i = .int .i64 k ∧ allTo (delAt ps start sh) k = true ∧ Own Task.cs 4 wr w1.heap.size w3.heap.size 120 (some ⟨g, 0, none⟩) n (delMix ps start sh k) ∧ Below w.heap.size w wr ∧ w3.heap.size ≤ wr.heap.size) (fun i _ => n - (intOf i).toNat)
        case atStart => exact ⟨0, Nat.zero_le _, rfl, rfl, by rw [delMix_zero]; exact ho, hb5, Nat.le_refl _⟩
        case round =>
          obtain ⟨k, hk, rfl, hall, ho2, hb6, hs6⟩ := hrel
          have HA := Lib.hid hall
          clear hall
          by_cases hlt : k < n
          · obtain ⟨b, off, p, e1, hx, _, hbl, c0, c1, c2, c3⟩ := Task.at (h.below hb6) hlt
            cases e1
            have hpb := tOk_bounds (tasksOk_mem H1.out (List.mem_of_getElem? hx))
            have HP := Lib.hid (tasksOk_mem H1.out (List.mem_of_getElem? hx))
            have HX := Lib.hid hx
            have hk0 : (0 : Int) ≤ (k : Int) := by omega
            have hk1 : (k : Int) < (n : Int) := by omega
            have hkl : (k : Int) < (ps.length : Int) := by omega
            clear hx
            by_cases hst : p.start < start
            · go_wp2
              go_roundw
              case rel => exact ⟨k + 1, by omega, by go_num, allTo_step HA.out (by rw [delAt_of HX.out]; unfold del; rw [if_pos hst]; exact HP.out), by rw [delMix_skip HX.out hst]; exact ho2.bel ((Below.refl _ _).alloc (Nat.le_refl _) _), hb6.alloc hb6.size _, by simp; omega⟩
              case measure => simp [intOf]; omega
            · have hD : del start sh p = del2 p sh := by unfold del; rw [if_neg hst]
              obtain ⟨g9, cs, eg, hg1, hg2, hg3, hg4, hg5⟩ := ho2.2 (by omega)
              have eg2 : g9 = g := by injection eg with e8; injection e8 with e9; exact e9.symm
              rw [eg2] at hg1 hg2 hg3
              clear eg eg2
              have hblk : Blk wr g 120 cs := hg3
              have hmx := delMix_at HX.out start sh
              have e0 : wr.cell? ⟨g, k * 4, none⟩ = some (.int .i64 p.lift) := by rw [hblk.cell]; exact hg5 k p hmx 0 (by omega)
              have e1 : wr.cell? ⟨g, k * 4 + 1, none⟩ = some (.int .i64 p.crane) := by rw [hblk.cell]; exact hg5 k p hmx 1 (by omega)
              have e2 : wr.cell? ⟨g, k * 4 + 2, none⟩ = some (.int .i64 p.start) := by rw [hblk.cell]; exact hg5 k p hmx 2 (by omega)
              have e3 : wr.cell? ⟨g, k * 4 + 3, none⟩ = some (.int .i64 p.stop) := by rw [hblk.cell]; exact hg5 k p hmx 3 (by omega)
              have f2 := hblk.frozen (k * 4 + 2)
              have f3 := hblk.frozen (k * 4 + 3)
              have hgw : g < wr.heap.size := hblk.lt
              have HO := Lib.hid ho2
              have HM := Lib.hid hmx
              have hq1 := ho2.put (i := k) (j0 := 2) (y := del1 p sh) (u := .int .i64 (p.start + sh)) hmx (by omega) rfl (fun j hj hne => by
                have : j = 0 ∨ j = 1 ∨ j = 3 := by omega
                rcases this with rfl | rfl | rfl <;> rfl)
              have hq2 := hq1.put (i := k) (x := del1 p sh) (j0 := 3) (y := del2 p sh) (u := .int .i64 (p.stop + sh)) (by rw [List.getElem?_set_self (by rw [delMix_len]; omega)]) (by omega) rfl (fun j hj hne => by
                have : j = 0 ∨ j = 1 ∨ j = 2 := by omega
                rcases this with rfl | rfl | rfl <;> rfl)
              rw [List.set_set, ← hD, delMix_set HX.out] at hq2
              have hbq : Below w.heap.size w ((wr.setCell ⟨g, k * 4 + 2, none⟩ (.int .i64 (p.start + sh))).setCell ⟨g, k * 4 + 3, none⟩ (.int .i64 (p.stop + sh))) := (hb6.setCell (by simp; omega) _).setCell (by simp; omega) _
              have HQ2 := Lib.hid hq2
              have HBQ := Lib.hid hbq
              clear hq1 hq2 hbq
              clear ho2 hmx hg3 hg4 hg5 hblk ho
              cases hv : tOk (del2 p sh)
              · have HV := Lib.hid hv
                go_wp2_with (go_at_call 103; refine (taskValid_eq (del2 p sh) _ hv).mono ?_; rintro e w4 ⟨rfl, hb7⟩)
                go_ret2
                have H := Lib.hid (del_5 H1.out H2.out (start := start) (allTo_bad (k := k) (by omega) (by rw [delAt_of HX.out, hD]; exact HV.out)))
                rw [H.out.1, H.out.2]; exact RetS.nil ((HBQ.out.alloc (by simp; omega) _).trans (hb7.mono (by simp; omega)))
              · have HV := Lib.hid hv
                go_wp2_with fail
                refine (taskValid_eq (del2 p sh) _ hv).mono ?_
                rintro e w4 ⟨rfl, hb7⟩
                go_wp2
                go_roundw
                case rel => exact ⟨k + 1, by omega, by go_num, allTo_step HA.out (by rw [delAt_of HX.out, hD]; exact HV.out), (HQ2.out.bel ((Below.refl _ _).alloc (Nat.le_refl _) _)).bel hb7, (HBQ.out.alloc (by simp; omega) _).trans (hb7.mono (by simp; omega)), by have := hb7.size; simp at this; omega⟩
                case measure => simp [intOf]; omega
          · obtain rfl : k = n := by omega
            have H := Lib.hid (del_0 H1.out H2.out (start := start) (by rw [hlen]; exact HA.out))
            go_wp2
            go_ret2
            rw [H.out.1, H.out.2, ← delMix_all hlen]
            exact ⟨some ⟨g, 0, none⟩, cap, by rw [delMix_len, hlen]; rfl, by rw [delMix_len, hlen]; exact ho2.wide (by omega) (by omega), hb6⟩
end Go.Proofs.Ythlfmhigbhcljaa
