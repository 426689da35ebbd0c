/- DelayTasks, of the program and of the reference: both hand back delXs and delCode. -/
import Derived.Test.YtmchkhjchpnmaaaValidTasks
namespace Go.Proofs.Ytmchkhjchpnmaaa
open Go.RowKit
set_option linter.unusedVariables false

/-- a call that hands back a copy in a row of its own -/
def CloneT (ps : List Task) (w : World) (e : Ending) (w' : World) : Prop :=
  ∃ A cap, e = .returned (.slice A ps.length cap) ∧ Own Task.cs 4 w' w.heap.size w'.heap.size 34 A ps.length ps ∧ Below w.heap.size w w'
set_option maxHeartbeats 800000 in
theorem cloneTask_any (a : Addr) (n c : Nat) (ps : List Task) (w : World) (lo : Nat) (h : Arr Task.cs 4 w lo w.heap.size (some a) n ps) (hn : n ≤ 1048576) :
    Calls Try.prog 26 #[.slice (some a) n c] w (CloneT ps w) := by
  have hnil := fun W => Lib.run_eql_slice_nil (P := Try.prog) W 24 34 (some a) n c 0 0 Try.underlying24
  go_enter Try.func26, Try.ntmps26
  go_wp2_with (at_builtin; refine wpList_join _ rfl _ _ 24 rfl w.heap.size 34 (.agg #[.int .i64 0, .int .i64 0, .int .i64 0, .int .i64 0]) 32 Try.underlying24 TaskInfo rfl (by omega) _ [] ps rfl (Grow.empty _ _ _ (Nat.le_refl _)) a n c rfl lo w.heap.size (h.below ((Below.refl _ _).alloc (Nat.le_refl _) _)) Task.cs_len Task.cs_one (by simp; omega) (by omega) (by simp) ?_; intro v' w5 hg5 hgr5)
  obtain ⟨A, cap, hv, ho⟩ := hg5.own Task.cs_len
  rw [hv]
  go_wp2
  go_ret
  refine ⟨A, cap, rfl, ho, ?_⟩
  exact ((Below.refl _ _).alloc (Nat.le_refl _) _).grown hgr5 (by simp) (fun j hj => by have := ownBlock_eq hj; omega)

def del1 (t : Task) (sh : Int) : Task := ⟨t.lift, t.crane, t.start + sh, t.stop⟩
def del2 (t : Task) (sh : Int) : Task := ⟨t.lift, t.crane, t.start + sh, t.stop + sh⟩
def del (start sh : Int) (t : Task) : Task := if t.start < start then t else del2 t sh
def delAt (xs : List Task) (start sh : Int) (k : Nat) : Bool := match xs[k]? with | some t => tOk (del start sh t) | none => true
theorem delAt_of {xs : List Task} {k : Nat} {t : Task} (h : xs[k]? = some t) (start sh : Int) : delAt xs start sh k = tOk (del start sh t) := by simp only [delAt, h]
def delMix (xs : List Task) (start sh : Int) (k : Nat) : List Task := (xs.take k).map (del start sh) ++ xs.drop k
theorem delMix_zero (xs : List Task) (start sh : Int) : delMix xs start sh 0 = xs := by simp [delMix]
theorem delMix_len (xs : List Task) (start sh : Int) (k : Nat) : (delMix xs start sh k).length = xs.length := by simp [delMix]; omega
theorem delMix_all {xs : List Task} {n : Nat} (h : xs.length = n) (start sh : Int) : delMix xs start sh n = xs.map (del start sh) := by simp [delMix, ← h]
theorem delMix_at {xs : List Task} {k : Nat} {t : Task} (h : xs[k]? = some t) (start sh : Int) : (delMix xs start sh k)[k]? = some t := by
  have hk := (List.getElem?_eq_some_iff.1 h).1
  have hl : ((xs.take k).map (del start sh)).length = k := by simp; omega
  unfold delMix
  rw [List.getElem?_append_right (by omega), hl, Nat.sub_self, List.getElem?_drop, Nat.add_zero]; exact h
theorem delMix_set {xs : List Task} {k : Nat} {t : Task} (h : xs[k]? = some t) (start sh : Int) : (delMix xs start sh k).set k (del start sh t) = delMix xs start sh (k + 1) := by
  obtain ⟨hk, rfl⟩ := List.getElem?_eq_some_iff.1 h
  have e : xs.drop k = xs[k] :: xs.drop (k + 1) := List.drop_eq_getElem_cons hk
  have hl : ((xs.take k).map (del start sh)).length = k := by simp; omega
  unfold delMix
  rw [e, List.set_append_right _ _ (by omega), hl, Nat.sub_self, List.set_cons_zero, List.take_succ_eq_append_getElem hk, List.map_append, List.append_assoc]
  rfl
theorem set_sameT {xs : List Task} {k : Nat} {t : Task} (h : xs[k]? = some t) : xs.set k t = xs := by
  obtain ⟨hk, rfl⟩ := List.getElem?_eq_some_iff.1 h
  exact List.set_getElem_self hk
theorem delMix_skip {xs : List Task} {k : Nat} {t : Task} (h : xs[k]? = some t) {start sh : Int} (hs : t.start < start) : delMix xs start sh (k + 1) = delMix xs start sh k := by
  have e : del start sh t = t := by unfold del; rw [if_pos hs]
  rw [← delMix_set h, e, set_sameT (delMix_at h start sh)]
def delXs (xs : List Task) (start sh : Int) : List Task := if tasksOk xs then (if inB sh 0 1000000 then (if allTo (delAt xs start sh) xs.length then xs.map (del start sh) else []) else []) else []
def delCode (xs : List Task) (start sh : Int) : Int := if tasksOk xs then (if inB sh 0 1000000 then (if allTo (delAt xs start sh) xs.length then 0 else 5) else 2) else 1
theorem del_1 {xs : List Task} (start sh : Int) (h : tasksOk xs = false) : delXs xs start sh = [] ∧ delCode xs start sh = 1 := by unfold delXs delCode; rw [h]; exact ⟨rfl, rfl⟩
theorem del_2 {xs : List Task} (start : Int) {sh : Int} (h : tasksOk xs = true) (h2 : inB sh 0 1000000 = false) : delXs xs start sh = [] ∧ delCode xs start sh = 2 := by unfold delXs delCode; rw [h, h2]; exact ⟨rfl, rfl⟩
theorem del_5 {xs : List Task} {start sh : Int} (h : tasksOk xs = true) (h2 : inB sh 0 1000000 = true) (h3 : allTo (delAt xs start sh) xs.length = false) : delXs xs start sh = [] ∧ delCode xs start sh = 5 := by unfold delXs delCode; rw [h, h2, h3]; exact ⟨rfl, rfl⟩
theorem del_0 {xs : List Task} {start sh : Int} (h : tasksOk xs = true) (h2 : inB sh 0 1000000 = true) (h3 : allTo (delAt xs start sh) xs.length = true) : delXs xs start sh = xs.map (del start sh) ∧ delCode xs start sh = 0 := by unfold delXs delCode; rw [h, h2, h3]; exact ⟨rfl, rfl⟩
theorem delXs_len (xs : List Task) (start sh : Int) : (delXs xs start sh).length ≤ xs.length := by
  unfold delXs; split
  · split
    · split
      · simp
      · exact Nat.zero_le _
    · exact Nat.zero_le _
  · exact Nat.zero_le _

end Go.Proofs.Ytmchkhjchpnmaaa
