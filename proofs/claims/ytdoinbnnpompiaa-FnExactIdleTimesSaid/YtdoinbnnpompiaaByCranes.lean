/- tasksCode, byCranes of the program; l11Crane of the reference. -/
import Derived.Test.YtdoinbnnpompiaaValidTasks
import Derived.Test.YtdoinbnnpompiaaRawMap
import Derived.Deep.RegionHeld3
import Derived.Deep.AppendLies
namespace Go.Proofs.Ytdoinbnnpompiaa
open Go.RowKit
set_option linter.unusedVariables false

def tcCode (xs : List Task) (crane : Int) : Int := if tasksOk xs then (if inB crane 0 5 then 0 else 2) else 1
theorem tcCode_cases (xs : List Task) (crane : Int) : (tasksOk xs = false ∧ tcCode xs crane = 1) ∨ (tasksOk xs = true ∧ inB crane 0 5 = false ∧ tcCode xs crane = 2) ∨ (tasksOk xs = true ∧ inB crane 0 5 = true ∧ tcCode xs crane = 0) := by
  unfold tcCode
  cases tasksOk xs <;> cases inB crane 0 5 <;> simp

theorem tasksCode_any (A : Option Addr) (n c : Nat) (ps : List Task) (crane : Int) (w : World) (lo : Nat) (h : Arr Task.cs 4 w lo w.heap.size A n ps) (hn : n ≤ 1048576) :
    Calls Try.prog 152 #[.slice A n c, .int .i64 crane] w fun e w' => e = .returned (.int .i64 (tcCode ps crane)) ∧ Below w.heap.size w w' := by
  rcases tcCode_cases ps crane with ⟨a1, ao⟩ | ⟨a1, a2, ao⟩ | ⟨a1, a2, ao⟩
  all_goals
    have HO := Lib.hid ao
    clear ao
    go_enter Try.func152, Try.ntmps152
    go_wp2_with (first | (go_at_call 98; refine (validTasks_any _ _ _ ps _ lo h hn).mono ?_; rintro e w1 ⟨rfl, hb⟩) | (go_at_call 110; refine (within_any _ _ _ _).mono ?_; rintro e w2 ⟨rfl, rfl⟩))
    go_ret
    exact ⟨by rw [HO.out]; rfl, hb⟩
theorem l11Crane_any (A : Option Addr) (n c : Nat) (ps : List Task) (crane : Int) (w : World) (lo : Nat) (h : Arr Task.cs 4 w lo w.heap.size A n ps) (hn : n ≤ 1048576) :
    Calls Try.prog 149 #[.slice A n c, .int .i64 crane] w fun e w' => e = .returned (.int .i64 (tcCode ps crane)) ∧ Below w.heap.size w w' := by
  rcases tcCode_cases ps crane with ⟨a1, ao⟩ | ⟨a1, a2, ao⟩ | ⟨a1, a2, ao⟩
  all_goals
    have HO := Lib.hid ao
    clear ao
    go_enter Try.func149, Try.ntmps149
    go_wp2_with (first | (go_at_call 96; refine (quiet_bel (l11Ok_any _ _ _ ps _ lo h hn)).mono ?_; rintro e w1 ⟨rfl, hb⟩) | (go_at_call 158; refine (l00In_any _ _ _ _).mono ?_; rintro e w2 ⟨rfl, rfl⟩))
    go_ret
    exact ⟨by rw [HO.out]; rfl, hb⟩

/-- the tasks of a crane among the first k -/
def ofCrane (xs : List Task) (k : Nat) (crane : Int) : List Task := (xs.take k).filter fun t => decide (t.crane = crane)
theorem ofCrane_len (xs : List Task) (k : Nat) (crane : Int) : (ofCrane xs k crane).length ≤ xs.length := by
  unfold ofCrane
  exact Nat.le_trans (List.length_filter_le _ _) (by rw [List.length_take]; omega)
theorem ofCrane_yes {xs : List Task} {k : Nat} {t : Task} (h : xs[k]? = some t) : ofCrane xs (k + 1) t.crane = ofCrane xs k t.crane ++ [t] := by
  obtain ⟨hk, rfl⟩ := List.getElem?_eq_some_iff.1 h
  unfold ofCrane
  rw [List.take_succ_eq_append_getElem hk, List.filter_append]; simp
theorem ofCrane_no {xs : List Task} {k : Nat} {t : Task} {crane : Int} (h : xs[k]? = some t) (hc : t.crane ≠ crane) : ofCrane xs (k + 1) crane = ofCrane xs k crane := by
  obtain ⟨hk, rfl⟩ := List.getElem?_eq_some_iff.1 h
  unfold ofCrane
  rw [List.take_succ_eq_append_getElem hk, List.filter_append]; simp [hc]

theorem zeroTasks (w : World) : (zeroValue 54).run Try.prog w = .ok (.slice none 0 0) w := by kernel_rfl

/-- a map of the call's own whose rows are the tasks of each crane -/
def ByC (ps : List Task) (n : Nat) (w : World) (e : Ending) (w' : World) : Prop :=
  ∃ b V, e = .returned (.map (some b)) ∧ RawMap Try.prog 2 w' b n (.slice none 0 0) V ∧ Groups Task.cs 4 w' w.heap.size 143 V (ofCrane ps n) ∧ Below w.heap.size w w'
set_option maxRecDepth 100000 in
set_option maxHeartbeats 1600000 in
theorem byCranes_any (A : Option Addr) (n c : Nat) (ps : List Task) (w : World) (lo : Nat) (h : Arr Task.cs 4 w lo w.heap.size A n ps) (hn : n ≤ 40) (hp : ∀ p ∈ ps, tOk p = true) :
    Calls Try.prog 153 #[.slice A n c] w (ByC ps n w) := by
  have hmm := @run_makeMap Try.prog
  go_enter Try.func153, Try.ntmps153
  go_wp2
  clear hmm
  go_loopw [9] (fun i wr => ∃ (k : Nat) (V : Int → Value), k ≤ n ∧ i = .int .i64 k ∧ RawMap Try.prog 2 wr w.heap.size k (.slice none 0 0) V ∧ Groups Task.cs 4 wr (w.heap.size + 1) 143 V (ofCrane ps k) ∧ w.heap.size + 1 ≤ wr.heap.size ∧ Below w.heap.size w wr) (fun i _ => n - (intOf i).toNat)
  case atStart => exact ⟨0, _, Nat.zero_le _, rfl, RawMap.made w _, (Groups.start _ _).to (fun i => by simp [ofCrane]), by simp, (Below.refl _ _).alloc (Nat.le_refl _) _⟩
  case round =>
    obtain ⟨k, V, hk, rfl, hmap, hgr, hsz, hb⟩ := hrel
    by_cases hlt : k < n
    · obtain ⟨b, off, p, rfl, hx, _, hbl, c0, c1, c2, c3⟩ := Task.at (h.below hb) hlt
      have hpb := tOk_bounds (hp p (List.mem_of_getElem? hx))
      have hcw : (Lit.int .i64 p.crane).wf = true := WalkArith.wf_i64 (by omega)
      have HX := Lib.hid hx
      have hk1 : (k : Int) < (n : Int) := by omega
      have hl := ofCrane_len ps k p.crane
      have hlp := h.1
      clear hx
      obtain ⟨W, hW⟩ : ∃ W : World, W = wr.alloc (.cells #[.int .i64 p.lift, .int .i64 p.crane, .int .i64 p.start, .int .i64 p.stop] 143) := ⟨_, rfl⟩
      have hbW : Below wr.heap.size wr W := by rw [hW]; exact (Below.refl _ _).alloc (Nat.le_refl _) _
      have hszW : wr.heap.size < W.heap.size := by rw [hW]; simp
      have t0 : W.cell? ⟨wr.heap.size, 0, none⟩ = some (.int .i64 p.lift) := by rw [hW]; simp
      have t1 : W.cell? ⟨wr.heap.size, 1, none⟩ = some (.int .i64 p.crane) := by rw [hW]; simp
      have t2 : W.cell? ⟨wr.heap.size, 2, none⟩ = some (.int .i64 p.start) := by rw [hW]; simp
      have t3 : W.cell? ⟨wr.heap.size, 3, none⟩ = some (.int .i64 p.stop) := by rw [hW]; simp
      have hmapW := hmap.bel hbW (show w.heap.size < _ by omega)
      have hgrW := hgr.bel hbW
      have hbWW := hb.trans (hbW.mono (show w.heap.size ≤ _ by omega))
      have hL1 := (hmapW.drew).look (t := 207) Try.underlying207 Try.underlying2 (zeroTasks _) hcw
      have hL2 := fun o => ((hmapW.alloc o).drew).look (t := 207) Try.underlying207 Try.underlying2 (zeroTasks _) hcw
      have hrow := hgrW.row p.crane
      have hnx : some wr.heap.size ≠ (V p.crane).ownBlock := fun hh => by have := ((hgr.row p.crane).lt wr.heap.size hh.symm).2; omega
      have hnm : some w.heap.size ≠ (V p.crane).ownBlock := fun hh => by have := ((hgr.row p.crane).lt w.heap.size hh.symm).1; omega
      have hkn : k < 9223372036854775807 := by omega
      have HNX := Lib.hid hnx
      have HNM := Lib.hid hnm
      clear hnx hnm
      have CF : ∀ (X Y : World) (row : Option Nat), X.grownBy Y row → wr.heap.size < X.heap.size → some wr.heap.size ≠ row → (X.cell? ⟨wr.heap.size, 0, none⟩ = some (.int .i64 p.lift) ∧ X.cell? ⟨wr.heap.size, 1, none⟩ = some (.int .i64 p.crane) ∧ X.cell? ⟨wr.heap.size, 2, none⟩ = some (.int .i64 p.start) ∧ X.cell? ⟨wr.heap.size, 3, none⟩ = some (.int .i64 p.stop)) → (Y.cell? ⟨wr.heap.size, 0, none⟩ = some (.int .i64 p.lift) ∧ Y.cell? ⟨wr.heap.size, 1, none⟩ = some (.int .i64 p.crane) ∧ Y.cell? ⟨wr.heap.size, 2, none⟩ = some (.int .i64 p.start) ∧ Y.cell? ⟨wr.heap.size, 3, none⟩ = some (.int .i64 p.stop)) :=
        fun X Y row hg hl hne hc => ⟨(World.cell?_of_block (hg.block _ hl hne)).trans hc.1, (World.cell?_of_block (hg.block _ hl hne)).trans hc.2.1, (World.cell?_of_block (hg.block _ hl hne)).trans hc.2.2.1, (World.cell?_of_block (hg.block _ hl hne)).trans hc.2.2.2⟩
      have HCF := Lib.hid CF
      clear CF
      have hmne : some wr.heap.size ≠ some w.heap.size := fun hh => by injection hh; omega
      obtain ⟨i0, hi0, hz0, hz1, hz2⟩ := info_parts TaskInfo
      have HB := Lib.hid hbWW
      have HM := Lib.hid hmapW
      have HG := Lib.hid hgrW
      have HR := Lib.hid hrow
      have HI := Lib.hid (And.intro hi0 (And.intro hz0 (And.intro hz1 hz2)))
      clear hi0 hz0 hz1 hz2
      have hbl1 : w.heap.size < W.heap.size := by omega
      have hbox : wr.heap.size < W.heap.size := hszW
      go_wp2
      rw [← hW]
      clear hW c0 c1 c2 c3 hbWW hmapW hgrW hrow hmap hgr hb
      go_region_held3 (fun w' => w'.cell? ⟨wr.heap.size, 0, none⟩ = some (.int .i64 p.lift) ∧ w'.cell? ⟨wr.heap.size, 1, none⟩ = some (.int .i64 p.crane) ∧ w'.cell? ⟨wr.heap.size, 2, none⟩ = some (.int .i64 p.start) ∧ w'.cell? ⟨wr.heap.size, 3, none⟩ = some (.int .i64 p.stop)) (first | go_keep | exact K2 | exact K1) ((refine step_append_lies _ (by rfl) _ _ _ (by rfl) (w.heap.size + 1) 143 i0 _ 4 32 Try.underlying54 HI.out.1 HI.out.2.1 HI.out.2.2.1 HI.out.2.2.2 rfl (by omega) (V p.crane) (ofCrane ps k p.crane).length ((ofCrane ps k p.crane).flatMap Task.cs) (by rfl) (show World.ownsRow _ _ _ _ _ _ _ from ((HR.out.alloc _).bel ((Below.refl _ _).drew))) ⟨W.heap.size, 0, none⟩ 1 1 p.cs (by rfl) (by rfl) (World.news_of_block (cs := #[.int .i64 p.lift, .int .i64 p.crane, .int .i64 p.start, .int .i64 p.stop]) (t := 143) (fr := (0, 0)) (heap_alloc_new W _)) (Task.cs_one p) (by omega) (by unfold maxLen; omega) (by omega) (by simp; omega) (W.heap.size + 1) (by simp) ?_; intro gg cap w1 hown1 hgrow hat hlt; have K1 := HCF.out _ _ _ hgrow (show wr.heap.size < (W.alloc (.cells #[.int .i64 p.lift, .int .i64 p.crane, .int .i64 p.start, .int .i64 p.stop] 143)).drew.heap.size from by show wr.heap.size < (W.alloc _).heap.size; simp; omega) HNX.out (by assumption); obtain ⟨w2, hup, hmap2, hgr2⟩ := RawMap.put (t := 207) (((HM.out.alloc (.cells #[.int .i64 p.lift, .int .i64 p.crane, .int .i64 p.start, .int .i64 p.stop] 143)).drew).grown hgrow HNM.out) Try.underlying207 Try.underlying2 hkn (.slice (some ⟨gg, 0, none⟩) ((ofCrane ps k p.crane).length + 1) cap) hcw; have K2 := HCF.out _ _ _ hgr2 (Nat.lt_of_lt_of_le (show wr.heap.size < (W.alloc (.cells #[.int .i64 p.lift, .int .i64 p.crane, .int .i64 p.start, .int .i64 p.stop] 143)).drew.heap.size from by show wr.heap.size < (W.alloc _).heap.size; simp; omega) hgrow.size) hmne K1))
      all_goals
        go_wp2
        go_roundw
        · have hsD : (W.alloc (.cells #[.int .i64 p.lift, .int .i64 p.crane, .int .i64 p.start, .int .i64 p.stop] 143)).drew.heap.size = W.heap.size + 1 := by show (W.alloc _).heap.size = _; simp
          have hrow1 : Grow Task.cs 4 w1 (w.heap.size + 1) 143 (.slice (some ⟨gg, 0, none⟩) ((ofCrane ps k p.crane).length + 1) cap) (ofCrane ps k p.crane ++ [p]) := by simpa [Grow] using hown1
          have hG1 := ((HG.out.alloc (.cells #[.int .i64 p.lift, .int .i64 p.crane, .int .i64 p.start, .int .i64 p.stop] 143)).drew).put (i := p.crane) hrow1 hgrow (hat.imp (fun hh => hh.symm) (fun hh => by rw [hsD, ← hh]; rfl))
          have hG2 := (hG1.map hgr2 (Nat.lt_succ_self _)).to (X' := ofCrane ps (k + 1)) (fun r => by
            by_cases e : r = p.crane
            · rw [if_pos e, e, ofCrane_yes HX.out]
            · rw [if_neg e, ofCrane_no HX.out (fun hh => e hh.symm)])
          have hrb : ∀ j, (V p.crane).ownBlock = some j → w.heap.size ≤ j := fun j hj => by have := (HR.out.lt j hj).1; omega
          refine ⟨k + 1, _, by omega, by go_num, hmap2, hG2, by have h8 := hgr2.size; have h9 := hgrow.size; omega, ?_⟩
          exact ((((HB.out.alloc (by omega) (.cells #[.int .i64 p.lift, .int .i64 p.crane, .int .i64 p.start, .int .i64 p.stop] 143)).drew).grown hgrow (by omega) hrb).grown hgr2 (by have h9 := hgrow.size; omega) (fun j hj => by cases hj; exact Nat.le_refl _))
        · simp [intOf]; omega
    · obtain rfl : k = n := by omega
      go_wp2
      go_ret
      exact ⟨_, V, rfl, hmap, ⟨fun i => ⟨(hgr.row i).1, (hgr.row i).2.imp id (fun ⟨g, cap, cur, e1, e2, e3⟩ => ⟨g, cap, cur, e1, by omega, e3⟩)⟩, hgr.apart⟩, hb⟩

def tcXs (xs : List Task) (crane : Int) : List Task := if tcCode xs crane = 0 then ofCrane xs xs.length crane else []
theorem tcXs_len (xs : List Task) (crane : Int) : (tcXs xs crane).length ≤ xs.length := by
  unfold tcXs; split
  · exact ofCrane_len _ _ _
  · exact Nat.zero_le _
theorem tcCode_ok {xs : List Task} {crane : Int} (h : tcCode xs crane = 0) : tasksOk xs = true ∧ 0 ≤ crane ∧ crane ≤ 5 := by
  rcases tcCode_cases xs crane with ⟨_, ao⟩ | ⟨_, _, ao⟩ | ⟨a1, a2, _⟩
  · rw [ao] at h; cases h
  · rw [ao] at h; cases h
  · exact ⟨a1, inB_true.1 a2⟩
theorem tasksCode_eq (A : Option Addr) (n c : Nat) (ps : List Task) (crane : Int) (w : World) (lo : Nat) (h : Arr Task.cs 4 w lo w.heap.size A n ps) (hn : n ≤ 1048576) {v : Int} (hv : tcCode ps crane = v) :
    Calls Try.prog 152 #[.slice A n c, .int .i64 crane] w fun e w' => e = .returned (.int .i64 v) ∧ Below w.heap.size w w' := by subst hv; exact tasksCode_any A n c ps crane w lo h hn
theorem l11Crane_eq (A : Option Addr) (n c : Nat) (ps : List Task) (crane : Int) (w : World) (lo : Nat) (h : Arr Task.cs 4 w lo w.heap.size A n ps) (hn : n ≤ 1048576) {v : Int} (hv : tcCode ps crane = v) :
    Calls Try.prog 149 #[.slice A n c, .int .i64 crane] w fun e w' => e = .returned (.int .i64 v) ∧ Below w.heap.size w w' := by subst hv; exact l11Crane_any A n c ps crane w lo h hn

end Go.Proofs.Ytdoinbnnpompiaa
