/- SortTasks of the program hands back srtXs and srtCode. -/
import Derived.Test.YtmchkhjchpnmaaaSortRow
import Derived.Test.YtmchkhjchpnmaaaFind
namespace Go.Proofs.Ytmchkhjchpnmaaa
open Go.RowKit Go.Sort
set_option linter.unusedVariables false

theorem taskBad_any (p : Task) (w : World) : Calls Try.prog 16 #[.agg #[.int .i64 p.lift, .int .i64 p.crane, .int .i64 p.start, .int .i64 p.stop]] w fun e w' => e = .returned (.bool (!tOk p)) ∧ Below w.heap.size w w' := by
  go_enter Try.func16, Try.ntmps16
  go_wp2_with (go_at_call 17; refine (taskValid_any p _).mono ?_; rintro e w1 ⟨rfl, hb⟩)
  go_ret
  exact ⟨rfl, ((Below.refl _ _).alloc (Nat.le_refl _) _).trans (hb.mono (by simp))⟩

set_option maxHeartbeats 800000 in
theorem indexTaskBad_any (A : Option Addr) (n c : Nat) (ps : List Task) (w : World) (lo : Nat) (h : Arr Task.cs 4 w lo w.heap.size A n ps) (hn : n ≤ 9223372036854775807) (q : Task → Bool)
    (hf : ∀ (p : Task) (W : World), p ∈ ps → Below w.heap.size w W → Calls Try.prog 16 #[.agg #[.int .i64 p.lift, .int .i64 p.crane, .int .i64 p.start, .int .i64 p.stop]] W fun e W' => e = .returned (.bool (q p)) ∧ Below W.heap.size W W') :
    Calls Try.prog 23 #[.slice A n c, .func (.func 16) #[] #[]] w fun e w' => e = .returned (.int .i64 (fIdx q ps)) ∧ Below w.heap.size w w' := by
  have HF := Lib.hid hf
  clear hf
  go_enter Try.func23, Try.ntmps23
  go_wp2
  go_loopw [8] (fun i wr => ∃ k : Nat, k ≤ n ∧ i = .int .i64 k ∧ noTo q ps k = true ∧ Below w.heap.size w wr) (fun i _ => n - (intOf i).toNat)
  case atStart => exact ⟨0, Nat.zero_le _, rfl, rfl, Below.refl _ _⟩
  case round =>
    obtain ⟨k, hk, rfl, hno, hb⟩ := hrel
    have HN := Lib.hid hno
    clear hno
    by_cases hlt : k < n
    · obtain ⟨b, off, p, rfl, hx, _, hbl, c0, c1, c2, c3⟩ := Task.at (h.below hb) hlt
      have HX := Lib.hid hx
      clear hx
      cases hq : q p
      · have HQ := Lib.hid hq
        go_wp2_with (go_at_call 16; refine (HF.out p _ (List.mem_of_getElem? HX.out) hb).mono ?_; rintro e w1 ⟨rfl, hb1⟩)
        go_roundw
        case rel => exact ⟨k + 1, by omega, by go_num, noTo_step HN.out HX.out HQ.out, hb.trans (hb1.mono hb.size)⟩
        case measure => simp [intOf]; omega
      · have HQ := Lib.hid hq
        go_wp2_with (go_at_call 16; refine (HF.out p _ (List.mem_of_getElem? HX.out) hb).mono ?_; rintro e w1 ⟨rfl, hb1⟩)
        go_ret
        exact ⟨by rw [fIdx_hit HN.out HX.out HQ.out]; rfl, hb.trans (hb1.mono hb.size)⟩
    · obtain rfl : k = n := by omega
      have HE : Hid (fIdx q ps = -1) := fIdx_none (by rw [h.1]; exact HN.out)
      go_wp2
      go_ret
      exact ⟨by rw [HE.out]; rfl, hb⟩

theorem containsTaskBad_any (A : Option Addr) (n c : Nat) (ps : List Task) (w : World) (lo : Nat) (h : Arr Task.cs 4 w lo w.heap.size A n ps) (hn : n ≤ 9223372036854775807) (q : Task → Bool)
    (hf : ∀ (p : Task) (W : World), p ∈ ps → Below w.heap.size w W → Calls Try.prog 16 #[.agg #[.int .i64 p.lift, .int .i64 p.crane, .int .i64 p.start, .int .i64 p.stop]] W fun e W' => e = .returned (.bool (q p)) ∧ Below W.heap.size W W') :
    Calls Try.prog 15 #[.slice A n c, .func (.func 16) #[] #[]] w fun e w' => e = .returned (.bool (ps.any q)) ∧ Below w.heap.size w w' := by
  have HF := Lib.hid hf
  clear hf
  have HA : Hid (ps.any q = decide (0 ≤ fIdx q ps)) := any_fIdx q ps
  go_enter Try.func15, Try.ntmps15
  go_wp2_with fail
  refine (indexTaskBad_any A n c ps _ lo h hn q HF.out).mono ?_
  rintro e w1 ⟨rfl, hb⟩
  go_wp2
  go_ret
  exact ⟨by rw [HA.out]; rfl, hb⟩

theorem containsBad_any (A : Option Addr) (n c : Nat) (ps : List Task) (w : World) (lo : Nat) (h : Arr Task.cs 4 w lo w.heap.size A n ps) (hn : n ≤ 9223372036854775807) {v : Bool} (hv : ps.all tOk = !v) :
    Calls Try.prog 15 #[.slice A n c, .func (.func 16) #[] #[]] w fun e w' => e = .returned (.bool v) ∧ Below w.heap.size w w' := by
  have e : v = ps.any (fun p => !tOk p) := by
    have : ps.all tOk = !(ps.any fun p => !tOk p) := by rw [List.not_any_eq_all_not]; simp
    rw [this] at hv; revert hv; cases v <;> cases (ps.any fun p => !tOk p) <;> simp
  subst e
  exact containsTaskBad_any A n c ps w lo h hn _ (fun p W _ _ => taskBad_any p W)

/-- a sorted permutation in a row of its own -/
def SortT (ps : List Task) (w : World) (e : Ending) (w' : World) : Prop :=
  ∃ A cap zs, e = .returned (.slice A ps.length cap) ∧ zs.Perm ps ∧ Weak zs ∧ Own Task.cs 4 w' w.heap.size w'.heap.size 34 A ps.length zs ∧ Below w.heap.size w w'
set_option maxHeartbeats 1600000 in
theorem sortTasks_any (a : Addr) (n c : Nat) (ps : List Task) (w : World) (lo : Nat) (h : Arr Task.cs 4 w lo w.heap.size (some a) n ps) (hn : n ≤ 40) :
    Calls Try.prog 18 #[.slice (some a) n c] w (SortT ps w) := by
  have hlen := h.1
  by_cases h2 : 2 ≤ n
  · go_enter Try.func18, Try.ntmps18
    go_wp2_with (go_at_call 26; refine (cloneTask_any a n c ps _ lo h (by omega)).mono ?_; rintro e w1 ⟨A, cap, rfl, ho, hb⟩; obtain ⟨g, cs, rfl, g1, g2, g3, g4, g5⟩ := ho.2 (by omega); rw [hlen]; have HO := Lib.hid g3; have HB := Lib.hid hb; have HG : Hid (w.heap.size ≤ g) := g1; have H4 : Hid _ := g4; have HC : Hid _ := g5; clear g1 g3 g4 g5 ho hb)
    have hw1 := HB.out.size
    refine (sliceTasks_any g n cap w1.heap.size cs ps _ (Blk.alloc HO.out _) hlen (by have := H4.out; omega) HC.out (by simp) (by simp) (by omega) h2 hn).mono ?_
    rintro e w3 ⟨rfl, zs, cs', hp, hw, hl, hb3, hs3, hc3, hbx, hsz3, hbel⟩
    have HP : Hid _ := hp
    have HW : Hid _ := hw
    have H3 : Hid (Own Task.cs 4 w3 w.heap.size w3.heap.size 34 (some ⟨g, 0, none⟩) ps.length zs) := ⟨by rw [hl, hlen], fun _ => ⟨g, cs', rfl, HG.out, by simp at hsz3; omega, hb3, by rw [hlen]; exact hs3, hc3⟩⟩
    have HE : Hid (RowKit.Below w.heap.size w w3) := (HB.out.alloc hw1 _).trans (hbel _ HG.out (by simp; omega))
    clear hp hw hl hb3 hs3 hc3 hbel
    go_wp2
    go_ret
    exact ⟨some ⟨g, 0, none⟩, cap, zs, by rw [hlen]; rfl, HP.out, HW.out, H3.out, HE.out⟩
  · go_enter Try.func18, Try.ntmps18
    go_wp2_with (go_at_call 26; refine (cloneTask_any a n c ps _ lo h (by omega)).mono ?_; rintro e w1 ⟨A, cap, rfl, ho, hb⟩; have HO := Lib.hid ho; have HB := Lib.hid hb; rw [hlen]; clear ho hb)
    have hw1 := HB.out.size
    refine (sliceTasks_tiny A n cap w1.heap.size _ (by omega)).mono ?_
    rintro e w3 ⟨rfl, hb3⟩
    have hbx : w3.cell? ⟨w1.heap.size, 0, none⟩ = some (.slice A n cap) := by rw [hb3.cell (by simp)]; simp
    have hb4 := (Below.refl w1.heap.size w1).alloc (Nat.le_refl _) (.cells #[.slice A n cap] 24)
    have H3 : Hid (Own Task.cs 4 w3 w.heap.size w3.heap.size 34 A ps.length ps) := ((HO.out.bel hb4).bel hb3).wide (Nat.le_refl _) (by have := hb3.size; simp at this; omega)
    have HE : Hid (RowKit.Below w.heap.size w w3) := (HB.out.alloc hw1 _).trans (hb3.mono (by simp; omega))
    clear hb3 hb4
    go_wp2
    go_ret
    exact ⟨A, cap, ps, by rw [hlen]; rfl, List.Perm.refl _, fun i j x y hij hx hy => by (have := (List.getElem?_eq_some_iff.1 hy).1); omega, H3.out, HE.out⟩

theorem validTasks_eq (A : Option Addr) (n c : Nat) (ps : List Task) (w : World) (lo : Nat) (h : Arr Task.cs 4 w lo w.heap.size A n ps) (hn : n ≤ 1048576) {v : Bool} (hv : tasksOk ps = v) :
    Calls Try.prog 19 #[.slice A n c] w fun e w' => e = .returned (.bool v) ∧ Below w.heap.size w w' := by subst hv; exact validTasks_any A n c ps w lo h hn
set_option maxHeartbeats 1600000 in
theorem sortTasksAll_any (a : Addr) (n c : Nat) (ps : List Task) (w : World) (lo : Nat) (h : Arr Task.cs 4 w lo w.heap.size (some a) n ps) (hn : n ≤ 1048576) :
    Calls Try.prog 7 #[.slice (some a) n c] w (RetS Task.cs 4 34 (srtXs ps) (srtCode ps) w) := by
  have hlen := h.1
  cases h1 : ps.all tOk
  · have H := Lib.hid (srt_2 h1)
    go_enter Try.func7, Try.ntmps7
    go_wp2_with (go_at_call 15; refine (containsBad_any _ _ _ ps _ lo h (by omega) (v := true) h1).mono ?_; rintro e w1 ⟨rfl, hb⟩)
    go_ret2
    rw [H.out.1, H.out.2]; exact RetS.nil hb
  · by_cases h40 : n ≤ 40
    · have h40z : ¬ (40 : Int) < (n : Int) := by omega
      have H1 := Lib.hid h1
      go_enter Try.func7, Try.ntmps7
      go_wp2_with (first | (go_at_call 15; refine (containsBad_any _ _ _ ps _ lo h (by omega) (v := false) h1).mono ?_; rintro e w1 ⟨rfl, hb⟩) | (go_at_call 18; refine (sortTasks_any a n c ps _ lo ((h.below hb).more hb.size) h40).mono ?_; rintro e w2 ⟨A, cap, zs, rfl, hp, hw, ho, hb2⟩; rw [hlen] at ho ⊢; have HP := Lib.hid hp; have HW := Lib.hid hw; have HO := Lib.hid ho; have HB2 := Lib.hid hb2; clear hp hw ho hb2))
      have hzl : zs.length = n := HP.out.length_eq.trans hlen
      have hsm := sorted_same HP.out HW.out
      have hw1 := hb.size
      have hw2 := HB2.out.size
      cases hv : tasksOk zs
      · have H := Lib.hid (srt_4 H1.out (by omega) (by rw [← hsm.1]; exact hv))
        clear h1
        refine (validTasks_eq A n cap zs _ w1.heap.size (HO.out.arr Task.cs_len) (by omega) hv).mono ?_
        rintro e w3 ⟨rfl, hb3⟩
        go_wp2
        go_ret2
        rw [H.out.1, H.out.2]; exact RetS.nil (hb.trans ((HB2.out.mono hw1).trans (hb3.mono (by omega))))
      · have H := Lib.hid (srt_0 H1.out (by omega) (by rw [← hsm.1]; exact hv))
        have hz := hsm.2 hv
        have HZ : Hid _ := hz
        clear h1 hz
        refine (validTasks_eq A n cap zs _ w1.heap.size (HO.out.arr Task.cs_len) (by omega) hv).mono ?_
        rintro e w3 ⟨rfl, hb3⟩
        go_wp2
        go_ret2
        rw [H.out.1, H.out.2, ← HZ.out]
        exact ⟨A, cap, by rw [hzl]; rfl, by rw [hzl]; exact (HO.out.bel hb3).wide (by omega) hb3.size, hb.trans ((HB2.out.mono hw1).trans (hb3.mono (by omega)))⟩
    · have h40z : (40 : Int) < (n : Int) := by omega
      have H := Lib.hid (srt_5 h1 (by omega))
      go_enter Try.func7, Try.ntmps7
      go_wp2_with (go_at_call 15; refine (containsBad_any _ _ _ ps _ lo h (by omega) (v := false) h1).mono ?_; rintro e w1 ⟨rfl, hb⟩)
      go_ret2
      rw [H.out.1, H.out.2]; exact RetS.nil hb
end Go.Proofs.Ytmchkhjchpnmaaa
