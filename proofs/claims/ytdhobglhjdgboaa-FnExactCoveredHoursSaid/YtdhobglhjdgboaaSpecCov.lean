/- CoveredHours of the reference: chXs and shCode; l24Manned, l00Put. -/
import Derived.Test.YtdhobglhjdgboaaCovLaw
import Derived.Test.YtdhobglhjdgboaaRInt64
import Derived.Test.YtdhobglhjdgboaaFind
import Derived.Test.YtdhobglhjdgboaaShiftForm
import Derived.Lib.QuietBelow
import Derived.BigQuiet
namespace Go.Proofs.Ytdhobglhjdgboaa
open Go.RowKit Go.Sort
set_option linter.unusedVariables false

theorem in24_eq (n a b : Int) (w : World) {v : Bool} (h : inB n a b = v) : Calls Try.prog 34 #[.int .i64 n, .int .i64 a, .int .i64 b] w fun e w' => e = .returned (.bool v) ∧ Below w.heap.size w w' := by
  subst h; exact (l00In_any n a b w).mono fun e w' ⟨h1, h2⟩ => ⟨h1, h2 ▸ Below.refl _ _⟩
theorem covJ_cases (xs : List Shift) (c r h : Int) (k : Nat) {x : Shift} (hx : xs[k]? = some x) (h1 : -9223372036854775808 ≤ x.stop - 1) :
    ((x.crane == c) = false ∧ covJ xs c r h k = false) ∨ ((x.crane == c) = true ∧ (x.role == r) = false ∧ covJ xs c r h k = false) ∨ ((x.crane == c) = true ∧ (x.role == r) = true ∧ inB h x.start (x.stop - 1) = covJ xs c r h k) := by
  rw [covJ_of hx]
  by_cases e1 : x.crane = c
  · by_cases e2 : x.role = r
    · refine .inr (.inr ⟨beq_iff_eq.2 e1, beq_iff_eq.2 e2, ?_⟩)
      rw [decide_eq_true e1, decide_eq_true e2, Bool.true_and, Bool.true_and, Bool.eq_iff_iff, inB_true, Bool.and_eq_true, decide_eq_true_eq, decide_eq_true_eq]
      omega
    · exact .inr (.inl ⟨beq_iff_eq.2 e1, beq_eq_false_iff_ne.2 e2, by rw [decide_eq_false e2]; simp⟩)
  · exact .inl ⟨beq_eq_false_iff_ne.2 e1, by rw [decide_eq_false e1]; rfl⟩

set_option maxRecDepth 100000 in
set_option maxHeartbeats 1000000 in
theorem l24Manned_any (A : Option Addr) (n cc : Nat) (xs : List Shift) (c r hr : Int) (w : World) (lo : Nat) (h : Arr Shift.cs 5 w lo w.heap.size A n xs) (hn : n ≤ 1048576) (hok : xs.any badShift = false) {v : Bool} (hv : hasR xs c r hr xs.length = v) :
    Calls Try.prog 35 #[.slice A n cc, .int .i64 c, .int .i64 r, .int .i64 hr] w fun e w' => e = .returned (.bool v) ∧ Below w.heap.size w w' := by
  have HH := Lib.hid h
  have HL := Lib.hid h.1
  have HOK := Lib.hid hok
  have HV := Lib.hid hv
  clear h hok hv
  go_enter Try.func35, Try.ntmps35
  go_wp2
  go_loopw [9] (fun i wr => ∃ k : Nat, k ≤ n ∧ i = .int .i64 k ∧ hasR xs c r hr k = false ∧ Below w.heap.size w wr) (fun i _ => n - (intOf i).toNat)
  case atStart => exact ⟨0, Nat.zero_le _, rfl, rfl, Below.refl _ _⟩
  case round =>
    obtain ⟨k, hk, rfl, hno, hb⟩ := hrel
    have HB := Lib.hid hb
    have HNO := Lib.hid hno
    by_cases hlt : k < n
    · obtain ⟨b, off, x, rfl, hx, _, hbl, c0, c1, c2, c3, c4⟩ := Shift.at (HH.out.below hb) hlt
      obtain ⟨f1, f2, f3, f4, f5⟩ := fOk_iff (fOk_all HOK.out hx)
      have HC := Lib.hid (covJ_cases xs c r hr k hx (by omega))
      have hk1 : (k : Int) < (n : Int) := by omega
      have hsz := hb.size
      have t1 := cell_regrown c1
      have t2 := cell_regrown c2
      have t3 := cell_regrown c3
      have t4 := cell_regrown c4
      have k1 : IntKind.i64.wrap (x.stop - 1) = x.stop - 1 := by rw [IntKind.wrap_i64]; omega
      clear hx f3 hb hno c0 c1 c2 c3 c4
      rcases HC.out with ⟨b1, hc⟩ | ⟨b1, b2, hc⟩ | ⟨b1, b2, hc⟩
      · have HN : Hid (hasR xs c r hr (k + 1) = false) := by show _ = _; rw [hasR_succ, HNO.out, hc]; rfl
        clear hc
        go_wp2
        refine wp_region_quiet_below (by kernel_rfl) (by kernel_rfl) ?_
        repeat (go_big_quiet_step (first | (go_at_call 34; exact Calls.regrown_of (in24_eq _ _ _ _ (by assumption)))))
        refine wpQuiet_nil ?_
        intro _ hw9
        obtain ⟨⟨dq, osq⟩, hw9⟩ := hw9
        subst hw9
        have hb2 := below_regrown wr dq osq
        dsimp only at hb2 ⊢
        generalize grow (redrawn wr dq) osq = W2 at hb2 ⊢
        have HB2 := Lib.hid (HB.out.trans (hb2.mono hsz))
        clear hb2
        go_wp2
        go_roundw
        case rel => exact ⟨k + 1, by omega, by go_num, HN.out, HB2.out⟩
        case measure => simp [intOf]; omega
      · have HN : Hid (hasR xs c r hr (k + 1) = false) := by show _ = _; rw [hasR_succ, HNO.out, hc]; rfl
        clear hc
        go_wp2
        refine wp_region_quiet_below (by kernel_rfl) (by kernel_rfl) ?_
        repeat (go_big_quiet_step (first | (go_at_call 34; exact Calls.regrown_of (in24_eq _ _ _ _ (by assumption)))))
        refine wpQuiet_nil ?_
        intro _ hw9
        obtain ⟨⟨dq, osq⟩, hw9⟩ := hw9
        subst hw9
        have hb2 := below_regrown wr dq osq
        dsimp only at hb2 ⊢
        generalize grow (redrawn wr dq) osq = W2 at hb2 ⊢
        have HB2 := Lib.hid (HB.out.trans (hb2.mono hsz))
        clear hb2
        go_wp2
        go_roundw
        case rel => exact ⟨k + 1, by omega, by go_num, HN.out, HB2.out⟩
        case measure => simp [intOf]; omega
      · cases hcv : covJ xs c r hr k
        · rw [hcv] at hc
          have HN : Hid (hasR xs c r hr (k + 1) = false) := by show _ = _; rw [hasR_succ, HNO.out, hcv]; rfl
          clear hcv
          go_wp2
          refine wp_region_quiet_below (by kernel_rfl) (by kernel_rfl) ?_
          repeat (go_big_quiet_step (first | (go_at_call 34; exact Calls.regrown_of (in24_eq _ _ _ _ (by assumption)))))
          refine wpQuiet_nil ?_
          intro _ hw9
          obtain ⟨⟨dq, osq⟩, hw9⟩ := hw9
          subst hw9
          have hb2 := below_regrown wr dq osq
          dsimp only at hb2 ⊢
          generalize grow (redrawn wr dq) osq = W2 at hb2 ⊢
          have HB2 := Lib.hid (HB.out.trans (hb2.mono hsz))
          clear hb2
          go_wp2
          go_roundw
          case rel => exact ⟨k + 1, by omega, by go_num, HN.out, HB2.out⟩
          case measure => simp [intOf]; omega
        · rw [hcv] at hc
          have HN : Hid (v = true) := by show _ = _; rw [← HV.out]; exact hasR_iff.2 ⟨k, by rw [HL.out]; exact hlt, hcv⟩
          clear hcv
          go_wp2
          refine wp_region_quiet_below (by kernel_rfl) (by kernel_rfl) ?_
          repeat (go_big_quiet_step (first | (go_at_call 34; exact Calls.regrown_of (in24_eq _ _ _ _ (by assumption)))))
          refine wpQuiet_nil ?_
          intro _ hw9
          obtain ⟨⟨dq, osq⟩, hw9⟩ := hw9
          subst hw9
          have hb2 := below_regrown wr dq osq
          dsimp only at hb2 ⊢
          generalize grow (redrawn wr dq) osq = W2 at hb2 ⊢
          have HB2 := Lib.hid (HB.out.trans (hb2.mono hsz))
          clear hb2
          go_wp2
          go_ret
          exact ⟨by rw [HN.out]; rfl, HB2.out⟩
    · have hkn : k = n := by omega
      subst hkn
      have HN : Hid (v = false) := by show _ = _; rw [← HV.out, HL.out, HNO.out]
      go_wp2
      go_ret
      exact ⟨by rw [HN.out]; rfl, HB.out⟩

theorem pt_step {l : List Int} {m y : Int} {k : Nat} (hx : l[k]? = some y) : pt l m (k + 1) = if (pt l m k).2 = false ∧ m ≤ y then ((if m < y then (pt l m k).1 ++ [m] else (pt l m k).1) ++ [y], true) else ((pt l m k).1 ++ [y], (pt l m k).2) := by
  rw [pt]; simp only [hx]
/-- l00Put hands back a row of its own -/
def PutS (l : List Int) (m : Int) (w : World) (e : Ending) (w' : World) : Prop := ∃ v, e = .returned v ∧ Grow ic 1 w' w.heap.size 2 v (putL l m) ∧ Below w.heap.size w w'
set_option maxRecDepth 100000 in
set_option maxHeartbeats 2000000 in
theorem l00Put_any (A : Option Addr) (n cc : Nat) (l : List Int) (m : Int) (w : World) (lo : Nat) (h : Arr ic 1 w lo w.heap.size A n l) (hn : n ≤ 1048576) :
    Calls Try.prog 36 #[.slice A n cc, .int .i64 m] w (PutS l m w) := by
  have HH := Lib.hid h
  have HL := Lib.hid h.1
  have HE := Lib.hid (pt_end l m)
  rw [HL.out] at HE
  clear h
  obtain ⟨W, hW⟩ : ∃ W : World, W = w.alloc (.cells #[] 2) := ⟨_, rfl⟩
  have HB0 : Hid (RowKit.Below w.heap.size w W) := by show _; rw [hW]; exact (Below.refl _ _).alloc (Nat.le_refl _) _
  have HG0 : Hid (Grow ic 1 W w.heap.size 2 (.slice (some ⟨w.heap.size, 0, none⟩) 0 0) []) := by show _; rw [hW]; exact Grow.empty w _ _ (Nat.le_refl _)
  go_enter Try.func36, Try.ntmps36
  go_wp2
  rw [← hW]
  clear hW
  go_loopw [5, 6, 7] (fun v d i wr => ∃ k : Nat, k ≤ n ∧ i = .int .i64 k ∧ d = .bool (pt l m k).2 ∧ Grow ic 1 wr w.heap.size 2 v (pt l m k).1 ∧ Below w.heap.size w wr) (fun _ _ i _ => n - (intOf i).toNat)
  case atStart => exact ⟨0, Nat.zero_le _, rfl, rfl, HG0.out, HB0.out⟩
  case round =>
    obtain ⟨k, hk, rfl, rfl, hg, hb⟩ := hrel
    have HG := Lib.hid hg
    have HB := Lib.hid hb
    have hsz := hb.size
    have HPL := Lib.hid (pt_len l m k)
    clear hg
    by_cases hlt : k < n
    · obtain ⟨b, off, y, rfl, hx, _, hbl, c0⟩ := Ints.at (HH.out.below hb) hlt
      have HC0 : Hid (w.cell? ⟨b, off + k, none⟩ = some (.int .i64 y)) := by
        show _ = _; rw [← hb.cell (p := ⟨b, off + k, none⟩) hbl]; exact c0
      have hk1 : (k : Int) < (n : Int) := by omega
      have HST := Lib.hid (pt_step (m := m) hx)
      clear hx hb
      obtain ⟨o, d, hod⟩ : ∃ o d, pt l m k = (o, d) := ⟨_, _, rfl⟩
      rw [hod] at HST HG HPL ⊢
      clear hod
      dsimp only at HST HPL ⊢
      have hl2 := HPL.out
      cases d
      · by_cases hge : m ≤ y
        · by_cases hgt : m < y
          · have HN : Hid (pt l m (k + 1) = (o ++ [m] ++ [y], true)) := by show _ = _; rw [HST.out, if_pos ⟨rfl, hge⟩, if_pos hgt]
            go_wp2_with (first | (at_builtin; refine wpList_snoc _ rfl _ _ 24 rfl w.heap.size 2 (.int .i64 0) 8 Try.underlying24 infoInt rfl (by omega) _ o m rfl (HG.out.alloc _) _ _ rfl (heap_alloc_new _ _) rfl rfl (ic_one _) (by omega) (by omega) (by simp; omega) ?_; intro vA wA hgA hgrA; have HBA : Hid (RowKit.Below w.heap.size w wA) := (HG.out.alloc _).below (HB.out.alloc hsz _) hgrA (Nat.le_refl _) (by simp; omega); have HGA := Lib.hid hgA; have hszA := HBA.out.size; have c0 := (HBA.out.cell (p := ⟨b, off + k, none⟩) hbl).trans HC0.out; clear hgA hgrA) | (at_builtin; refine wpList_snoc _ rfl _ _ 24 rfl w.heap.size 2 (.int .i64 0) 8 Try.underlying24 infoInt rfl (by omega) _ (o ++ [m]) y rfl (HGA.out.alloc _) _ _ rfl (heap_alloc_new _ _) rfl rfl (ic_one _) (by simp; omega) (by omega) (by simp; omega) ?_; intro vB wB hgB hgrB))
            have HBB : Hid (RowKit.Below w.heap.size w wB) := (HGA.out.alloc _).below (HBA.out.alloc hszA _) hgrB (Nat.le_refl _) (by simp; omega)
            have HGB := Lib.hid hgB
            clear hgB hgrB
            go_wp2
            go_roundw
            case rel => exact ⟨k + 1, by omega, by go_num, by rw [HN.out], by rw [HN.out]; exact HGB.out, HBB.out⟩
            case measure => simp [intOf]; omega
          · have HN : Hid (pt l m (k + 1) = (o ++ [y], true)) := by show _ = _; rw [HST.out, if_pos ⟨rfl, hge⟩, if_neg hgt]
            go_wp2_with (at_builtin; refine wpList_snoc _ rfl _ _ 24 rfl w.heap.size 2 (.int .i64 0) 8 Try.underlying24 infoInt rfl (by omega) _ o y rfl (HG.out.alloc _) _ _ rfl (heap_alloc_new _ _) rfl rfl (ic_one _) (by omega) (by omega) (by simp; omega) ?_; intro vB wB hgB hgrB)
            have HBB : Hid (RowKit.Below w.heap.size w wB) := (HG.out.alloc _).below (HB.out.alloc hsz _) hgrB (Nat.le_refl _) (by simp; omega)
            have HGB := Lib.hid hgB
            clear hgB hgrB
            go_wp2
            go_roundw
            case rel => exact ⟨k + 1, by omega, by go_num, by rw [HN.out], by rw [HN.out]; exact HGB.out, HBB.out⟩
            case measure => simp [intOf]; omega
        · have HN : Hid (pt l m (k + 1) = (o ++ [y], false)) := by show _ = _; rw [HST.out, if_neg (fun h9 => hge h9.2)]
          go_wp2_with (at_builtin; refine wpList_snoc _ rfl _ _ 24 rfl w.heap.size 2 (.int .i64 0) 8 Try.underlying24 infoInt rfl (by omega) _ o y rfl (HG.out.alloc _) _ _ rfl (heap_alloc_new _ _) rfl rfl (ic_one _) (by omega) (by omega) (by simp; omega) ?_; intro vB wB hgB hgrB)
          have HBB : Hid (RowKit.Below w.heap.size w wB) := (HG.out.alloc _).below (HB.out.alloc hsz _) hgrB (Nat.le_refl _) (by simp; omega)
          have HGB := Lib.hid hgB
          clear hgB hgrB
          go_wp2
          go_roundw
          case rel => exact ⟨k + 1, by omega, by go_num, by rw [HN.out], by rw [HN.out]; exact HGB.out, HBB.out⟩
          case measure => simp [intOf]; omega
      · have HN : Hid (pt l m (k + 1) = (o ++ [y], true)) := by show _ = _; rw [HST.out, if_neg (fun h9 => by cases h9.1)]
        go_wp2_with (at_builtin; refine wpList_snoc _ rfl _ _ 24 rfl w.heap.size 2 (.int .i64 0) 8 Try.underlying24 infoInt rfl (by omega) _ o y rfl (HG.out.alloc _) _ _ rfl (heap_alloc_new _ _) rfl rfl (ic_one _) (by omega) (by omega) (by simp; omega) ?_; intro vB wB hgB hgrB)
        have HBB : Hid (RowKit.Below w.heap.size w wB) := (HG.out.alloc _).below (HB.out.alloc hsz _) hgrB (Nat.le_refl _) (by simp; omega)
        have HGB := Lib.hid hgB
        clear hgB hgrB
        go_wp2
        go_roundw
        case rel => exact ⟨k + 1, by omega, by go_num, by rw [HN.out], by rw [HN.out]; exact HGB.out, HBB.out⟩
        case measure => simp [intOf]; omega
    · have hkn : k = n := by omega
      subst hkn
      obtain ⟨o, d, hod⟩ : ∃ o d, pt l m k = (o, d) := ⟨_, _, rfl⟩
      rw [hod] at HE HG HPL ⊢
      clear hod
      dsimp only at HE HPL ⊢
      have hl2 := HPL.out
      cases d
      · have HN : Hid (putL l m = o ++ [m]) := HE.out
        go_wp2_with (at_builtin; refine wpList_snoc _ rfl _ _ 24 rfl w.heap.size 2 (.int .i64 0) 8 Try.underlying24 infoInt rfl (by omega) _ o m rfl (HG.out.alloc _) _ _ rfl (heap_alloc_new _ _) rfl rfl (ic_one _) (by omega) (by omega) (by simp; omega) ?_; intro vB wB hgB hgrB)
        have HBB : Hid (RowKit.Below w.heap.size w wB) := (HG.out.alloc _).below (HB.out.alloc hsz _) hgrB (Nat.le_refl _) (by simp; omega)
        have HGB := Lib.hid hgB
        clear hgB hgrB
        go_wp2
        go_ret
        exact ⟨_, rfl, by rw [HN.out]; exact HGB.out, HBB.out⟩
      · have HN : Hid (putL l m = o) := HE.out
        go_wp2
        go_ret
        exact ⟨_, rfl, by rw [HN.out]; exact HG.out, HB.out⟩
end Go.Proofs.Ytdhobglhjdgboaa
