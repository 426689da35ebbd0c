/- l08Ok at a slice of whatever capacity. -/
import Derived.Test.YtbklbhbjlbojdaaLifts2
namespace Go.Proofs.Ytbklbhbjlbojdaa
open Go.RowKit Go.Sort
set_option linter.unusedVariables false

set_option maxRecDepth 100000 in
set_option maxHeartbeats 1600000 in
theorem l08OkC_any (A : Option Addr) (n c : Nat) (ps : List Lift) (vs : List LV) (hv : ps.map Lift.val = vs) (w : World) (lo : Nat) (h : Lifts w lo w.heap.size A n ps) (hn : n ≤ 1048576) (hc : n ≤ c) (hc2 : c ≤ 9223372036854775807) (hp : ∀ p ∈ ps, p.wf) :
    Calls Try.prog 80 #[.slice A n c] w fun e w' => e = .returned (.bool (liftsOk vs)) ∧ Below w.heap.size w w' := by
  have HV := Lib.hid hv
  have HL : Hid (vs.length = n) := by show _ = _; rw [lv_len hv, h.len]
  have HW := Lib.hid hp
  clear hv hp
  go_enter Try.func80, Try.ntmps80
  go_wp2
  go_loopw [3] (fun i wr => ∃ k : Nat, k ≤ n ∧ i = .int .i64 k ∧ allTo (liftAt vs) k = true ∧ Below w.heap.size w wr) (fun i _ => n - (intOf i).toNat)
  case atStart => exact ⟨0, Nat.zero_le _, rfl, rfl, Below.refl _ _⟩
  case round =>
    obtain ⟨k, hk, rfl, hall, hb⟩ := hrel
    have HA := Lib.hid hall
    clear hall
    by_cases hlt : k < n
    · have HLI := Lib.hid h
      obtain ⟨b, off, p, rfl, hx, _, hbl, hrow, c0, c1, c2, c3, c4, c5, c6, c7, c8⟩ := Lift.at (h.below hb) hlt
      have hpw := HW.out p (List.mem_of_getElem? hx)
      have hpn := hpw.v.name
      have HX := Lib.hid (lv_at HV.out hx)
      have hsz := hb.size
      have hk0 : (0 : Int) ≤ (k : Int) := by omega
      have hk1 : (k : Int) < (n : Int) := by omega
      have hk2 : (k : Int) ≤ (c : Int) := by omega
      clear hx h
      obtain ⟨v, hv⟩ : ∃ v : Bool, oneB p.v p.r.xs k = v := ⟨_, rfl⟩
      obtain ⟨u, hu⟩ : ∃ u : Int, fIdx (nameIs p.v.name) (vs.take k) = u := ⟨_, rfl⟩
      have HC1 : Hid (∀ d os, Calls Try.prog 166 #[.pointer (some ⟨b, off + k * 9, none⟩), .int .i64 k] (grow (redrawn wr d) os) fun e w' => e = .returned (.bool v) ∧ Below (grow (redrawn wr d) os).heap.size (grow (redrawn wr d) os) w') := by
        intro d os
        have hbg := below_regrown wr d os
        have := l08One_any b (off + k * 9) p k (grow (redrawn wr d) os) lo hpn ((hrow.below (hbg.mono hsz)).more (Nat.le_trans hsz hbg.size)) hpw.n (by omega) (by omega) (by have := hbg.size; omega) (cell_regrown c0 d os) (cell_regrown c1 d os) (cell_regrown c2 d os) (cell_regrown c3 d os) (cell_regrown c4 d os) (cell_regrown c5 d os) (cell_regrown c6 d os) (cell_regrown c7 d os) (cell_regrown c8 d os)
        rwa [hv] at this
      have HC2 : Hid (∀ d os, Calls Try.prog 81 #[.slice (some ⟨b, off, none⟩) k c, .string p.v.name] (grow (redrawn wr d) os) fun e w' => e = .returned (.int .i64 u) ∧ Below (grow (redrawn wr d) os).heap.size (grow (redrawn wr d) os) w') := by
        intro d os
        have hbg := below_regrown wr d os
        have := l08Named_any (some ⟨b, off, none⟩) k c (ps.take k) (vs.take k) (by rw [List.map_take, HV.out]) p.v.name (grow (redrawn wr d) os) lo w.heap.size (((HLI.out.below hb).below (hbg.mono hsz)).take (by omega)) (by omega) (fun q hq => HW.out q (List.mem_of_mem_take hq)) hpn
        rw [hu] at this
        exact same_bel this
      have c0r := cell_regrown c0
      have HVV := Lib.hid hv
      have HU := Lib.hid hu
      clear c0 c1 c2 c3 c4 c5 c6 c7 c8 hv hu hrow
      cases v
      · go_wp2
        refine wp_region_quiet_below (by kernel_rfl) (by kernel_rfl) ?_
        repeat (go_big_quiet_step (first | (go_at_call 166; exact Calls.regrown_of (HC1.out _ _)) | (go_at_call 81; exact Calls.regrown_of (HC2.out _ _))))
        refine wpQuiet_nil ?_
        intro _ hw9
        obtain ⟨⟨dq, osq⟩, hw9⟩ := hw9
        subst hw9
        have hb1 := below_regrown wr dq osq
        dsimp only at hb1 ⊢
        clear HC1 HC2 c0r
        generalize grow (redrawn wr dq) osq = W2 at hb1 ⊢
        have HO : Hid (liftsOk vs = false) := liftsOk_bad HX.out (by have := HVV.out; unfold oneB at this; cases h1 : plainB p.v <;> cases h2 : risesB p.r.xs k <;> simp [h1, h2] at this ⊢)
        go_wp2
        go_ret
        exact ⟨by rw [HO.out]; rfl, hb.trans (hb1.mono hsz)⟩
      · cases hf : freshTo vs k p.v.name
        · have HU0 : 0 ≤ u := by rw [← HU.out]; exact fresh_idx_no (by rw [HL.out]; omega) hf
          have HO : Hid (liftsOk vs = false) := liftsOk_bad HX.out (by rw [hf]; simp)
          go_wp2
          refine wp_region_quiet_below (by kernel_rfl) (by kernel_rfl) ?_
          repeat (go_big_quiet_step (first | (go_at_call 166; exact Calls.regrown_of (HC1.out _ _)) | (go_at_call 81; exact Calls.regrown_of (HC2.out _ _))))
          refine wpQuiet_nil ?_
          intro _ hw9
          obtain ⟨⟨dq, osq⟩, hw9⟩ := hw9
          subst hw9
          have hb1 := below_regrown wr dq osq
          dsimp only at hb1 ⊢
          clear HC1 HC2 c0r
          generalize grow (redrawn wr dq) osq = W2 at hb1 ⊢
          go_wp2
          go_ret
          exact ⟨by rw [HO.out]; rfl, hb.trans (hb1.mono hsz)⟩
        · have HF := Lib.hid hf
          obtain rfl : u = -1 := by rw [← HU.out]; exact fresh_idx (by rw [HL.out]; omega) hf
          go_wp2
          refine wp_region_quiet_below (by kernel_rfl) (by kernel_rfl) ?_
          repeat (go_big_quiet_step (first | (go_at_call 166; exact Calls.regrown_of (HC1.out _ _)) | (go_at_call 81; exact Calls.regrown_of (HC2.out _ _))))
          refine wpQuiet_nil ?_
          intro _ hw9
          obtain ⟨⟨dq, osq⟩, hw9⟩ := hw9
          subst hw9
          have hb1 := below_regrown wr dq osq
          dsimp only at hb1 ⊢
          clear HC1 HC2 c0r
          generalize grow (redrawn wr dq) osq = W2 at hb1 ⊢
          have HO : Hid (liftAt vs k = true) := by
            show _ = _
            have := HVV.out
            unfold oneB at this
            rw [Bool.and_eq_true] at this
            rw [liftAt_of HX.out, HF.out, this.1, this.2]; rfl
          go_wp2
          go_roundw
          case rel => exact ⟨k + 1, by omega, by go_num, allTo_step HA.out HO.out, hb.trans (hb1.mono hsz)⟩
          case measure => simp [intOf]; omega
    · obtain rfl : k = n := by omega
      have HE := Lib.hid (liftsOk_end HL.out HA.out)
      go_wp2
      go_ret
      exact ⟨by rw [HE.out]; rfl, hb⟩

end Go.Proofs.Ytbklbhbjlbojdaa
