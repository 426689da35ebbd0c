/- ValidLifts of the program, l08Ok of the reference: both say liftsOk. -/
import Derived.Test.YtdhobglhjdgboaaDoorLifts
import Derived.Test.YtdhobglhjdgboaaDoorFind
namespace Go.Proofs.YtdhobglhjdgboaaDoor
open Go.RowKit Go.Sort
set_option linter.unusedVariables false

set_option maxRecDepth 100000 in
set_option maxHeartbeats 1600000 in
theorem validLifts_any (A : Option Addr) (n c : Nat) (ps : List Lift) (vs : List LV) (hv : ps.map Lift.val = vs) (w : World) (lo : Nat) (h : Lifts w lo w.heap.size A n ps) (hn : n ≤ 1048576) (hp : ∀ p ∈ ps, p.wf) :
    Calls Tryd.prog 150 #[.slice A n c] w fun e w' => e = .returned (.bool (liftsOk vs)) ∧ Below w.heap.size w w' := by
  have hmm := @run_makeMap Tryd.prog
  have HV := Lib.hid hv
  have HL : Hid (vs.length = n) := by show _ = _; rw [lv_len hv, h.len]
  have HW := Lib.hid hp
  clear hv hp
  go_enter Tryd.func150, Tryd.ntmps150
  go_wp2
  clear hmm
  go_loopw [12] (fun i wr => ∃ k : Nat, k ≤ n ∧ i = .int .i64 k ∧ StrSet Tryd.prog 9 4 wr w.heap.size k (fun r => !freshTo vs k r) ∧ allTo (liftAt vs) k = true ∧ Below w.heap.size w wr) (fun i _ => n - (intOf i).toNat)
  case atStart => exact ⟨0, Nat.zero_le _, rfl, (StrSet.made w).to fun _ => rfl, rfl, (Below.refl _ _).alloc (Nat.le_refl _) _⟩
  case round =>
    obtain ⟨k, hk, rfl, hset, hall, hb⟩ := hrel
    have HA := Lib.hid hall
    clear hall
    by_cases hlt : k < n
    · obtain ⟨b, off, p, rfl, hx, _, hbl, hrow, c0, c1, c2, c3, c4, c5, c6, c7, c8⟩ := Lift.at (h.below hb) hlt
      have hpn := (HW.out p (List.mem_of_getElem? hx)).v.name
      have hpr := (HW.out p (List.mem_of_getElem? hx)).n
      have HM := Lib.hid (List.mem_of_getElem? hx)
      have HX := Lib.hid (lv_at HV.out hx)
      have hsz := hb.size
      have hsl := hset.lt
      obtain ⟨W, hW⟩ : ∃ W : World, W = wr.alloc (.cells #[.string p.v.name, .int .i64 p.v.weight, .int .i64 p.v.fx, .int .i64 p.v.fy, .int .i64 p.v.tx, .int .i64 p.v.ty, .int .i64 p.v.height, .int .i64 p.v.deadline, .slice p.r.a p.r.n p.r.cap] 68) := ⟨_, rfl⟩
      have hbW : Below wr.heap.size wr W := by rw [hW]; exact (Below.refl _ _).alloc (Nat.le_refl _) _
      have PB : Blk W wr.heap.size 68 #[.string p.v.name, .int .i64 p.v.weight, .int .i64 p.v.fx, .int .i64 p.v.fy, .int .i64 p.v.tx, .int .i64 p.v.ty, .int .i64 p.v.height, .int .i64 p.v.deadline, .slice p.r.a p.r.n p.r.cap] := by rw [hW]; exact Blk.new _ _ _
      have hset0 := hset.bel hbW hsl
      have hszW := PB.lt
      obtain ⟨d0, d1, d2, d3, d4, d5, d6, d7, d8⟩ := Lift.blk PB
      clear hx hset hrow
      go_wp2_with fail
      rw [← hW]
      clear hW c0 c1 c2 c3 c4 c5 c6 c7 c8
      go_wp2_with fail
      refine (plain_any p _ hpn).mono ?_
      rintro _ w1 ⟨rfl, hb1⟩
      have PB1 := PB.bel hb1
      have hset1 := hset0.bel hb1 (by omega)
      have hs1 := hb1.size
      have B1 := (hb.trans (hbW.mono hsz)).trans (hb1.mono (by omega))
      have hlook : (Instr.lookup 265 (.map (some w.heap.size)) (.string p.v.name) false).run Tryd.prog w1 = .ok (.bool (!freshTo vs k p.v.name)) w1 := hset1.look Tryd.underlying265 Tryd.underlying9 Tryd.underlying4 (zero4 _) hpn
      clear PB hset0 hb1 hbW d0 d1 d2 d3 d4 d5 d6 d7 d8
      obtain ⟨d0, d1, d2, d3, d4, d5, d6, d7, d8⟩ := Lift.blk PB1
      cases hq : plainB p.v
      · have HQ := Lib.hid hq
        go_wp2
        go_ret
        exact ⟨by rw [liftsOk_bad HX.out (by rw [HQ.out]; rfl)]; rfl, B1⟩
      · have HQ := Lib.hid hq
        cases hf : freshTo vs k p.v.name
        · have HF := Lib.hid hf
          go_wp2
          go_ret
          exact ⟨by rw [liftsOk_bad HX.out (by rw [HF.out]; simp)]; rfl, B1⟩
        · have HF := Lib.hid hf
          go_wp2_with (at_mapUpdate; go_loud (refine wpList_put_str rfl _ _ _ 265 rfl 9 4 Tryd.underlying265 Tryd.underlying9 Tryd.underlying4 w.heap.size k _ rfl hset1 (by omega) p.v.name rfl rfl hpn ?_; intro w2 hset2 hgrow2; have PB2 := PB1.grown hgrow2 (by intro hh; injection hh with hh; omega); obtain ⟨x0, x1, x2, x3, x4, x5, x6, x7, x8⟩ := Lift.blk PB2; have B2 := B1.grown hgrow2 (by omega) (fun j hj => by cases hj; exact Nat.le_refl _)))
          have hrow := (h.below B2).2 p HM.out
          have HB2 := Lib.hid B2
          have HR := Lib.hid hrow.1
          clear PB1 hset1 hlook d0 d1 d2 d3 d4 d5 d6 d7 d8 hq hf
          go_loop [6, 32] (fun v j => ∃ q : Nat, q ≤ p.r.n ∧ j = .int .i64 q ∧ v = .int .i64 (prv p.r.xs q) ∧ allTo (riseAt p.r.xs k) q = true) (fun _ j => p.r.n - (intOf j).toNat)
          case atStart => exact ⟨0, Nat.zero_le _, rfl, rfl, rfl⟩
          case round =>
            obtain ⟨q, hq, rfl, rfl, hri⟩ := hrel
            have hlow := prv_low hri (Nat.le_refl q) (by rw [HR.out]; exact hq)
            have HI := Lib.hid hri
            clear hri
            by_cases hqn : q < p.r.n
            · obtain ⟨b4, off4, x, ea, hx4, _, _, e0⟩ := Ints.at hrow hqn
              have HX4 := Lib.hid hx4
              have HA4 := Lib.hid ea
              have HS := Lib.hid (prv_succ hx4)
              have hq0 : (0 : Int) ≤ (q : Int) := by omega
              have hq1 : (q : Int) < (p.r.n : Int) := by omega
              clear hx4
              obtain ⟨y, hy⟩ : ∃ y : Int, prv p.r.xs q = y := ⟨_, rfl⟩
              rw [hy] at hlow ⊢
              have HY := Lib.hid hy
              clear hy
              by_cases h1 : x ≤ y
              · go_wp2
                go_ret
                exact ⟨by rw [liftsOk_bad HX.out (by rw [risesB_bad HX4.out (by rw [HY.out]; omega)]; simp)]; rfl, HB2.out⟩
              · by_cases h2 : (k : Int) ≤ x
                · go_wp2
                  go_ret
                  exact ⟨by rw [liftsOk_bad HX.out (by rw [risesB_bad HX4.out (by omega)]; simp)]; rfl, HB2.out⟩
                · go_wp2
                  go_round
                  case rel => exact ⟨q + 1, by omega, by go_num, by rw [HS.out], allTo_step HI.out (riseAt_good HX4.out (by omega) (by omega) (by rw [HY.out]; omega))⟩
                  case measure => simp [intOf]; omega
            · obtain rfl : q = p.r.n := by omega
              have HO : Hid (liftAt vs k = true) := by show _ = _; rw [liftAt_of HX.out, HQ.out, HF.out]; unfold risesB; rw [HR.out, HI.out]; rfl
              clear hlow
              go_wp2
              go_roundw
              case rel => exact ⟨k + 1, by omega, by go_num, hset2.to (freshTo_set HX.out), allTo_step HA.out HO.out, HB2.out⟩
              case measure => simp [intOf]; omega
    · obtain rfl : k = n := by omega
      have HE := Lib.hid (liftsOk_end HL.out HA.out)
      go_wp2
      go_ret
      exact ⟨by rw [HE.out]; rfl, hb⟩


def nameIs (s : ByteArray) (v : LV) : Bool := decide (v.1.name = s)
theorem fresh_no (vs : List LV) (i : Nat) (s : ByteArray) : freshTo vs i s = noTo (nameIs s) vs i := by unfold freshTo noTo; congr 1; funext j; cases vs[j]? <;> rfl
theorem fresh_idx {vs : List LV} {i : Nat} {s : ByteArray} (hi : i ≤ vs.length) (h : freshTo vs i s = true) : fIdx (nameIs s) (vs.take i) = -1 := by
  refine fIdx_none (noTo_iff.2 fun j hj y hy => ?_)
  rw [List.length_take] at hj
  rw [List.getElem?_take, if_pos (by omega)] at hy
  exact noTo_iff.1 ((fresh_no vs i s).symm.trans h) j (by omega) y hy
theorem fresh_idx_no {vs : List LV} {i : Nat} {s : ByteArray} (hi : i ≤ vs.length) (h : freshTo vs i s = false) : 0 ≤ fIdx (nameIs s) (vs.take i) := by
  rcases fIdx_cases (nameIs s) (vs.take i) with ⟨_, h2, _⟩ | ⟨k, x, h2, _⟩
  · exfalso
    have : freshTo vs i s = true := by
      rw [fresh_no]
      refine noTo_iff.2 fun j hj y hy => ?_
      exact noTo_iff.1 h2 j (by rw [List.length_take]; omega) y (by rw [List.getElem?_take, if_pos hj]; exact hy)
    rw [this] at h; cases h
  · rw [h2]; omega

set_option maxRecDepth 100000 in
set_option maxHeartbeats 800000 in
theorem l08Named_any (A : Option Addr) (n c : Nat) (ps : List Lift) (vs : List LV) (hv : ps.map Lift.val = vs) (s : ByteArray) (w : World) (lo hi : Nat) (h : Lifts w lo hi A n ps) (hn : n ≤ 1048576) (hp : ∀ p ∈ ps, p.wf) (hs : s.size ≤ 9223372036854775807) :
    Calls Tryd.prog 223 #[.slice A n c, .string s] w fun e w' => e = .returned (.int .i64 (fIdx (nameIs s) vs)) ∧ w = w' := by
  have HV := Lib.hid hv
  have HL : Hid (vs.length = n) := by show _ = _; rw [lv_len hv, h.len]
  have HW := Lib.hid hp
  clear hv hp
  go_enter Tryd.func223, Tryd.ntmps223
  go_wp2
  go_loop [5] (fun i => ∃ k : Nat, k ≤ n ∧ i = .int .i64 k ∧ noTo (nameIs s) vs k = true) (fun i => n - (intOf i).toNat)
  case atStart => exact ⟨0, Nat.zero_le _, rfl, rfl⟩
  case round =>
    obtain ⟨k, hk, rfl, hno⟩ := hrel
    have HN := Lib.hid hno
    clear hno
    by_cases hlt : k < n
    · obtain ⟨b, off, p, rfl, hx, _, hbl, hrow, c0, c1, c2, c3, c4, c5, c6, c7, c8⟩ := Lift.at h hlt
      have HX := Lib.hid (lv_at HV.out hx)
      have hk0 : (0 : Int) ≤ (k : Int) := by omega
      have hk1 : (k : Int) < (n : Int) := by omega
      clear hx
      by_cases hq : p.v.name = s
      · have HQ := Lib.hid hq
        have hqq : (p.v.name.toList == s.toList) = true := by rw [toList_beq]; exact decide_eq_true hq
        have HE : Hid (fIdx (nameIs s) vs = k) := fIdx_hit HN.out HX.out (decide_eq_true hq)
        clear hq
        go_wp2
        go_ret
        exact ⟨by rw [HE.out]; rfl, rfl⟩
      · have HQ := Lib.hid hq
        have hqq : (p.v.name.toList == s.toList) = false := by rw [toList_beq]; exact decide_eq_false hq
        clear hq
        go_wp2
        go_round
        case rel => exact ⟨k + 1, by omega, by go_num, noTo_step HN.out HX.out (decide_eq_false HQ.out)⟩
        case measure => simp [intOf]; omega
    · obtain rfl : k = n := by omega
      have HE : Hid (fIdx (nameIs s) vs = -1) := fIdx_none (by rw [HL.out]; exact HN.out)
      go_wp2
      go_ret
      exact ⟨by rw [HE.out]; rfl, rfl⟩

set_option maxRecDepth 100000 in
set_option maxHeartbeats 1600000 in
theorem l08Ok_any (A : Option Addr) (n c : Nat) (ps : List Lift) (vs : List LV) (hv : ps.map Lift.val = vs) (w : World) (lo : Nat) (h : Lifts w lo w.heap.size A n ps) (hn : n ≤ 1048576) (hc : n ≤ c) (hc2 : c ≤ 1048576) (hp : ∀ p ∈ ps, p.wf) :
    Calls Tryd.prog 145 #[.slice A n c] w fun e w' => e = .returned (.bool (liftsOk vs)) ∧ Below w.heap.size w w' := by
  have HV := Lib.hid hv
  have HL : Hid (vs.length = n) := by show _ = _; rw [lv_len hv, h.len]
  have HW := Lib.hid hp
  clear hv hp
  go_enter Tryd.func145, Tryd.ntmps145
  go_wp2
  go_loopw [3] (fun i wr => ∃ k : Nat, k ≤ n ∧ i = .int .i64 k ∧ allTo (liftAt vs) k = true ∧ Below w.heap.size w wr) (fun i _ => n - (intOf i).toNat)
  case atStart => exact ⟨0, Nat.zero_le _, rfl, rfl, Below.refl _ _⟩
  case round =>
    obtain ⟨k, hk, rfl, hall, hb⟩ := hrel
    have HA := Lib.hid hall
    clear hall
    by_cases hlt : k < n
    · have HLI := Lib.hid h
      obtain ⟨b, off, p, rfl, hx, _, hbl, hrow, c0, c1, c2, c3, c4, c5, c6, c7, c8⟩ := Lift.at (h.below hb) hlt
      have hpw := HW.out p (List.mem_of_getElem? hx)
      have hpn := hpw.v.name
      have HX := Lib.hid (lv_at HV.out hx)
      have hsz := hb.size
      have hk0 : (0 : Int) ≤ (k : Int) := by omega
      have hk1 : (k : Int) < (n : Int) := by omega
      have hk2 : (k : Int) ≤ (c : Int) := by omega
      clear hx h
      obtain ⟨v, hv⟩ : ∃ v : Bool, oneB p.v p.r.xs k = v := ⟨_, rfl⟩
      obtain ⟨u, hu⟩ : ∃ u : Int, fIdx (nameIs p.v.name) (vs.take k) = u := ⟨_, rfl⟩
      have HC1 : Hid (∀ d os, Calls Tryd.prog 222 #[.pointer (some ⟨b, off + k * 9, none⟩), .int .i64 k] (grow (redrawn wr d) os) fun e w' => e = .returned (.bool v) ∧ Below (grow (redrawn wr d) os).heap.size (grow (redrawn wr d) os) w') := by
        intro d os
        have hbg := below_regrown wr d os
        have := l08One_any b (off + k * 9) p k (grow (redrawn wr d) os) lo hpn ((hrow.below (hbg.mono hsz)).more (Nat.le_trans hsz hbg.size)) hpw.n (by omega) (by omega) (by have := hbg.size; omega) (cell_regrown c0 d os) (cell_regrown c1 d os) (cell_regrown c2 d os) (cell_regrown c3 d os) (cell_regrown c4 d os) (cell_regrown c5 d os) (cell_regrown c6 d os) (cell_regrown c7 d os) (cell_regrown c8 d os)
        rwa [hv] at this
      have HC2 : Hid (∀ d os, Calls Tryd.prog 223 #[.slice (some ⟨b, off, none⟩) k c, .string p.v.name] (grow (redrawn wr d) os) fun e w' => e = .returned (.int .i64 u) ∧ Below (grow (redrawn wr d) os).heap.size (grow (redrawn wr d) os) w') := by
        intro d os
        have hbg := below_regrown wr d os
        have := l08Named_any (some ⟨b, off, none⟩) k c (ps.take k) (vs.take k) (by rw [List.map_take, HV.out]) p.v.name (grow (redrawn wr d) os) lo w.heap.size (((HLI.out.below hb).below (hbg.mono hsz)).take (by omega)) (by omega) (fun q hq => HW.out q (List.mem_of_mem_take hq)) hpn
        rw [hu] at this
        exact same_bel this
      have c0r := cell_regrown c0
      have HVV := Lib.hid hv
      have HU := Lib.hid hu
      clear c0 c1 c2 c3 c4 c5 c6 c7 c8 hv hu hrow
      cases v
      · go_wp2
        refine wp_region_quiet_below (by kernel_rfl) (by kernel_rfl) ?_
        repeat (go_big_quiet_step (first | (go_at_call 222; exact Calls.regrown_of (HC1.out _ _)) | (go_at_call 223; exact Calls.regrown_of (HC2.out _ _))))
        refine wpQuiet_nil ?_
        intro _ hw9
        obtain ⟨⟨dq, osq⟩, hw9⟩ := hw9
        subst hw9
        have hb1 := below_regrown wr dq osq
        dsimp only at hb1 ⊢
        clear HC1 HC2 c0r
        generalize grow (redrawn wr dq) osq = W2 at hb1 ⊢
        have HO : Hid (liftsOk vs = false) := liftsOk_bad HX.out (by have := HVV.out; unfold oneB at this; cases h1 : plainB p.v <;> cases h2 : risesB p.r.xs k <;> simp [h1, h2] at this ⊢)
        go_wp2
        go_ret
        exact ⟨by rw [HO.out]; rfl, hb.trans (hb1.mono hsz)⟩
      · cases hf : freshTo vs k p.v.name
        · have HU0 : 0 ≤ u := by rw [← HU.out]; exact fresh_idx_no (by rw [HL.out]; omega) hf
          have HO : Hid (liftsOk vs = false) := liftsOk_bad HX.out (by rw [hf]; simp)
          go_wp2
          refine wp_region_quiet_below (by kernel_rfl) (by kernel_rfl) ?_
          repeat (go_big_quiet_step (first | (go_at_call 222; exact Calls.regrown_of (HC1.out _ _)) | (go_at_call 223; exact Calls.regrown_of (HC2.out _ _))))
          refine wpQuiet_nil ?_
          intro _ hw9
          obtain ⟨⟨dq, osq⟩, hw9⟩ := hw9
          subst hw9
          have hb1 := below_regrown wr dq osq
          dsimp only at hb1 ⊢
          clear HC1 HC2 c0r
          generalize grow (redrawn wr dq) osq = W2 at hb1 ⊢
          go_wp2
          go_ret
          exact ⟨by rw [HO.out]; rfl, hb.trans (hb1.mono hsz)⟩
        · have HF := Lib.hid hf
          obtain rfl : u = -1 := by rw [← HU.out]; exact fresh_idx (by rw [HL.out]; omega) hf
          go_wp2
          refine wp_region_quiet_below (by kernel_rfl) (by kernel_rfl) ?_
          repeat (go_big_quiet_step (first | (go_at_call 222; exact Calls.regrown_of (HC1.out _ _)) | (go_at_call 223; exact Calls.regrown_of (HC2.out _ _))))
          refine wpQuiet_nil ?_
          intro _ hw9
          obtain ⟨⟨dq, osq⟩, hw9⟩ := hw9
          subst hw9
          have hb1 := below_regrown wr dq osq
          dsimp only at hb1 ⊢
          clear HC1 HC2 c0r
          generalize grow (redrawn wr dq) osq = W2 at hb1 ⊢
          have HO : Hid (liftAt vs k = true) := by
            show _ = _
            have := HVV.out
            unfold oneB at this
            rw [Bool.and_eq_true] at this
            rw [liftAt_of HX.out, HF.out, this.1, this.2]; rfl
          go_wp2
          go_roundw
          case rel => exact ⟨k + 1, by omega, by go_num, allTo_step HA.out HO.out, hb.trans (hb1.mono hsz)⟩
          case measure => simp [intOf]; omega
    · obtain rfl : k = n := by omega
      have HE := Lib.hid (liftsOk_end HL.out HA.out)
      go_wp2
      go_ret
      exact ⟨by rw [HE.out]; rfl, hb⟩

end Go.Proofs.YtdhobglhjdgboaaDoor
