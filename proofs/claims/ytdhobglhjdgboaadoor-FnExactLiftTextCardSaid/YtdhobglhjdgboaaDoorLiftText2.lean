/- LiftText of the program and of the reference: the walks. -/
import Derived.Test.YtdhobglhjdgboaaDoorLiftText
namespace Go.Proofs.YtdhobglhjdgboaaDoor
open Go.RowKit Go.Sort
set_option linter.unusedVariables false

set_option maxRecDepth 100000 in
set_option maxHeartbeats 1600000 in
theorem pointText_any (x y : Int) (hx : In64 x) (hy : In64 y) (w : World) (ht : TabW w) :
    Calls Tryd.prog 67 #[.agg #[.int .i64 x, .int .i64 y]] w fun e w' => e = .returned (.string (plS x y)) ∧ Below w.heap.size w w' := by
  obtain ⟨W, hW⟩ : ∃ W : World, W = w.alloc (.cells #[.int .i64 x, .int .i64 y] 41) := ⟨_, rfl⟩
  have hbW : Below w.heap.size w W := by rw [hW]; exact (Below.refl _ _).alloc (Nat.le_refl _) _
  have HBW := Lib.hid hbW
  have c0 := cell_regrown (show W.cell? ⟨w.heap.size, 0, none⟩ = some (.int .i64 x) by rw [hW]; simp)
  have c1 := cell_regrown (show W.cell? ⟨w.heap.size, 1, none⟩ = some (.int .i64 y) by rw [hW]; simp)
  have HDD : Hid (∀ x, In64 x → ∀ d os, Calls Tryd.prog 66 #[.int .i64 x] (grow (redrawn W d) os) fun e w' => e = .returned (.string (decS x)) ∧ Below (grow (redrawn W d) os).heap.size (grow (redrawn W d) os) w') := fun x hx d os => decimal_any x hx.1 hx.2 _ ((ht.bel hbW).bel (below_regrown W d os))
  have s1 := decS_size x hx
  have s2 := decS_size y hy
  clear hbW ht
  go_enter Tryd.func67, Tryd.ntmps67
  go_wp2
  rw [← hW]
  clear hW
  refine wp_region_quiet_below (by kernel_rfl) (by kernel_rfl) ?_
  repeat (go_big_quiet_step (first | (go_at_call 66; exact Calls.regrown_of (HDD.out _ (by assumption) _ _))))
  refine wpQuiet_nil ?_
  intro _ hw9
  obtain ⟨⟨dq, osq⟩, hw9⟩ := hw9
  subst hw9
  have hb5 := below_regrown W dq osq
  dsimp only at hb5 ⊢
  generalize grow (redrawn W dq) osq = w5 at hb5 ⊢
  go_wp2
  go_ret
  exact ⟨rfl, HBW.out.trans (hb5.mono HBW.out.size)⟩
set_option maxRecDepth 100000 in
set_option maxHeartbeats 1600000 in
theorem l08Place_any (x y : Int) (hx : In64 x) (hy : In64 y) (w : World) :
    Calls Tryd.prog 148 #[.agg #[.int .i64 x, .int .i64 y]] w fun e w' => e = .returned (.string (plS x y)) ∧ Below w.heap.size w w' := by
  obtain ⟨W, hW⟩ : ∃ W : World, W = w.alloc (.cells #[.int .i64 x, .int .i64 y] 41) := ⟨_, rfl⟩
  have hbW : Below w.heap.size w W := by rw [hW]; exact (Below.refl _ _).alloc (Nat.le_refl _) _
  have HBW := Lib.hid hbW
  have c0 := cell_regrown (show W.cell? ⟨w.heap.size, 0, none⟩ = some (.int .i64 x) by rw [hW]; simp)
  have c1 := cell_regrown (show W.cell? ⟨w.heap.size, 1, none⟩ = some (.int .i64 y) by rw [hW]; simp)
  have HDD : Hid (∀ x, In64 x → ∀ d os, Calls Tryd.prog 147 #[.int .i64 x] (grow (redrawn W d) os) fun e w' => e = .returned (.string (decS x)) ∧ Below (grow (redrawn W d) os).heap.size (grow (redrawn W d) os) w') := fun x hx d os => l01Dec_any x hx.1 hx.2 _
  have s1 := decS_size x hx
  have s2 := decS_size y hy
  clear hbW
  go_enter Tryd.func148, Tryd.ntmps148
  go_wp2
  rw [← hW]
  clear hW
  refine wp_region_quiet_below (by kernel_rfl) (by kernel_rfl) ?_
  repeat (go_big_quiet_step (first | (go_at_call 147; exact Calls.regrown_of (HDD.out _ (by assumption) _ _))))
  refine wpQuiet_nil ?_
  intro _ hw9
  obtain ⟨⟨dq, osq⟩, hw9⟩ := hw9
  subst hw9
  have hb5 := below_regrown W dq osq
  dsimp only at hb5 ⊢
  generalize grow (redrawn W dq) osq = w5 at hb5 ⊢
  go_wp2
  go_ret
  exact ⟨rfl, HBW.out.trans (hb5.mono HBW.out.size)⟩

/-- at least as many bytes as a text may have -/
theorem lift_name_size {A : Option Addr} {n : Nat} {ps : List Lift} {vs : List LV} (hv : ps.map Lift.val = vs) (hok : liftsOk vs = true) {i : Nat} {p : Lift} (h : ps[i]? = some p) : p.v.name.size ≤ 12 :=
  name_12 hok (lv_at hv h)

set_option maxRecDepth 100000 in
set_option maxHeartbeats 1000000 in
theorem liftText_yes (A : Option Addr) (n c : Nat) (ps : List Lift) (vs : List LV) (hv : ps.map Lift.val = vs) (k : Nat) (w : World) (lo : Nat) (h : Lifts w lo w.heap.size A n ps) (hn : n ≤ 1048576) (hp : ∀ p ∈ ps, p.wf) (hf : lfCode vs (k : Int) = 0) (ht : TabW w) :
    Calls Tryd.prog 13 #[.slice A n c, .int .i64 (k : Int)] w fun e w' => e = .returned (.tuple #[.string (ltS vs k), .int .i64 (lfCode vs k)]) ∧ Below w.heap.size w w' := by
  have HV := Lib.hid hv
  have HP := Lib.hid hp
  have HC := Lib.hid h
  have HT := Lib.hid ht
  have HL : Hid (vs.length = n) := by show _ = _; rw [lv_len hv, h.len]
  have HF := Lib.hid hf
  obtain ⟨hok, hk0, hk1⟩ := lfCode_ok hf
  have hn10 := liftsOk_len hok
  rw [HL.out] at hk1 hn10
  have hkn : k < n := by omega
  have HOK := Lib.hid hok
  obtain ⟨b, off, p, eA, hx, _, hbl, hrow, c0, c1, c2, c3, c4, c5, c6, c7, c8⟩ := Lift.at h hkn
  have hq := lv_at hv hx
  have HE := Lib.hid (ltS_ok hf hq)
  have hrl := rise_len (liftsOk_at hok hq).2
  have hpw := hp p (List.mem_of_getElem? hx)
  have HPW := Lib.hid hpw
  have hnm := lift_name_size (A := A) (n := n) hv hok hx
  have HRISE := Lib.hid (liftsOk_at hok hq).2
  have hrn : p.r.xs.length = p.r.n := hrow.1
  have hr10 : p.r.n ≤ 10 := by dsimp only at hrl; omega
  have HRN := Lib.hid hrn
  have HROW := Lib.hid hrow
  have HDE := Lib.hid (And.intro c0 (And.intro c1 (And.intro c2 (And.intro c3 (And.intro c4 (And.intro c5 (And.intro c6 (And.intro c7 c8))))))))
  clear hv hp h hf hok hq hx hrl hpw hrow c0 c1 c2 c3 c4 c5 c6 c7 c8 ht hrn
  subst eA
  go_enter Tryd.func13, Tryd.ntmps13
  go_wp2_with fail
  refine (liftCode_any _ n c ps vs HV.out k _ lo HC.out hn HP.out).mono ?_
  rintro e w1 ⟨rfl, hb1⟩
  rw [HF.out]
  have HB1 := Lib.hid hb1
  obtain ⟨c0, c1, c2, c3, c4, c5, c6, c7, c8⟩ := HDE.out
  replace c0 := (hb1.cell (p := ⟨b, off + k * 9, none⟩) hbl).trans c0
  replace c1 := (hb1.cell (p := ⟨b, off + k * 9 + 1, none⟩) hbl).trans c1
  replace c2 := (hb1.cell (p := ⟨b, off + k * 9 + 2, none⟩) hbl).trans c2
  replace c3 := (hb1.cell (p := ⟨b, off + k * 9 + 3, none⟩) hbl).trans c3
  replace c4 := (hb1.cell (p := ⟨b, off + k * 9 + 4, none⟩) hbl).trans c4
  replace c5 := (hb1.cell (p := ⟨b, off + k * 9 + 5, none⟩) hbl).trans c5
  replace c6 := (hb1.cell (p := ⟨b, off + k * 9 + 6, none⟩) hbl).trans c6
  replace c7 := (hb1.cell (p := ⟨b, off + k * 9 + 7, none⟩) hbl).trans c7
  replace c8 := (hb1.cell (p := ⟨b, off + k * 9 + 8, none⟩) hbl).trans c8
  obtain ⟨W, hW⟩ : ∃ W : World, W = w1.alloc (.cells #[.string p.v.name, .int .i64 p.v.weight, .int .i64 p.v.fx, .int .i64 p.v.fy, .int .i64 p.v.tx, .int .i64 p.v.ty, .int .i64 p.v.height, .int .i64 p.v.deadline, .slice p.r.a p.r.n p.r.cap] 68) := ⟨_, rfl⟩
  have hbW : Below w1.heap.size w1 W := by rw [hW]; exact (Below.refl _ _).alloc (Nat.le_refl _) _
  have HBW := Lib.hid hbW
  have PB : Blk W w1.heap.size 68 #[.string p.v.name, .int .i64 p.v.weight, .int .i64 p.v.fx, .int .i64 p.v.fy, .int .i64 p.v.tx, .int .i64 p.v.ty, .int .i64 p.v.height, .int .i64 p.v.deadline, .slice p.r.a p.r.n p.r.cap] := by rw [hW]; exact Blk.new _ _ _
  obtain ⟨d0, d1, d2, d3, d4, d5, d6, d7, d8⟩ := Lift.blk PB
  have HPB := Lib.hid PB
  have t0 := cell_regrown d0
  have t1 := cell_regrown d1
  have t2 := cell_regrown d2
  have t3 := cell_regrown d3
  have t4 := cell_regrown d4
  have t5 := cell_regrown d5
  have t6 := cell_regrown d6
  have HTW : Hid (TabW W) := (HT.out.bel hb1).bel hbW
  have HDD : Hid (∀ x, In64 x → ∀ d os, Calls Tryd.prog 66 #[.int .i64 x] (grow (redrawn W d) os) fun e w' => e = .returned (.string (decS x)) ∧ Below (grow (redrawn W d) os).heap.size (grow (redrawn W d) os) w') := fun x hx d os => decimal_any x hx.1 hx.2 _ (HTW.out.bel (below_regrown W d os))
  have HPP : Hid (∀ x y, In64 x → In64 y → ∀ d os, Calls Tryd.prog 67 #[.agg #[.int .i64 x, .int .i64 y]] (grow (redrawn W d) os) fun e w' => e = .returned (.string (plS x y)) ∧ Below (grow (redrawn W d) os).heap.size (grow (redrawn W d) os) w') := fun x y hx hy d os => pointText_any x y hx hy _ (HTW.out.bel (below_regrown W d os))
  have i1 : In64 p.v.weight := HPW.out.v.weight
  have i2 : In64 p.v.fx := HPW.out.v.fx
  have i3 : In64 p.v.fy := HPW.out.v.fy
  have i4 : In64 p.v.tx := HPW.out.v.tx
  have i5 : In64 p.v.ty := HPW.out.v.ty
  have i6 : In64 p.v.height := HPW.out.v.height
  have s1 := decS_size _ i1
  have s2 := plS_size _ _ i2 i3
  have s3 := plS_size _ _ i4 i5
  have s4 := decS_size _ i6
  clear hb1 hbW PB d0 d1 d2 d3 d4 d5 d6 d7 d8
  go_wp2
  rw [← hW]
  clear hW c0 c1 c2 c3 c4 c5 c6 c7 c8
  refine wp_region_quiet_below (by kernel_rfl) (by kernel_rfl) ?_
  repeat (go_big_quiet_step (first | (go_at_call 66; exact Calls.regrown_of (HDD.out _ (by assumption) _ _)) | (go_at_call 67; exact Calls.regrown_of (HPP.out _ _ (by assumption) (by assumption) _ _))))
  refine wpQuiet_nil ?_
  intro _ hw9
  obtain ⟨⟨dq, osq⟩, hw9⟩ := hw9
  subst hw9
  have hb2 := below_regrown W dq osq
  dsimp only at hb2 ⊢
  generalize grow (redrawn W dq) osq = W2 at hb2 ⊢
  have hls := lHead_size p.v HPW.out.v hnm
  obtain ⟨H0, hH0⟩ : ∃ H0, lHead p.v = H0 := ⟨_, rfl⟩
  have HLH : Hid (p.v.name ++ ⟨#[32]⟩ ++ decS p.v.weight ++ ⟨#[107, 103, 32]⟩ ++ plS p.v.fx p.v.fy ++ ⟨#[32]⟩ ++ plS p.v.tx p.v.ty ++ ⟨#[32]⟩ ++ decS p.v.height = H0) := hH0
  rw [hH0] at hls
  rw [hH0] at HE
  rw [HLH.out]
  have HB2 := Lib.hid ((HB1.out.trans (HBW.out.mono HB1.out.size)).trans (hb2.mono (by have := HB1.out.size; have := HBW.out.size; omega)))
  have PB2 := HPB.out.bel hb2
  obtain ⟨d0, d1, d2, d3, d4, d5, d6, d7, d8⟩ := Lift.blk PB2
  have HLX : Hid ((aftS vs p.r.xs).size ≤ 200) := by
    have h9 := aftS_size (vs := vs) (xs := p.r.xs) (fun x _ => nmAt_12 HOK.out x) p.r.n
    rw [← HRN.out, List.take_length, HRN.out] at h9
    show _ ≤ _; omega
  clear PB2 d0 d1 d2 d3 d4 d5 d6 d7 HPB HBW HB1 hb2 hH0 HLH t0 t1 t2 t3 t4 t5 t6 HDD HPP HTW i1 i2 i3 i4 i5 i6 s1 s2 s3 s4 HPW hnm HDE
  go_wp2
  clear d8
  go_loopw [9, 47] (fun v i wr => ∃ j : Nat, j ≤ p.r.n ∧ i = .int .i64 j ∧ Grow sbc 1 wr w.heap.size 9 v (nms vs (p.r.xs.take j)) ∧ Below w.heap.size w wr) (fun _ i _ => p.r.n - (intOf i).toNat)
  case atStart => exact ⟨0, Nat.zero_le _, rfl, Grow.nil _ _ _, HB2.out⟩
  case round v _ =>
    obtain ⟨j, hj, rfl, hg, hb⟩ := hrel
    have HG := Lib.hid hg
    have HB := Lib.hid hb
    have hsz := hb.size
    clear hg
    by_cases hlt : j < p.r.n
    · obtain ⟨b4, off4, x, e4, hx4, _, _, e0⟩ := Ints.at (HROW.out.below hb) hlt
      obtain ⟨hx0, hxk, _⟩ := rise_at HRISE.out (by rw [HRN.out]; exact hlt) hx4
      obtain ⟨a, rfl⟩ := Int.eq_ofNat_of_zero_le hx0
      obtain ⟨b5, off5, q, e5, hq5, _, _, _, c0, _⟩ := Lift.at (HC.out.below hb) (show a < n by omega)
      cases e5
      have hj1 : (j : Int) < (p.r.n : Int) := by omega
      have ha1 : (a : Int) < (n : Int) := by omega
      have HNM : Hid (nmAt vs (a : Int) = q.v.name) := nmAt_of (lv_at HV.out hq5)
      have HST : Hid (nms vs (p.r.xs.take (j + 1)) = nms vs (p.r.xs.take j) ++ [q.v.name]) := by
        show _ = _
        unfold nms
        rw [List.take_add_one, hx4, List.map_append]
        show _ ++ [nmAt vs (a : Int)] = _
        rw [HNM.out]
      have HLK : Hid ((nms vs (p.r.xs.take j)).length ≤ 10) := by
        show _ ≤ _
        unfold nms
        rw [List.length_map]
        exact Nat.le_trans (List.length_take_le ..) (by omega)
      have HE4 := Lib.hid e4
      clear hx4 hq5 hb
      go_wp2_with (at_builtin; refine wpList_snoc _ rfl _ _ 112 rfl w.heap.size 9 (.string ⟨#[]⟩) 16 Tryd.underlying112 infoStr rfl (by omega) _ (nms vs (p.r.xs.take j)) q.v.name rfl (HG.out.alloc _) _ _ rfl (heap_alloc_new _ _) rfl rfl (sbc_one _) (by have := HLK.out; omega) (by omega) (by simp; omega) ?_; intro v5 w5 hg5 hgr5)
      have HB5 : Hid (RowKit.Below w.heap.size w w5) := (HG.out.alloc _).below (HB.out.alloc hsz _) hgr5 (Nat.le_refl _) (by simp; omega)
      rw [← HST.out] at hg5
      have HG5 := Lib.hid hg5
      clear hg5 hgr5
      go_wp2
      rw [← HE4.out]
      go_roundw
      case rel => exact ⟨j + 1, by omega, by simp, HG5.out, HB5.out⟩
      case measure => simp [intOf]; omega
    · have hjn : j = p.r.n := by omega
      subst hjn
      have HTK : Hid (p.r.xs.take p.r.n = p.r.xs) := by show _ = _; rw [← HRN.out]; exact List.take_length ..
      have hg2 := HG.out
      rw [HTK.out] at hg2
      have hlw : (nms vs p.r.xs).length = p.r.n := by unfold nms; rw [List.length_map, HRN.out]
      have HJ : Hid (aftS vs p.r.xs = if (nms vs p.r.xs).length = 0 then ⟨#[]⟩ else ⟨#[32, 97, 102, 116, 101, 114, 32]⟩ ++ ⟨(Lib.join ((nms vs p.r.xs).map (·.data.toList)) [44]).toArray⟩) := by
        show _ = _
        unfold aftS aftJ
        rw [hlw, HRN.out]
      clear HG HTK
      have hl10 : (nms vs p.r.xs).length ≤ 10 := by omega
      clear hlw
      generalize nms vs p.r.xs = ws at *
      have HG2 := Lib.hid hg2
      obtain ⟨A2, cap, rfl, ho⟩ := hg2.own sbc_len
      clear hg2
      by_cases h0 : 0 < ws.length
      · obtain ⟨g, cs, e1, h1, h2, h3, h4, h5⟩ := ho.2 h0
        subst e1
        have hcap : ws.length ≤ cap := by
          obtain ⟨_, h6⟩ := HG2.out
          rcases h6 with ⟨h6, _⟩ | ⟨g', cap', cur, h6, _, _, h7, _⟩
          · cases h6
          · cases h6; exact h7
        have HJ2 : Hid (aftS vs p.r.xs = ⟨#[32, 97, 102, 116, 101, 114, 32]⟩ ++ ⟨(Lib.join (ws.map (·.data.toList)) [44]).toArray⟩) := by
          show _ = _
          rw [HJ.out, if_neg (by omega)]
        have HJS : Hid ((Lib.join (ws.map (·.data.toList)) [44]).length ≤ 200) := by
          have h9 := congrArg ByteArray.size HJ2.out
          have h8 := HLX.out
          have e1 : (⟨#[32, 97, 102, 116, 101, 114, 32]⟩ : ByteArray).size = 7 := rfl
          have e2 : (⟨(Lib.join (ws.map (·.data.toList)) [44]).toArray⟩ : ByteArray).size = (Lib.join (ws.map (·.data.toList)) [44]).length := by show Array.size _ = _; simp
          rw [ByteArray.size_append, e1, e2] at h9
          show _ ≤ _; omega
        obtain ⟨J, hJ⟩ : ∃ J : ByteArray, J = ⟨(Lib.join (ws.map (·.data.toList)) [44]).toArray⟩ := ⟨_, rfl⟩
        have HCALL : Hid (Calls Tryd.prog 68 #[.slice (some ⟨g, 0, none⟩) ws.length cap, .string ⟨#[44]⟩] wr fun e w' => e = .returned (.string J) ∧ Below wr.heap.size wr w') := by
          rw [hJ]
          exact (Tryd.strings_Join g 0 cap ws ⟨#[44]⟩ wr (fun j x hj => by
            rw [cell_of_row wr g (0 + j) cs _ (0, 0) h3]
            have := h5 j x hj 0 (by decide)
            rw [show j * 1 + 0 = 0 + j by omega] at this
            rw [this]; rfl) h2 (by omega) hcap (by
              show (Lib.join (ws.map (·.data.toList)) [44]).length ≤ _
              have := HJS.out; omega))
        rw [← hJ] at HJ2
        clear ho h3 h4 h5 HG2
        have hjs : J.size ≤ 200 := by
          rw [hJ]
          have e2 : (⟨(Lib.join (ws.map (·.data.toList)) [44]).toArray⟩ : ByteArray).size = (Lib.join (ws.map (·.data.toList)) [44]).length := by show Array.size _ = _; simp
          have := HJS.out; omega
        clear hJ
        go_wp2_with fail
        refine HCALL.out.mono ?_
        rintro e w3 ⟨rfl, hb3⟩
        go_wp2
        go_ret2
        exact ⟨by rw [HE.out, HF.out, HJ2.out]; rfl, hb.trans (hb3.mono hsz)⟩
      · have HJ0 : Hid (aftS vs p.r.xs = ⟨#[]⟩) := by show _ = _; rw [HJ.out, if_pos (by omega)]
        clear ho HG2
        go_wp2
        go_ret2
        exact ⟨by rw [HE.out, HF.out, HJ0.out, ba_app_nil]; rfl, hb⟩
set_option maxRecDepth 100000 in
set_option maxHeartbeats 1000000 in
theorem liftText_any (A : Option Addr) (n c : Nat) (ps : List Lift) (vs : List LV) (hv : ps.map Lift.val = vs) (kk : Int) (w : World) (lo : Nat) (h : Lifts w lo w.heap.size A n ps) (hn : n ≤ 1048576) (hp : ∀ p ∈ ps, p.wf) (ht : TabW w) :
    Calls Tryd.prog 13 #[.slice A n c, .int .i64 kk] w fun e w' => e = .returned (.tuple #[.string (ltS vs kk), .int .i64 (lfCode vs kk)]) ∧ Below w.heap.size w w' := by
  by_cases hf : lfCode vs kk = 0
  · obtain ⟨hok, hk0, hk1⟩ := lfCode_ok hf
    obtain ⟨k, rfl⟩ := Int.eq_ofNat_of_zero_le hk0
    exact liftText_yes A n c ps vs hv k w lo h hn hp hf ht
  · have HF := Lib.hid (ltS_bad hf)
    have HN : Hid ((lfCode vs kk != 0) = true) := bne_iff_ne.2 hf
    have HV := Lib.hid hv
    have HP := Lib.hid hp
    have HC := Lib.hid h
    clear hf hv hp h ht
    go_enter Tryd.func13, Tryd.ntmps13
    go_wp2_with fail
    refine (liftCode_any A n c ps vs HV.out kk w lo HC.out hn HP.out).mono ?_
    rintro e w1 ⟨rfl, hb1⟩
    have HNN := HN.out
    go_wp2
    go_ret2
    exact ⟨by rw [HF.out]; rfl, hb1⟩

set_option maxRecDepth 100000 in
set_option maxHeartbeats 1000000 in
theorem l08Text_any (A : Option Addr) (n c : Nat) (ps : List Lift) (vs : List LV) (hv : ps.map Lift.val = vs) (k : Nat) (w : World) (lo : Nat) (h : Lifts w lo w.heap.size A n ps) (hp : ∀ p ∈ ps, p.wf) (hf : lfCode vs (k : Int) = 0) :
    Calls Tryd.prog 63 #[.slice A n c, .int .i64 (k : Int)] w fun e w' => e = .returned (.string (ltS vs k)) ∧ Below w.heap.size w w' := by
  have HV := Lib.hid hv
  have HP := Lib.hid hp
  have HC := Lib.hid h
  have HL : Hid (vs.length = n) := by show _ = _; rw [lv_len hv, h.len]
  obtain ⟨hok, hk0, hk1⟩ := lfCode_ok hf
  have hn10 := liftsOk_len hok
  rw [HL.out] at hk1 hn10
  have hkn : k < n := by omega
  have HOK := Lib.hid hok
  obtain ⟨b, off, p, eA, hx, _, hbl, hrow, c0, c1, c2, c3, c4, c5, c6, c7, c8⟩ := Lift.at h hkn
  have hq := lv_at hv hx
  have HE := Lib.hid (ltS_ok hf hq)
  have hrl := rise_len (liftsOk_at hok hq).2
  have HPW := Lib.hid (hp p (List.mem_of_getElem? hx))
  have hnm := lift_name_size (A := A) (n := n) hv hok hx
  have HRISE := Lib.hid (liftsOk_at hok hq).2
  have hrn : p.r.xs.length = p.r.n := hrow.1
  have hr10 : p.r.n ≤ 10 := by dsimp only at hrl; omega
  have HRN := Lib.hid hrn
  have HROW := Lib.hid hrow
  have HC8 := Lib.hid c8
  subst eA
  have t0 := cell_regrown c0
  have t1 := cell_regrown c1
  have t2 := cell_regrown c2
  have t3 := cell_regrown c3
  have t4 := cell_regrown c4
  have t5 := cell_regrown c5
  have t6 := cell_regrown c6
  have HDD : Hid (∀ x, In64 x → ∀ d os, Calls Tryd.prog 147 #[.int .i64 x] (grow (redrawn w d) os) fun e w' => e = .returned (.string (decS x)) ∧ Below (grow (redrawn w d) os).heap.size (grow (redrawn w d) os) w') := fun x hx d os => l01Dec_any x hx.1 hx.2 _
  have HPP : Hid (∀ x y, In64 x → In64 y → ∀ d os, Calls Tryd.prog 148 #[.agg #[.int .i64 x, .int .i64 y]] (grow (redrawn w d) os) fun e w' => e = .returned (.string (plS x y)) ∧ Below (grow (redrawn w d) os).heap.size (grow (redrawn w d) os) w') := fun x y hx hy d os => l08Place_any x y hx hy _
  have i1 : In64 p.v.weight := HPW.out.v.weight
  have i2 : In64 p.v.fx := HPW.out.v.fx
  have i3 : In64 p.v.fy := HPW.out.v.fy
  have i4 : In64 p.v.tx := HPW.out.v.tx
  have i5 : In64 p.v.ty := HPW.out.v.ty
  have i6 : In64 p.v.height := HPW.out.v.height
  have s1 := decS_size _ i1
  have s2 := plS_size _ _ i2 i3
  have s3 := plS_size _ _ i4 i5
  have s4 := decS_size _ i6
  clear hv hp h hf hok hq hx hrl hrow c0 c1 c2 c3 c4 c5 c6 c7 c8 hrn
  go_enter Tryd.func63, Tryd.ntmps63
  go_wp2
  refine wp_region_quiet_below (by kernel_rfl) (by kernel_rfl) ?_
  repeat (go_big_quiet_step (first | (go_at_call 147; exact Calls.regrown_of (HDD.out _ (by assumption) _ _)) | (go_at_call 148; exact Calls.regrown_of (HPP.out _ _ (by assumption) (by assumption) _ _))))
  refine wpQuiet_nil ?_
  intro _ hw9
  obtain ⟨⟨dq, osq⟩, hw9⟩ := hw9
  subst hw9
  have hb2 := below_regrown w dq osq
  dsimp only at hb2 ⊢
  generalize grow (redrawn w dq) osq = W2 at hb2 ⊢
  have hls := lHead_size p.v HPW.out.v hnm
  obtain ⟨H0, hH0⟩ : ∃ H0, lHead p.v = H0 := ⟨_, rfl⟩
  have HLH : Hid (p.v.name ++ ⟨#[32]⟩ ++ decS p.v.weight ++ ⟨#[107, 103, 32]⟩ ++ plS p.v.fx p.v.fy ++ ⟨#[32]⟩ ++ plS p.v.tx p.v.ty ++ ⟨#[32]⟩ ++ decS p.v.height = H0) := hH0
  rw [hH0] at hls
  rw [hH0] at HE
  rw [HLH.out]
  have HB2 := Lib.hid hb2
  have HSZ : Hid (∀ j, (aftS vs (p.r.xs.take j)).size ≤ 20 * j) := aftS_size (fun x _ => nmAt_12 HOK.out x)
  have c8 := (hb2.cell (p := ⟨b, off + k * 9 + 8, none⟩) hbl).trans HC8.out
  obtain ⟨S, hS⟩ : ∃ S : Nat → ByteArray, ∀ j, S j = H0 ++ aftS vs (p.r.xs.take j) := ⟨_, fun _ => rfl⟩
  have HS := Lib.hid hS
  have HS0 : Hid (H0 = S 0) := by show _ = _; rw [hS, aftS_zero, ba_app_nil]
  have HSS : Hid (∀ j, j ≤ 10 → (S j).size ≤ 400) := fun j hj => by rw [HS.out, ByteArray.size_append]; have := HSZ.out j; omega
  clear hb2 hH0 HLH t0 t1 t2 t3 t4 t5 t6 HDD HPP i1 i2 i3 i4 i5 i6 s1 s2 s3 s4 HPW hnm hS
  rw [HS0.out]
  clear hls
  go_wp2
  clear c8
  go_loopw [6, 7] (fun s i wr => ∃ j : Nat, j ≤ p.r.n ∧ i = .int .i64 j ∧ s = .string (S j) ∧ W2 = wr) (fun _ i _ => p.r.n - (intOf i).toNat)
  case atStart => exact ⟨0, Nat.zero_le _, rfl, rfl, rfl⟩
  case round =>
    obtain ⟨j, hj, rfl, rfl, rfl⟩ := hrel
    have hb := HB2.out
    have c8 := (hb.cell (p := ⟨b, off + k * 9 + 8, none⟩) hbl).trans HC8.out
    by_cases hlt : j < p.r.n
    · obtain ⟨b4, off4, x, e4, hx4, _, _, e0⟩ := Ints.at (HROW.out.below hb) hlt
      obtain ⟨hx0, hxk, _⟩ := rise_at HRISE.out (by rw [HRN.out]; exact hlt) hx4
      obtain ⟨a, rfl⟩ := Int.eq_ofNat_of_zero_le hx0
      obtain ⟨b5, off5, q, e5, hq5, _, _, _, c0, _⟩ := Lift.at (HC.out.below hb) (show a < n by omega)
      cases e5
      have hj1 : (j : Int) < (p.r.n : Int) := by omega
      have ha1 : (a : Int) < (n : Int) := by omega
      have HNM : Hid (nmAt vs (a : Int) = q.v.name) := nmAt_of (lv_at HV.out hq5)
      have HST : Hid (S (j + 1) = S j ++ (if j = 0 then ⟨#[32, 97, 102, 116, 101, 114, 32]⟩ else ⟨#[44]⟩) ++ q.v.name) := by
        show _ = _
        rw [HS.out, HS.out, aftS_step hx4, HNM.out]
      have hsj := HSS.out j (by omega)
      have hsn := nmAt_12 HOK.out (a : Int)
      rw [HNM.out] at hsn
      have HE4 := Lib.hid e4
      clear hx4 hq5 hb
      by_cases hj0 : j = 0
      · have HST2 : Hid (S (j + 1) = S j ++ ⟨#[32, 97, 102, 116, 101, 114, 32]⟩ ++ q.v.name) := by show _ = _; rw [HST.out, if_pos hj0]
        have hjb : ((j : Int) == 0) = true := by rw [hj0]; rfl
        have hj0' := Lib.hid hj0
        clear hj0 HST
        go_wp2
        go_roundw
        case rel => exact ⟨j + 1, by omega, by go_num, by rw [HST2.out], by first | rfl | trivial⟩
        case measure => simp [intOf]; omega
      · have HST2 : Hid (S (j + 1) = S j ++ ⟨#[44]⟩ ++ q.v.name) := by show _ = _; rw [HST.out, if_neg hj0]
        have hjb : ((j : Int) == 0) = false := beq_eq_false_iff_ne.2 (by omega)
        clear HST
        go_wp2
        go_roundw
        case rel => exact ⟨j + 1, by omega, by go_num, by rw [HST2.out], by first | rfl | trivial⟩
        case measure => simp [intOf]; omega
    · have hjn : j = p.r.n := by omega
      subst hjn
      have HTK : Hid (p.r.xs.take p.r.n = p.r.xs) := by show _ = _; rw [← HRN.out]; exact List.take_length ..
      go_wp2
      go_ret
      exact ⟨by rw [HE.out, HS.out, HTK.out]; rfl, HB2.out⟩

set_option maxRecDepth 100000 in
set_option maxHeartbeats 1000000 in
theorem specLiftText_any (A : Option Addr) (n c : Nat) (ps : List Lift) (vs : List LV) (hv : ps.map Lift.val = vs) (kk : Int) (w : World) (lo : Nat) (h : Lifts w lo w.heap.size A n ps) (hn : n ≤ 1048576) (hc : n ≤ c) (hc2 : c ≤ 1048576) (hp : ∀ p ∈ ps, p.wf) :
    Calls Tryd.prog 11 #[.slice A n c, .int .i64 kk] w fun e w' => e = .returned (.tuple #[.string (ltS vs kk), .int .i64 (lfCode vs kk)]) ∧ Below w.heap.size w w' := by
  have HV := Lib.hid hv
  have HP := Lib.hid hp
  have HC := Lib.hid h
  clear hv hp h
  by_cases hf : lfCode vs kk = 0
  · obtain ⟨hok, hk0, hk1⟩ := lfCode_ok hf
    obtain ⟨k, rfl⟩ := Int.eq_ofNat_of_zero_le hk0
    have HF := Lib.hid hf
    clear hf hok hk1
    go_enter Tryd.func11, Tryd.ntmps11
    go_wp2_with fail
    refine (l08Code_any A n c ps vs HV.out k w lo HC.out hn hc hc2 HP.out).mono ?_
    rintro e w1 ⟨rfl, hb1⟩
    rw [HF.out]
    go_wp2_with fail
    refine (l08Text_any A n c ps vs HV.out k w1 lo (HC.out.next hb1) HP.out HF.out).mono ?_
    rintro e w2 ⟨rfl, hb2⟩
    go_wp2
    go_ret2
    exact ⟨by rw [HF.out]; rfl, hb1.trans (hb2.mono hb1.size)⟩
  · have HF := Lib.hid (ltS_bad hf)
    have HN : Hid ((lfCode vs kk != 0) = true) := bne_iff_ne.2 hf
    clear hf
    go_enter Tryd.func11, Tryd.ntmps11
    go_wp2_with fail
    refine (l08Code_any A n c ps vs HV.out kk w lo HC.out hn hc hc2 HP.out).mono ?_
    rintro e w1 ⟨rfl, hb1⟩
    have HNN := HN.out
    go_wp2
    go_ret2
    exact ⟨by rw [HF.out]; rfl, hb1⟩
end Go.Proofs.YtdhobglhjdgboaaDoor
