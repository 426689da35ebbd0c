/- FnDistances: the walk: the law returns true for every input. -/
import Derived.Test.YtdhobglhjdgboaaDoorSegs
import Derived.Test.YtdhobglhjdgboaaDoorLong
import Derived.Test.YtdhobglhjdgboaaDoorDist6
import Derived.Test.YtdhobglhjdgboaaDoorFracText
namespace Go.Proofs.YtdhobglhjdgboaaDoor.lawDistances
open Go.RowKit Go.Sort
set_option linter.unusedVariables false

theorem seg_new1 (w : World) (s t : Seg) : SgB ((w.alloc (.cells #[.int .i64 s.ax, .int .i64 s.ay, .int .i64 s.bx, .int .i64 s.by_] 72)).alloc (.cells #[.int .i64 t.ax, .int .i64 t.ay, .int .i64 t.bx, .int .i64 t.by_] 72)) w.heap.size s := (Blk.new _ _ _).alloc _
theorem seg_new2 (w : World) (s t : Seg) : SgB ((w.alloc (.cells #[.int .i64 s.ax, .int .i64 s.ay, .int .i64 s.bx, .int .i64 s.by_] 72)).alloc (.cells #[.int .i64 t.ax, .int .i64 t.ay, .int .i64 t.bx, .int .i64 t.by_] 72)) (w.heap.size + 1) t := Blk.new_at rfl (by simp)
def MeetR (ax ay bx by_ cx cy dx dy : Int) (v : Bool) : Prop := (⟨ax, ay, bx, by_⟩ : Seg).ok ∧ (⟨cx, cy, dx, dy⟩ : Seg).ok ∧ meetB ⟨ax, ay, bx, by_⟩ ⟨cx, cy, dx, dy⟩ = v
theorem meetR_any {ax ay bx by_ cx cy dx dy : Int} {v : Bool} (h : MeetR ax ay bx by_ cx cy dx dy v) (w : World) :
    Calls Tryd.prog 40 #[.agg #[.int .i64 ax, .int .i64 ay, .int .i64 bx, .int .i64 by_], .agg #[.int .i64 cx, .int .i64 cy, .int .i64 dx, .int .i64 dy]] w fun e w' => e = .returned (.bool v) ∧ RowKit.Below w.heap.size w w' :=
  segmentsMeet_any ⟨ax, ay, bx, by_⟩ ⟨cx, cy, dx, dy⟩ w h.1 h.2.1 h.2.2
theorem run_neq_Fraction (a b : Int) (w : World) : (binOp .neq 76 (.agg #[.int .i64 a, .int .i64 b]) (.agg #[.int .i64 a, .int .i64 b])).run Tryd.prog w = .ok (.bool false) w := by
  rw [run_neq_struct]
  have hi := Tryd.underlying2
  simp [go_sem]
theorem decS_pos (n : Nat) : 0 < (decS (n : Int)).size := by
  have h : (decS (n : Int)).size = (Lib.itoa (n : Int)).length := by show Array.size _ = _; simp
  rw [h, Lib.itoa_nonneg, Lib.decDigits_length]
  have := Lib.nDigits_pos n; omega
theorem ftS_pos {f : Fraction} (h : fracOk f = true) : (ftS f).toList.isEmpty = false := by
  have h1 : 0 < (ftS f).size := by
    obtain ⟨a, b, e, _, _, _⟩ := fracOk_nat h
    have ha := decS_pos a
    unfold ftS
    rw [if_pos h, e]
    dsimp only
    split
    · exact ha
    · rw [ByteArray.size_append, ByteArray.size_append]; omega
  have h2 : (ftS f).toList.length = (ftS f).size := by rw [ByteArray.toList_eq]; simp
  cases h3 : (ftS f).toList with
  | nil => rw [h3] at h2; simp at h2; omega
  | cons x l => rfl
attribute [local irreducible] ssF psF meetB cfN cfCode ftS
theorem gap_near {N M g : Int} (h : GapIs N M g) : decide (N < g * g * M) = false ∧ decide (N < (g + 1) * (g + 1) * M) = true := by
  obtain ⟨_, _, h1, h2⟩ := h
  exact ⟨decide_eq_false (by omega), decide_eq_true h2⟩

set_option maxRecDepth 100000 in
set_option maxHeartbeats 6400000 in
theorem walk (A0 : Option Addr) (n0 c0 : Nat) (xs0 : List Int) (w : World) (hn0 : n0 ≤ 9223372036854775807) (ha0 : Arr bc 1 w 0 w.heap.size A0 n0 xs0 ∧ ∀ p ∈ xs0, 0 ≤ p ∧ p ≤ 255) (ht : TabW w) :
    Calls Tryd.prog 6 #[.slice A0 n0 c0] w fun e w' => e = .returned (.bool true) ∧ RowKit.Below w.heap.size w w' := by
  have HTAB := Lib.hid ht
  clear ht
  by_cases hl : (decide (3000 < n0) || decide (3000 < 0)) = true
  · have H := Lib.hid hl
    clear hl
    go_enter Tryd.func6, Tryd.ntmps6
    go_wp2_with fail
    refine (a2Long_any A0 none n0 c0 0 0 hn0 (by omega) w).mono ?_
    rintro e w1 ⟨rfl, rfl⟩
    rw [H.out]
    go_wp2
    go_ret
    exact ⟨rfl, Below.refl _ _⟩
  · have hle : n0 ≤ 3000 := by
      rw [Bool.or_eq_true, decide_eq_true_eq, decide_eq_true_eq] at hl
      omega
    have H : Hid ((decide (3000 < n0) || decide (3000 < 0)) = false) := by show _ = _; simpa using hl
    obtain ⟨h0, x0⟩ := ha0
    clear hl
    go_enter Tryd.func6, Tryd.ntmps6
    go_wp2_with fail
    refine (a2Long_any A0 none n0 c0 0 0 hn0 (by omega) w).mono ?_
    rintro e w1 ⟨rfl, rfl⟩
    rw [H.out]
    go_wp2_with fail
    refine (a2Segments_any A0 n0 c0 xs0 w h0 x0 (by omega)).mono ?_
    rintro e w1 ⟨a, b, rfl, ha, hb, hb1⟩
    clear h0 x0
    have HA := Lib.hid ha
    have HBB := Lib.hid hb
    clear ha hb
    obtain ⟨W2, hW2⟩ : ∃ W2 : World, W2 = (w1.alloc (.cells #[.int .i64 a.ax, .int .i64 a.ay, .int .i64 a.bx, .int .i64 a.by_] 72)).alloc (.cells #[.int .i64 b.ax, .int .i64 b.ay, .int .i64 b.bx, .int .i64 b.by_] 72) := ⟨_, rfl⟩
    have hb2 : RowKit.Below w1.heap.size w1 W2 := by rw [hW2]; exact ((Below.refl _ _).alloc (Nat.le_refl _) _).alloc (by simp) _
    have Ksa : SgB W2 w1.heap.size a := by rw [hW2]; exact seg_new1 _ _ _
    have Ksb : SgB W2 (w1.heap.size + 1) b := by rw [hW2]; exact seg_new2 _ _ _
    obtain ⟨ga, hga⟩ : ∃ g, w1.heap.size = g := ⟨_, rfl⟩
    have HBW := Lib.hid (hb1.trans (hb2.mono hb1.size))
    clear hb1 hb2
    rw [hga] at Ksa Ksb
    obtain ⟨sa0, sa1, sa2, sa3⟩ := Ksa.cells
    obtain ⟨sb0, sb1, sb2, sb3⟩ := Ksb.cells
    rw [hW2] at sa0 sa1 sa2 sa3 sb0 sb1 sb2 sb3
    have HOK := Lib.hid (ss_ok HA.out HBB.out)
    have HPOK := Lib.hid (psF_ok HA.out (ptA_ok HBB.out))
    have HCM := Lib.hid (ss_comm HA.out HBB.out)
    have HZ := Lib.hid (ss_zero HA.out HBB.out)
    have HMC := Lib.hid (meetB_comm a b)
    have HO1 := Lib.hid (ss_order HA.out HBB.out)
    have HO2 := Lib.hid (end_order HA.out HBB.out)
    have hsq0 := sqP_nn (ptA a) (ptA b)
    have hsq1 := sqP_bd (ptA_ok HA.out) (ptA_ok HBB.out)
    have HEOK : Hid (fracOk ⟨sqP (ptA a) (ptA b), 1⟩ = true) := int_frac hsq0 (by omega)
    have HC1 := Lib.hid (cf_val HOK.out HPOK.out).2
    have HC2 := Lib.hid (cf_val HPOK.out HEOK.out).2
    have HTS := Lib.hid (turn_side a (ptA b))
    obtain ⟨X, hX⟩ : ∃ X, ssF a b = X := ⟨_, rfl⟩
    have HX := Lib.hid hX
    rw [hX] at HOK HCM HZ HO1 HC1
    clear hX
    obtain ⟨PF, hPF⟩ : ∃ X, psF a (ptA b) = X := ⟨_, rfl⟩
    have HPF := Lib.hid hPF
    rw [hPF] at HPOK HO1 HO2 HC1 HC2
    clear hPF
    go_wp2_with fail
    rw [← hW2]
    clear hW2
    refine (segmentSquareC_any a b _ HA.out HBB.out).mono ?_
    rintro e v1 ⟨rfl, hv1⟩
    clear sa0 sa1 sa2 sa3 sb0 sb1 sb2 sb3
    replace Ksa := Ksa.bel hv1
    replace Ksb := Ksb.bel hv1
    replace HBW := Lib.hid (HBW.out.trans (hv1.mono HBW.out.size))
    clear hv1
    rw [HX.out]
    obtain ⟨g1, hg1⟩ : ∃ g, v1.heap.size = g := ⟨_, rfl⟩
    obtain ⟨V1, hV1⟩ : ∃ V : World, V = v1.alloc (.cells #[.int .i64 X.num, .int .i64 X.den] 76) := ⟨_, rfl⟩
    have hu1 : RowKit.Below v1.heap.size v1 V1 := by rw [hV1]; exact (Below.refl _ _).alloc (Nat.le_refl _) _
    replace Ksa := Ksa.bel hu1
    replace Ksb := Ksb.bel hu1
    replace HBW := Lib.hid (HBW.out.trans (hu1.mono HBW.out.size))
    clear hu1
    have Kfx : FrB V1 g1 ⟨X.num, X.den⟩ := by rw [hV1, ← hg1]; exact Blk.new _ _ _
    obtain ⟨sa0, sa1, sa2, sa3⟩ := Ksa.cells
    obtain ⟨sb0, sb1, sb2, sb3⟩ := Ksb.cells
    obtain ⟨fx0, fx1⟩ := Kfx.cells
    rw [hV1] at sa0 sa1 sa2 sa3 sb0 sb1 sb2 sb3 fx0 fx1
    go_wp2_with fail
    rw [← hV1]
    clear hV1
    refine (segmentSquareC_any b a _ HBB.out HA.out).mono ?_
    rintro e v2 ⟨rfl, hv2⟩
    clear sa0 sa1 sa2 sa3 sb0 sb1 sb2 sb3 fx0 fx1
    replace Ksa := Ksa.bel hv2
    replace Ksb := Ksb.bel hv2
    replace Kfx := Kfx.bel hv2
    replace HBW := Lib.hid (HBW.out.trans (hv2.mono HBW.out.size))
    clear hv2
    rw [← HCM.out]
    obtain ⟨g2, hg2⟩ : ∃ g, v2.heap.size = g := ⟨_, rfl⟩
    obtain ⟨V2, hV2⟩ : ∃ V : World, V = v2.alloc (.cells #[.int .i64 X.num, .int .i64 X.den] 76) := ⟨_, rfl⟩
    have hu2 : RowKit.Below v2.heap.size v2 V2 := by rw [hV2]; exact (Below.refl _ _).alloc (Nat.le_refl _) _
    replace Ksa := Ksa.bel hu2
    replace Ksb := Ksb.bel hu2
    replace Kfx := Kfx.bel hu2
    replace HBW := Lib.hid (HBW.out.trans (hu2.mono HBW.out.size))
    clear hu2
    have Kfy : FrB V2 g2 ⟨X.num, X.den⟩ := by rw [hV2, ← hg2]; exact Blk.new _ _ _
    obtain ⟨sa0, sa1, sa2, sa3⟩ := Ksa.cells
    obtain ⟨sb0, sb1, sb2, sb3⟩ := Ksb.cells
    obtain ⟨fx0, fx1⟩ := Kfx.cells
    obtain ⟨fy0, fy1⟩ := Kfy.cells
    rw [hV2] at sa0 sa1 sa2 sa3 sb0 sb1 sb2 sb3 fx0 fx1 fy0 fy1
    go_wp2_with fail
    rw [← hV2]
    clear hV2
    refine (pointSquareC_any a (ptA b) _ HA.out (ptA_ok HBB.out)).mono ?_
    rintro e v3 ⟨rfl, hv3⟩
    clear sa0 sa1 sa2 sa3 sb0 sb1 sb2 sb3 fx0 fx1 fy0 fy1
    replace Ksa := Ksa.bel hv3
    replace Ksb := Ksb.bel hv3
    replace Kfx := Kfx.bel hv3
    replace Kfy := Kfy.bel hv3
    replace HBW := Lib.hid (HBW.out.trans (hv3.mono HBW.out.size))
    clear hv3
    rw [HPF.out]
    obtain ⟨g3, hg3⟩ : ∃ g, v3.heap.size = g := ⟨_, rfl⟩
    obtain ⟨V3, hV3⟩ : ∃ V : World, V = v3.alloc (.cells #[.int .i64 PF.num, .int .i64 PF.den] 76) := ⟨_, rfl⟩
    have hu3 : RowKit.Below v3.heap.size v3 V3 := by rw [hV3]; exact (Below.refl _ _).alloc (Nat.le_refl _) _
    replace Ksa := Ksa.bel hu3
    replace Ksb := Ksb.bel hu3
    replace Kfx := Kfx.bel hu3
    replace Kfy := Kfy.bel hu3
    replace HBW := Lib.hid (HBW.out.trans (hu3.mono HBW.out.size))
    clear hu3
    have Kfp : FrB V3 g3 ⟨PF.num, PF.den⟩ := by rw [hV3, ← hg3]; exact Blk.new _ _ _
    obtain ⟨sa0, sa1, sa2, sa3⟩ := Ksa.cells
    obtain ⟨sb0, sb1, sb2, sb3⟩ := Ksb.cells
    obtain ⟨fx0, fx1⟩ := Kfx.cells
    obtain ⟨fy0, fy1⟩ := Kfy.cells
    obtain ⟨fp0, fp1⟩ := Kfp.cells
    rw [hV3] at sa0 sa1 sa2 sa3 sb0 sb1 sb2 sb3 fx0 fx1 fy0 fy1 fp0 fp1
    go_wp2_with fail
    rw [← hV3]
    clear hV3
    refine (gapOf_any a b _ HA.out HBB.out).mono ?_
    rintro e v4 ⟨G, rfl, hG, hv4⟩
    clear sa0 sa1 sa2 sa3 sb0 sb1 sb2 sb3 fx0 fx1 fy0 fy1 fp0 fp1
    replace Ksa := Ksa.bel hv4
    replace Ksb := Ksb.bel hv4
    replace Kfx := Kfx.bel hv4
    replace Kfy := Kfy.bel hv4
    replace Kfp := Kfp.bel hv4
    replace HBW := Lib.hid (HBW.out.trans (hv4.mono HBW.out.size))
    clear hv4
    rw [HX.out] at hG
    have HG := Lib.hid hG
    have hg0 : 0 ≤ G := hG.1
    have hg1 : G ≤ 32000 := hG.2.1
    have HN1 : Hid (decide ((ssF a b).num < G * G * (ssF a b).den) = false) := by show _ = _; rw [HX.out]; exact (gap_near hG).1
    have HN2 : Hid (decide ((ssF a b).num < (G + 1) * (G + 1) * (ssF a b).den) = true) := by show _ = _; rw [HX.out]; exact (gap_near hG).2
    clear hG
    obtain ⟨m, hm⟩ : ∃ m, meetB a b = m := ⟨_, rfl⟩
    have r1 : MeetR a.ax a.ay a.bx a.by_ b.ax b.ay b.bx b.by_ m := ⟨HA.out, HBB.out, hm⟩
    have r2 : MeetR b.ax b.ay b.bx b.by_ a.ax a.ay a.bx a.by_ m := ⟨HBB.out, HA.out, HMC.out.symm.trans hm⟩
    rw [hm] at HZ
    clear hm
    have EF := run_neq_Fraction X.num X.den
    have HL1 : Hid (decide (G < 0) = false) := decide_eq_false (by omega)
    have HL2 : Hid (decide (50000 < G) = false) := decide_eq_false (by omega)
    obtain ⟨sa0, sa1, sa2, sa3⟩ := Ksa.cells
    obtain ⟨sb0, sb1, sb2, sb3⟩ := Ksb.cells
    obtain ⟨fx0, fx1⟩ := Kfx.cells
    obtain ⟨fy0, fy1⟩ := Kfy.cells
    obtain ⟨fp0, fp1⟩ := Kfp.cells
    have tsa0 := cell_regrown sa0
    have tsa1 := cell_regrown sa1
    have tsa2 := cell_regrown sa2
    have tsa3 := cell_regrown sa3
    have tsb0 := cell_regrown sb0
    have tsb1 := cell_regrown sb1
    have tsb2 := cell_regrown sb2
    have tsb3 := cell_regrown sb3
    have tfx0 := cell_regrown fx0
    have tfx1 := cell_regrown fx1
    have tfy0 := cell_regrown fy0
    have tfy1 := cell_regrown fy1
    have tfp0 := cell_regrown fp0
    have tfp1 := cell_regrown fp1
    clear sa0 sa1 sa2 sa3 sb0 sb1 sb2 sb3 fx0 fx1 fy0 fy1 fp0 fp1
    go_wp2
    have hl1 := HL1.out
    have hl2 := HL2.out
    have hz := HZ.out
    cases m
    all_goals
      refine wp_region_quiet_below (by kernel_rfl) (by kernel_rfl) ?_
      repeat (go_big_quiet_step (first | (go_at_call 40; exact Calls.regrown_of (meetR_any (by assumption) _))))
      refine wpQuiet_nil ?_
      intro _ hw9
      obtain ⟨⟨dq, osq⟩, hw9⟩ := hw9
      subst hw9
      have hv5 := below_regrown v4 dq osq
      dsimp only at hv5 ⊢
      generalize grow (redrawn v4 dq) osq = v5 at hv5 ⊢
      clear tsa0 tsa1 tsa2 tsa3 tsb0 tsb1 tsb2 tsb3 tfx0 tfx1 tfy0 tfy1 tfp0 tfp1
      replace Ksa := Ksa.bel hv5
      replace Ksb := Ksb.bel hv5
      replace Kfx := Kfx.bel hv5
      replace Kfy := Kfy.bel hv5
      replace Kfp := Kfp.bel hv5
      replace HBW := Lib.hid (HBW.out.trans (hv5.mono HBW.out.size))
      clear hv5
      obtain ⟨sa0, sa1, sa2, sa3⟩ := Ksa.cells
      obtain ⟨sb0, sb1, sb2, sb3⟩ := Ksb.cells
      obtain ⟨fx0, fx1⟩ := Kfx.cells
      obtain ⟨fy0, fy1⟩ := Kfy.cells
      obtain ⟨fp0, fp1⟩ := Kfp.cells
      clear hl1 hl2 hz
      go_wp2_with fail
      refine (compareFractions_any X PF _).mono ?_
      rintro e v6 ⟨rfl, hv6⟩
      clear sa0 sa1 sa2 sa3 sb0 sb1 sb2 sb3 fx0 fx1 fy0 fy1 fp0 fp1
      replace Ksa := Ksa.bel hv6
      replace Ksb := Ksb.bel hv6
      replace Kfx := Kfx.bel hv6
      replace Kfy := Kfy.bel hv6
      replace Kfp := Kfp.bel hv6
      replace HBW := Lib.hid (HBW.out.trans (hv6.mono HBW.out.size))
      clear hv6
      rw [HC1.out]
      obtain ⟨sa0, sa1, sa2, sa3⟩ := Ksa.cells
      obtain ⟨sb0, sb1, sb2, sb3⟩ := Ksb.cells
      obtain ⟨fx0, fx1⟩ := Kfx.cells
      obtain ⟨fy0, fy1⟩ := Kfy.cells
      obtain ⟨fp0, fp1⟩ := Kfp.cells
      go_wp2_with fail
      refine (squareBetween_any (ptA a) (ptA b) _ (ptA_ok HA.out) (ptA_ok HBB.out)).mono ?_
      rintro e v7 ⟨rfl, hv7⟩
      clear sa0 sa1 sa2 sa3 sb0 sb1 sb2 sb3 fx0 fx1 fy0 fy1 fp0 fp1
      replace Ksa := Ksa.bel hv7
      replace Ksb := Ksb.bel hv7
      replace Kfx := Kfx.bel hv7
      replace Kfy := Kfy.bel hv7
      replace Kfp := Kfp.bel hv7
      replace HBW := Lib.hid (HBW.out.trans (hv7.mono HBW.out.size))
      clear hv7
      obtain ⟨sa0, sa1, sa2, sa3⟩ := Ksa.cells
      obtain ⟨sb0, sb1, sb2, sb3⟩ := Ksb.cells
      obtain ⟨fx0, fx1⟩ := Kfx.cells
      obtain ⟨fy0, fy1⟩ := Kfy.cells
      obtain ⟨fp0, fp1⟩ := Kfp.cells
      go_wp2_with fail
      refine (compareFractions_any PF ⟨sqP (ptA a) (ptA b), 1⟩ _).mono ?_
      rintro e v8 ⟨rfl, hv8⟩
      clear sa0 sa1 sa2 sa3 sb0 sb1 sb2 sb3 fx0 fx1 fy0 fy1 fp0 fp1
      replace Ksa := Ksa.bel hv8
      replace Ksb := Ksb.bel hv8
      replace Kfx := Kfx.bel hv8
      replace Kfy := Kfy.bel hv8
      replace Kfp := Kfp.bel hv8
      replace HBW := Lib.hid (HBW.out.trans (hv8.mono HBW.out.size))
      clear hv8
      rw [HC2.out]
      obtain ⟨sa0, sa1, sa2, sa3⟩ := Ksa.cells
      obtain ⟨sb0, sb1, sb2, sb3⟩ := Ksb.cells
      obtain ⟨fx0, fx1⟩ := Kfx.cells
      obtain ⟨fy0, fy1⟩ := Kfy.cells
      obtain ⟨fp0, fp1⟩ := Kfp.cells
      go_wp2_with fail
      refine (nearerThan_any a b _ HA.out HBB.out G ⟨hg0, by omega⟩ HN1.out).mono ?_
      rintro e v9 ⟨rfl, hv9⟩
      clear sa0 sa1 sa2 sa3 sb0 sb1 sb2 sb3 fx0 fx1 fy0 fy1 fp0 fp1
      replace Ksa := Ksa.bel hv9
      replace Ksb := Ksb.bel hv9
      replace Kfx := Kfx.bel hv9
      replace Kfy := Kfy.bel hv9
      replace Kfp := Kfp.bel hv9
      replace HBW := Lib.hid (HBW.out.trans (hv9.mono HBW.out.size))
      clear hv9
      obtain ⟨sa0, sa1, sa2, sa3⟩ := Ksa.cells
      obtain ⟨sb0, sb1, sb2, sb3⟩ := Ksb.cells
      obtain ⟨fx0, fx1⟩ := Kfx.cells
      obtain ⟨fy0, fy1⟩ := Kfy.cells
      obtain ⟨fp0, fp1⟩ := Kfp.cells
      go_wp2_with fail
      refine (nearerThan_any a b _ HA.out HBB.out (G + 1) ⟨by omega, by omega⟩ HN2.out).mono ?_
      rintro e v10 ⟨rfl, hv10⟩
      clear sa0 sa1 sa2 sa3 sb0 sb1 sb2 sb3 fx0 fx1 fy0 fy1 fp0 fp1
      replace Ksa := Ksa.bel hv10
      replace Ksb := Ksb.bel hv10
      replace Kfx := Kfx.bel hv10
      replace Kfy := Kfy.bel hv10
      replace Kfp := Kfp.bel hv10
      replace HBW := Lib.hid (HBW.out.trans (hv10.mono HBW.out.size))
      clear hv10
      obtain ⟨sa0, sa1, sa2, sa3⟩ := Ksa.cells
      obtain ⟨sb0, sb1, sb2, sb3⟩ := Ksb.cells
      obtain ⟨fx0, fx1⟩ := Kfx.cells
      obtain ⟨fy0, fy1⟩ := Kfy.cells
      obtain ⟨fp0, fp1⟩ := Kfp.cells
      go_wp2_with fail
      refine (sideOf_any a (ptA b) _ HA.out (ptA_ok HBB.out)).mono ?_
      rintro e v11 ⟨rfl, hv11⟩
      clear sa0 sa1 sa2 sa3 sb0 sb1 sb2 sb3 fx0 fx1 fy0 fy1 fp0 fp1
      replace Ksa := Ksa.bel hv11
      replace Ksb := Ksb.bel hv11
      replace Kfx := Kfx.bel hv11
      replace Kfy := Kfy.bel hv11
      replace Kfp := Kfp.bel hv11
      replace HBW := Lib.hid (HBW.out.trans (hv11.mono HBW.out.size))
      clear hv11
      rw [HTS.out]
      obtain ⟨sa0, sa1, sa2, sa3⟩ := Ksa.cells
      obtain ⟨sb0, sb1, sb2, sb3⟩ := Ksb.cells
      obtain ⟨fx0, fx1⟩ := Kfx.cells
      obtain ⟨fy0, fy1⟩ := Kfy.cells
      obtain ⟨fp0, fp1⟩ := Kfp.cells
      go_wp2_with fail
      refine (sideOf_any ⟨a.bx, a.by_, a.ax, a.ay⟩ (ptA b) _ ⟨HA.out.bx, HA.out.by_, HA.out.ax, HA.out.ay⟩ (ptA_ok HBB.out)).mono ?_
      rintro e v12 ⟨rfl, hv12⟩
      clear sa0 sa1 sa2 sa3 sb0 sb1 sb2 sb3 fx0 fx1 fy0 fy1 fp0 fp1
      replace Ksa := Ksa.bel hv12
      replace Ksb := Ksb.bel hv12
      replace Kfx := Kfx.bel hv12
      replace Kfy := Kfy.bel hv12
      replace Kfp := Kfp.bel hv12
      replace HBW := Lib.hid (HBW.out.trans (hv12.mono HBW.out.size))
      clear hv12
      obtain ⟨T, hT⟩ : ∃ T, sgn (crossS ⟨a.bx, a.by_, a.ax, a.ay⟩ (ptA b)) 0 = T := ⟨_, rfl⟩
      have hTr := sgn_bd (crossS ⟨a.bx, a.by_, a.ax, a.ay⟩ (ptA b)) 0
      rw [hT] at hTr ⊢
      clear hT
      have k1 : IntKind.i64.wrap (-T) = -T := wrapI (by omega)
      obtain ⟨N1, hN1⟩ : ∃ N, cfN X PF = N := ⟨_, rfl⟩
      have ho1 := HO1.out
      rw [hN1] at ho1 ⊢
      obtain ⟨N2, hN2⟩ : ∃ N, cfN PF ⟨sqP (ptA a) (ptA b), 1⟩ = N := ⟨_, rfl⟩
      have ho2 := HO2.out
      rw [hN2] at ho2 ⊢
      clear hN1 hN2
      obtain ⟨sa0, sa1, sa2, sa3⟩ := Ksa.cells
      obtain ⟨sb0, sb1, sb2, sb3⟩ := Ksb.cells
      obtain ⟨fx0, fx1⟩ := Kfx.cells
      obtain ⟨fy0, fy1⟩ := Kfy.cells
      obtain ⟨fp0, fp1⟩ := Kfp.cells
      clear fy0 fy1 fp0 fp1 sa0 sa1 sa2 sa3 sb0 sb1 sb2 sb3
      go_wp2_with fail
      refine (fractionText_any X _ (HTAB.out.bel HBW.out)).mono ?_
      rintro e v13 ⟨rfl, hv13⟩
      have hfp := ftS_pos HOK.out
      obtain ⟨FT, hFT⟩ : ∃ F, ftS X = F := ⟨_, rfl⟩
      rw [hFT] at hfp ⊢
      clear hFT
      go_wp2
      go_ret
      exact ⟨rfl, HBW.out.trans (hv13.mono HBW.out.size)⟩
end Go.Proofs.YtdhobglhjdgboaaDoor.lawDistances
