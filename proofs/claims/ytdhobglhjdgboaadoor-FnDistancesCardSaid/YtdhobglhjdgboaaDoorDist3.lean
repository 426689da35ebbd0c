/- Distances: the program's meet. -/
import Derived.Test.YtdhobglhjdgboaaDoorDist2
import Derived.Lib.QuietBelow
import Derived.BigQuiet
namespace Go.Proofs.YtdhobglhjdgboaaDoor
open Go.RowKit Go.Sort
set_option linter.unusedVariables false

/-- what side hands back at these numbers -/
def SideR (ax ay bx by_ px py v : Int) : Prop := (⟨ax, ay, bx, by_⟩ : Seg).ok ∧ (⟨px, py⟩ : Pt).ok ∧ crossS ⟨ax, ay, bx, by_⟩ ⟨px, py⟩ = v
theorem sideR_any {ax ay bx by_ px py v : Int} (h : SideR ax ay bx by_ px py v) (w : World) :
    Calls Tryd.prog 116 #[.agg #[.int .i64 ax, .int .i64 ay], .agg #[.int .i64 bx, .int .i64 by_], .agg #[.int .i64 px, .int .i64 py]] w fun e w' => e = .returned (.int .i64 v) ∧ RowKit.Below w.heap.size w w' := by
  have := sideS_any ⟨ax, ay, bx, by_⟩ ⟨px, py⟩ w h.1 h.2.1
  rw [h.2.2] at this
  exact this
def SignR (n v : Int) : Prop := sgn n 0 = v
theorem signR_any {n v : Int} (h : SignR n v) (w : World) : Calls Tryd.prog 115 #[.int .i64 n] w fun e w' => e = .returned (.int .i64 v) ∧ RowKit.Below w.heap.size w w' := by
  have := signS_any n w
  rw [show sgn n 0 = v from h] at this
  exact this
theorem sgn_bd (n m : Int) : -1200 ≤ sgn n m ∧ sgn n m ≤ 1200 := by
  rcases sgn_cases n m with ⟨_, h⟩ | ⟨_, _, h⟩ | ⟨_, _, h⟩ <;> omega

set_option maxRecDepth 100000 in
set_option maxHeartbeats 2000000 in
theorem meet_any (a b : Seg) (w : World) (ha : a.ok) (hb : b.ok) {v : Bool} (hv : meetB a b = v) :
    Calls Tryd.prog 110 #[.agg #[.int .i64 a.ax, .int .i64 a.ay, .int .i64 a.bx, .int .i64 a.by_], .agg #[.int .i64 b.ax, .int .i64 b.ay, .int .i64 b.bx, .int .i64 b.by_]] w fun e w' => e = .returned (.bool v) ∧ RowKit.Below w.heap.size w w' := by
  have HV : Hid (((cvB a (ptA b) || (cvB a (ptB b) || (cvB b (ptA a) || cvB b (ptB a)))) || (crB a b && crB b a)) = v) := hv
  clear hv
  obtain ⟨W, hW⟩ : ∃ W : World, W = (w.alloc (.cells #[.int .i64 a.ax, .int .i64 a.ay, .int .i64 a.bx, .int .i64 a.by_] 72)).alloc (.cells #[.int .i64 b.ax, .int .i64 b.ay, .int .i64 b.bx, .int .i64 b.by_] 72) := ⟨_, rfl⟩
  obtain ⟨S, T, B⟩ := box_ss w a b hW
  have HS := Lib.hid S
  have HT := Lib.hid T
  have HB0 := Lib.hid B
  clear B
  obtain ⟨c0, c1, c2, c3⟩ := S.cells
  obtain ⟨d0, d1, d2, d3⟩ := T.cells
  clear S T
  go_enter Tryd.func110, Tryd.ntmps110
  go_wp2_with fail
  rw [← hW]
  clear hW
  obtain ⟨v1, hv1⟩ : ∃ v1, cvB a (ptA b) = v1 := ⟨_, rfl⟩
  rw [hv1] at HV
  refine (covers_any a (ptA b) _ ha (ptA_ok hb) hv1).mono ?_
  rintro e w1 ⟨rfl, hb1⟩
  clear c0 c1 c2 c3 d0 d1 d2 d3 hv1
  have HS1 := Lib.hid (HS.out.bel hb1)
  have HT1 := Lib.hid (HT.out.bel hb1)
  have HB1 := Lib.hid (HB0.out.trans (hb1.mono HB0.out.size))
  clear hb1
  obtain ⟨c0, c1, c2, c3⟩ := HS1.out.cells
  obtain ⟨d0, d1, d2, d3⟩ := HT1.out.cells
  cases v1
  case true =>
    obtain rfl : true = v := by rw [← HV.out]; simp
    go_wp2
    go_ret
    exact ⟨rfl, HB1.out⟩
  go_wp2_with fail
  obtain ⟨v2, hv2⟩ : ∃ v2, cvB a (ptB b) = v2 := ⟨_, rfl⟩
  rw [hv2] at HV
  refine (covers_any a (ptB b) _ ha (ptB_ok hb) hv2).mono ?_
  rintro e w2 ⟨rfl, hb2⟩
  clear c0 c1 c2 c3 d0 d1 d2 d3 hv2
  have HS2 := Lib.hid (HS1.out.bel hb2)
  have HT2 := Lib.hid (HT1.out.bel hb2)
  have HB2 := Lib.hid (HB1.out.trans (hb2.mono HB1.out.size))
  clear hb2
  obtain ⟨c0, c1, c2, c3⟩ := HS2.out.cells
  obtain ⟨d0, d1, d2, d3⟩ := HT2.out.cells
  cases v2
  case true =>
    obtain rfl : true = v := by rw [← HV.out]; simp
    go_wp2
    go_ret
    exact ⟨rfl, HB2.out⟩
  go_wp2_with fail
  obtain ⟨v3, hv3⟩ : ∃ v3, cvB b (ptA a) = v3 := ⟨_, rfl⟩
  rw [hv3] at HV
  refine (covers_any b (ptA a) _ hb (ptA_ok ha) hv3).mono ?_
  rintro e w3 ⟨rfl, hb3⟩
  clear c0 c1 c2 c3 d0 d1 d2 d3 hv3
  have HS3 := Lib.hid (HS2.out.bel hb3)
  have HT3 := Lib.hid (HT2.out.bel hb3)
  have HB3 := Lib.hid (HB2.out.trans (hb3.mono HB2.out.size))
  clear hb3
  obtain ⟨c0, c1, c2, c3⟩ := HS3.out.cells
  obtain ⟨d0, d1, d2, d3⟩ := HT3.out.cells
  cases v3
  case true =>
    obtain rfl : true = v := by rw [← HV.out]; simp
    go_wp2
    go_ret
    exact ⟨rfl, HB3.out⟩
  go_wp2_with fail
  obtain ⟨v4, hv4⟩ : ∃ v4, cvB b (ptB a) = v4 := ⟨_, rfl⟩
  rw [hv4] at HV
  refine (covers_any b (ptB a) _ hb (ptB_ok ha) hv4).mono ?_
  rintro e w4 ⟨rfl, hb4⟩
  clear c0 c1 c2 c3 d0 d1 d2 d3 hv4
  have HS4 := Lib.hid (HS3.out.bel hb4)
  have HT4 := Lib.hid (HT3.out.bel hb4)
  have HB4 := Lib.hid (HB3.out.trans (hb4.mono HB3.out.size))
  clear hb4
  obtain ⟨c0, c1, c2, c3⟩ := HS4.out.cells
  obtain ⟨d0, d1, d2, d3⟩ := HT4.out.cells
  cases v4
  case true =>
    obtain rfl : true = v := by rw [← HV.out]; simp
    go_wp2
    go_ret
    exact ⟨rfl, HB4.out⟩
  have HV2 : Hid ((crB a b && crB b a) = v) := HV.out
  clear HV
  obtain ⟨C1, hC1⟩ : ∃ C, crossS a (ptA b) = C := ⟨_, rfl⟩
  obtain ⟨C2, hC2⟩ : ∃ C, crossS a (ptB b) = C := ⟨_, rfl⟩
  obtain ⟨C3, hC3⟩ : ∃ C, crossS b (ptA a) = C := ⟨_, rfl⟩
  obtain ⟨C4, hC4⟩ : ∃ C, crossS b (ptB a) = C := ⟨_, rfl⟩
  have r1 : SideR a.ax a.ay a.bx a.by_ b.ax b.ay C1 := ⟨ha, ptA_ok hb, hC1⟩
  have r2 : SideR a.ax a.ay a.bx a.by_ b.bx b.by_ C2 := ⟨ha, ptB_ok hb, hC2⟩
  have r3 : SideR b.ax b.ay b.bx b.by_ a.ax a.ay C3 := ⟨hb, ptA_ok ha, hC3⟩
  have r4 : SideR b.ax b.ay b.bx b.by_ a.bx a.by_ C4 := ⟨hb, ptB_ok ha, hC4⟩
  unfold crB at HV2
  rw [hC1, hC2, hC3, hC4] at HV2
  clear hC1 hC2 hC3 hC4
  obtain ⟨X1, hX1⟩ : ∃ X, sgn C1 0 = X := ⟨_, rfl⟩
  obtain ⟨X2, hX2⟩ : ∃ X, sgn C2 0 = X := ⟨_, rfl⟩
  obtain ⟨X3, hX3⟩ : ∃ X, sgn C3 0 = X := ⟨_, rfl⟩
  obtain ⟨X4, hX4⟩ : ∃ X, sgn C4 0 = X := ⟨_, rfl⟩
  have q1 : SignR C1 X1 := hX1
  have q2 : SignR C2 X2 := hX2
  have q3 : SignR C3 X3 := hX3
  have q4 : SignR C4 X4 := hX4
  rw [hX1, hX2, hX3, hX4] at HV2
  obtain ⟨k1, _⟩ := mul_wrap (a := X1) (b := X2) (by rw [← hX1]; exact sgn_bd _ _) (by rw [← hX2]; exact sgn_bd _ _)
  obtain ⟨k2, _⟩ := mul_wrap (a := X3) (b := X4) (by rw [← hX3]; exact sgn_bd _ _) (by rw [← hX4]; exact sgn_bd _ _)
  clear hX1 hX2 hX3 hX4
  have t0 := cell_regrown c0
  have t1 := cell_regrown c1
  have t2 := cell_regrown c2
  have t3 := cell_regrown c3
  have u0 := cell_regrown d0
  have u1 := cell_regrown d1
  have u2 := cell_regrown d2
  have u3 := cell_regrown d3
  clear c0 c1 c2 c3 d0 d1 d2 d3
  by_cases h1 : X1 * X2 < 0
  · by_cases h2 : X3 * X4 < 0
    · have HN : Hid (true = v) := by show _ = _; rw [← HV2.out]; simp [h1, h2]
      go_wp2
      refine wp_region_quiet_below (by kernel_rfl) (by kernel_rfl) ?_
      repeat (go_big_quiet_step (first | (go_at_call 116; exact Calls.regrown_of (sideR_any (by assumption) _)) | (go_at_call 115; exact Calls.regrown_of (signR_any (by assumption) _))))
      refine wpQuiet_nil ?_
      intro _ hw9
      obtain ⟨⟨dq, osq⟩, hw9⟩ := hw9
      subst hw9
      have hb9 := below_regrown w4 dq osq
      dsimp only at hb9 ⊢
      generalize grow (redrawn w4 dq) osq = w9 at hb9 ⊢
      go_wp2
      go_ret
      exact ⟨by rw [← HN.out]; rfl, HB4.out.trans (hb9.mono HB4.out.size)⟩
    · have HN : Hid (false = v) := by show _ = _; rw [← HV2.out]; simp [h1, h2]
      go_wp2
      refine wp_region_quiet_below (by kernel_rfl) (by kernel_rfl) ?_
      repeat (go_big_quiet_step (first | (go_at_call 116; exact Calls.regrown_of (sideR_any (by assumption) _)) | (go_at_call 115; exact Calls.regrown_of (signR_any (by assumption) _))))
      refine wpQuiet_nil ?_
      intro _ hw9
      obtain ⟨⟨dq, osq⟩, hw9⟩ := hw9
      subst hw9
      have hb9 := below_regrown w4 dq osq
      dsimp only at hb9 ⊢
      generalize grow (redrawn w4 dq) osq = w9 at hb9 ⊢
      go_wp2
      go_ret
      exact ⟨by show Ending.returned (.bool (decide (X3 * X4 < 0))) = _; rw [decide_eq_false (show ¬ X3 * X4 < 0 by omega), HN.out], HB4.out.trans (hb9.mono HB4.out.size)⟩
  · have HN : Hid (false = v) := by show _ = _; rw [← HV2.out]; simp [h1]
    have HD : Hid (decide (X1 * X2 < 0) = false) := decide_eq_false h1
    clear h1
    go_wp2
    have hd1 := HD.out
    refine wp_region_quiet_below (by kernel_rfl) (by kernel_rfl) ?_
    repeat (go_big_quiet_step (first | (go_at_call 116; exact Calls.regrown_of (sideR_any (by assumption) _)) | (go_at_call 115; exact Calls.regrown_of (signR_any (by assumption) _))))
    refine wpQuiet_nil ?_
    intro _ hw9
    obtain ⟨⟨dq, osq⟩, hw9⟩ := hw9
    subst hw9
    have hb9 := below_regrown w4 dq osq
    dsimp only at hb9 ⊢
    generalize grow (redrawn w4 dq) osq = w9 at hb9 ⊢
    go_wp2
    go_ret
    exact ⟨by rw [← HN.out]; rfl, HB4.out.trans (hb9.mono HB4.out.size)⟩
end Go.Proofs.YtdhobglhjdgboaaDoor
