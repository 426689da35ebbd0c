/- ValidCrane of the program, l04Ok of the reference: both say craneOk. -/
import Derived.Test.YtencnldflnbdiaaDoorCharts3
import Derived.Test.YtencnldflnbdiaaDoorRoots
import Derived.Test.YtencnldflnbdiaaDoorRCrane
import Derived.Test.YtencnldflnbdiaaDoorLiftLaw
import Derived.Test.YtencnldflnbdiaaDoorLifts
import Derived.Lib.QuietBelow
import Derived.BigQuiet
namespace Go.Proofs.YtencnldflnbdiaaDoor
open Go.RowKit Go.Sort
set_option linter.unusedVariables false

abbrev CV := CraneV × List ChartStep
def craneHd (v : CraneV) : Bool := nmOk v.name && (plcB v.ax v.ay && (inB v.height 1 2000 && (inB v.jib 1 1000 && inB v.back 0 v.jib)))
def craneOk (c : CV) : Bool := craneHd c.1 && (chartOk c.2 && decide (lastR c.2 ≤ c.1.jib))
theorem craneOk_cases (c : CV) : (nmOk c.1.name = false ∧ craneOk c = false) ∨ (nmOk c.1.name = true ∧ plcB c.1.ax c.1.ay = false ∧ craneOk c = false) ∨ (nmOk c.1.name = true ∧ plcB c.1.ax c.1.ay = true ∧ inB c.1.height 1 2000 = false ∧ craneOk c = false) ∨
    (nmOk c.1.name = true ∧ plcB c.1.ax c.1.ay = true ∧ inB c.1.height 1 2000 = true ∧ inB c.1.jib 1 1000 = false ∧ craneOk c = false) ∨
    (nmOk c.1.name = true ∧ plcB c.1.ax c.1.ay = true ∧ inB c.1.height 1 2000 = true ∧ inB c.1.jib 1 1000 = true ∧ inB c.1.back 0 c.1.jib = false ∧ craneOk c = false) ∨
    (nmOk c.1.name = true ∧ plcB c.1.ax c.1.ay = true ∧ inB c.1.height 1 2000 = true ∧ inB c.1.jib 1 1000 = true ∧ inB c.1.back 0 c.1.jib = true ∧ chartOk c.2 = false ∧ craneOk c = false) ∨
    (nmOk c.1.name = true ∧ plcB c.1.ax c.1.ay = true ∧ inB c.1.height 1 2000 = true ∧ inB c.1.jib 1 1000 = true ∧ inB c.1.back 0 c.1.jib = true ∧ chartOk c.2 = true ∧ craneOk c = decide (lastR c.2 ≤ c.1.jib)) := by
  unfold craneOk craneHd
  cases nmOk c.1.name <;> cases plcB c.1.ax c.1.ay <;> cases inB c.1.height 1 2000 <;> cases inB c.1.jib 1 1000 <;> cases inB c.1.back 0 c.1.jib <;> cases chartOk c.2 <;> simp
structure CraneP (c : CV) : Prop where
  name : nmOk c.1.name = true
  at_ : Plc c.1.ax c.1.ay
  height : 1 ≤ c.1.height ∧ c.1.height ≤ 2000
  jib : 1 ≤ c.1.jib ∧ c.1.jib ≤ 1000
  back : 0 ≤ c.1.back ∧ c.1.back ≤ c.1.jib
  chart : chartOk c.2 = true
theorem craneOk_parts {c : CV} (h : craneOk c = true) : CraneP c := by
  unfold craneOk craneHd at h
  simp only [Bool.and_eq_true] at h
  obtain ⟨⟨h1, h2, h3, h4, h5⟩, h6, h7⟩ := h
  exact ⟨h1, plcB_iff h2, inB_true.1 h3, inB_true.1 h4, inB_true.1 h5, h6⟩
theorem lastR_at {xs : List ChartStep} {m : Nat} {s : ChartStep} (hl : xs.length = m + 1) (h : xs[m]? = some s) : lastR xs = s.radius := by unfold lastR; rw [hl, Nat.add_sub_cancel, h]


set_option maxRecDepth 100000 in
set_option maxHeartbeats 3200000 in
theorem validCrane_any (p : Crane) (w : World) (lo : Nat) (hp : p.v.name.size ≤ 9223372036854775807) (hr : Arr ChartStep.cs 2 w lo w.heap.size p.r.a p.r.n p.r.xs) (hn : p.r.n ≤ 9223372036854775807) :
    Calls Tryd.prog 135 #[.agg #[.string p.v.name, .int .i64 p.v.ax, .int .i64 p.v.ay, .int .i64 p.v.height, .int .i64 p.v.jib, .int .i64 p.v.back, .slice p.r.a p.r.n p.r.cap]] w fun e w' => e = .returned (.bool (craneOk p.val)) ∧ Below w.heap.size w w' := by
  obtain ⟨W, hW⟩ : ∃ W : World, W = w.alloc (.cells #[.string p.v.name, .int .i64 p.v.ax, .int .i64 p.v.ay, .int .i64 p.v.height, .int .i64 p.v.jib, .int .i64 p.v.back, .slice p.r.a p.r.n p.r.cap] 56) := ⟨_, rfl⟩
  have B0 : Below w.heap.size w W := by rw [hW]; exact (Below.refl _ _).alloc (Nat.le_refl _) _
  have P0 : Blk W w.heap.size 56 #[.string p.v.name, .int .i64 p.v.ax, .int .i64 p.v.ay, .int .i64 p.v.height, .int .i64 p.v.jib, .int .i64 p.v.back, .slice p.r.a p.r.n p.r.cap] := by rw [hW]; exact Blk.new _ _ _
  have s0 := P0.lt
  rcases craneOk_cases p.val with ⟨a1, ao⟩ | ⟨a1, a2, ao⟩ | ⟨a1, a2, a3, ao⟩ | ⟨a1, a2, a3, a4, ao⟩ | ⟨a1, a2, a3, a4, a5, ao⟩ | ⟨a1, a2, a3, a4, a5, a6, ao⟩ | ⟨a1, a2, a3, a4, a5, a6, ao⟩
  · have HO := Lib.hid ao
    clear ao
    simp only [Crane.val] at a1
    go_enter Tryd.func135, Tryd.ntmps135
    go_wp2_with fail
    rw [← hW]
    clear hW
    obtain ⟨d0, d1, d2, d3, d4, d5, d6⟩ := Crane.blk P0
    go_wp2_with fail
    refine (isName_any _ _ hp).mono ?_; rintro _ _ ⟨rfl, rfl⟩
    go_wp2
    go_ret
    exact ⟨by rw [HO.out]; rfl, B0⟩
  · have HO := Lib.hid ao
    clear ao
    simp only [Crane.val] at a1 a2
    go_enter Tryd.func135, Tryd.ntmps135
    go_wp2_with fail
    rw [← hW]
    clear hW
    obtain ⟨d0, d1, d2, d3, d4, d5, d6⟩ := Crane.blk P0
    go_wp2_with fail
    refine (isName_any _ _ hp).mono ?_; rintro _ _ ⟨rfl, rfl⟩
    go_wp2_with fail
    refine (validPlace_any _ _ _).mono ?_; rintro _ x1 ⟨rfl, h1⟩
    have B1 := B0.trans (h1.mono (by omega))
    have P1 := P0.bel h1
    have s1 := P1.lt
    clear d0 d1 d2 d3 d4 d5 d6 h1
    obtain ⟨d0, d1, d2, d3, d4, d5, d6⟩ := Crane.blk P1
    go_wp2
    go_ret
    exact ⟨by rw [HO.out]; rfl, B1⟩
  · have HO := Lib.hid ao
    clear ao
    simp only [Crane.val] at a1 a2 a3
    go_enter Tryd.func135, Tryd.ntmps135
    go_wp2_with fail
    rw [← hW]
    clear hW
    obtain ⟨d0, d1, d2, d3, d4, d5, d6⟩ := Crane.blk P0
    go_wp2_with fail
    refine (isName_any _ _ hp).mono ?_; rintro _ _ ⟨rfl, rfl⟩
    go_wp2_with fail
    refine (validPlace_any _ _ _).mono ?_; rintro _ x1 ⟨rfl, h1⟩
    have B1 := B0.trans (h1.mono (by omega))
    have P1 := P0.bel h1
    have s1 := P1.lt
    clear d0 d1 d2 d3 d4 d5 d6 h1
    obtain ⟨d0, d1, d2, d3, d4, d5, d6⟩ := Crane.blk P1
    go_wp2_with fail
    refine (within_any _ _ _ _).mono ?_; rintro _ _ ⟨rfl, rfl⟩
    go_wp2
    go_ret
    exact ⟨by rw [HO.out]; rfl, B1⟩
  · have HO := Lib.hid ao
    clear ao
    simp only [Crane.val] at a1 a2 a3 a4
    go_enter Tryd.func135, Tryd.ntmps135
    go_wp2_with fail
    rw [← hW]
    clear hW
    obtain ⟨d0, d1, d2, d3, d4, d5, d6⟩ := Crane.blk P0
    go_wp2_with fail
    refine (isName_any _ _ hp).mono ?_; rintro _ _ ⟨rfl, rfl⟩
    go_wp2_with fail
    refine (validPlace_any _ _ _).mono ?_; rintro _ x1 ⟨rfl, h1⟩
    have B1 := B0.trans (h1.mono (by omega))
    have P1 := P0.bel h1
    have s1 := P1.lt
    clear d0 d1 d2 d3 d4 d5 d6 h1
    obtain ⟨d0, d1, d2, d3, d4, d5, d6⟩ := Crane.blk P1
    go_wp2_with fail
    refine (within_any _ _ _ _).mono ?_; rintro _ _ ⟨rfl, rfl⟩
    go_wp2_with fail
    refine (within_any _ _ _ _).mono ?_; rintro _ _ ⟨rfl, rfl⟩
    go_wp2
    go_ret
    exact ⟨by rw [HO.out]; rfl, B1⟩
  · have HO := Lib.hid ao
    clear ao
    simp only [Crane.val] at a1 a2 a3 a4 a5
    go_enter Tryd.func135, Tryd.ntmps135
    go_wp2_with fail
    rw [← hW]
    clear hW
    obtain ⟨d0, d1, d2, d3, d4, d5, d6⟩ := Crane.blk P0
    go_wp2_with fail
    refine (isName_any _ _ hp).mono ?_; rintro _ _ ⟨rfl, rfl⟩
    go_wp2_with fail
    refine (validPlace_any _ _ _).mono ?_; rintro _ x1 ⟨rfl, h1⟩
    have B1 := B0.trans (h1.mono (by omega))
    have P1 := P0.bel h1
    have s1 := P1.lt
    clear d0 d1 d2 d3 d4 d5 d6 h1
    obtain ⟨d0, d1, d2, d3, d4, d5, d6⟩ := Crane.blk P1
    go_wp2_with fail
    refine (within_any _ _ _ _).mono ?_; rintro _ _ ⟨rfl, rfl⟩
    go_wp2_with fail
    refine (within_any _ _ _ _).mono ?_; rintro _ _ ⟨rfl, rfl⟩
    go_wp2_with fail
    refine (within_any _ _ _ _).mono ?_; rintro _ _ ⟨rfl, rfl⟩
    go_wp2
    go_ret
    exact ⟨by rw [HO.out]; rfl, B1⟩
  · have HO := Lib.hid ao
    clear ao
    simp only [Crane.val] at a1 a2 a3 a4 a5 a6
    have H6 := Lib.hid a6
    clear a6
    go_enter Tryd.func135, Tryd.ntmps135
    go_wp2_with fail
    rw [← hW]
    clear hW
    obtain ⟨d0, d1, d2, d3, d4, d5, d6⟩ := Crane.blk P0
    go_wp2_with fail
    refine (isName_any _ _ hp).mono ?_; rintro _ _ ⟨rfl, rfl⟩
    go_wp2_with fail
    refine (validPlace_any _ _ _).mono ?_; rintro _ x1 ⟨rfl, h1⟩
    have B1 := B0.trans (h1.mono (by omega))
    have P1 := P0.bel h1
    have s1 := P1.lt
    clear d0 d1 d2 d3 d4 d5 d6 h1
    obtain ⟨d0, d1, d2, d3, d4, d5, d6⟩ := Crane.blk P1
    go_wp2_with fail
    refine (within_any _ _ _ _).mono ?_; rintro _ _ ⟨rfl, rfl⟩
    go_wp2_with fail
    refine (within_any _ _ _ _).mono ?_; rintro _ _ ⟨rfl, rfl⟩
    go_wp2_with fail
    refine (within_any _ _ _ _).mono ?_; rintro _ _ ⟨rfl, rfl⟩
    have HC : Hid (∀ d os, Calls Tryd.prog 171 #[.slice p.r.a p.r.n p.r.cap] (grow (redrawn x1 d) os) fun e w' => e = .returned (.bool false) ∧ Below (grow (redrawn x1 d) os).heap.size (grow (redrawn x1 d) os) w') := by
      intro d os
      have hb9 := B1.trans ((below_regrown x1 d os).mono B1.size)
      have := validChart_any p.r.a p.r.n p.r.cap p.r.xs (grow (redrawn x1 d) os) lo ((hr.below hb9).more hb9.size) hn
      rwa [H6.out] at this
    have t3 := cell_regrown d3
    have t4 := cell_regrown d4
    have t6 := cell_regrown d6
    clear d0 d1 d2 d3 d4 d5 d6
    go_wp2
    refine wp_region_quiet_below (by kernel_rfl) (by kernel_rfl) ?_
    repeat (go_big_quiet_step (first | (go_at_call 171; exact Calls.regrown_of (HC.out _ _))))
    refine wpQuiet_nil ?_
    intro _ hw9
    obtain ⟨⟨dq, osq⟩, hw9⟩ := hw9
    subst hw9
    have hb1 := below_regrown x1 dq osq
    dsimp only at hb1 ⊢
    clear t3 t4 t6 HC
    generalize grow (redrawn x1 dq) osq = W2 at hb1 ⊢
    go_wp2
    go_ret
    exact ⟨by rw [HO.out]; rfl, B1.trans (hb1.mono B1.size)⟩
  · have HO := Lib.hid ao
    clear ao
    simp only [Crane.val] at a1 a2 a3 a4 a5 a6
    have H6 := Lib.hid a6
    clear a6
    go_enter Tryd.func135, Tryd.ntmps135
    go_wp2_with fail
    rw [← hW]
    clear hW
    obtain ⟨d0, d1, d2, d3, d4, d5, d6⟩ := Crane.blk P0
    go_wp2_with fail
    refine (isName_any _ _ hp).mono ?_; rintro _ _ ⟨rfl, rfl⟩
    go_wp2_with fail
    refine (validPlace_any _ _ _).mono ?_; rintro _ x1 ⟨rfl, h1⟩
    have B1 := B0.trans (h1.mono (by omega))
    have P1 := P0.bel h1
    have s1 := P1.lt
    clear d0 d1 d2 d3 d4 d5 d6 h1
    obtain ⟨d0, d1, d2, d3, d4, d5, d6⟩ := Crane.blk P1
    go_wp2_with fail
    refine (within_any _ _ _ _).mono ?_; rintro _ _ ⟨rfl, rfl⟩
    go_wp2_with fail
    refine (within_any _ _ _ _).mono ?_; rintro _ _ ⟨rfl, rfl⟩
    go_wp2_with fail
    refine (within_any _ _ _ _).mono ?_; rintro _ _ ⟨rfl, rfl⟩
    have HC : Hid (∀ d os, Calls Tryd.prog 171 #[.slice p.r.a p.r.n p.r.cap] (grow (redrawn x1 d) os) fun e w' => e = .returned (.bool true) ∧ Below (grow (redrawn x1 d) os).heap.size (grow (redrawn x1 d) os) w') := by
      intro d os
      have hb9 := B1.trans ((below_regrown x1 d os).mono B1.size)
      have := validChart_any p.r.a p.r.n p.r.cap p.r.xs (grow (redrawn x1 d) os) lo ((hr.below hb9).more hb9.size) hn
      rwa [H6.out] at this
    obtain ⟨m, hm⟩ : ∃ m, p.r.n = m + 1 := ⟨p.r.n - 1, by have := (chartOk_len H6.out).1; rw [hr.1] at this; omega⟩
    obtain ⟨b4, off4, s, ea, hx, _, hbl, g0, g1⟩ := ChartStep.at hr (show m < p.r.n by omega)
    have HLR : Hid (lastR p.r.xs = s.radius) := lastR_at (by rw [hr.1, hm]) hx
    have hbx : b4 < x1.heap.size := by have := B1.size; omega
    have G0 := cell_regrown ((B1.cell (p := ⟨b4, off4 + m * 2, none⟩) hbl).trans g0)
    have hm0 : (0 : Int) ≤ (m : Int) := by omega
    have hm1 : (m : Int) < ((m : Int) + 1) := by omega
    have hm2 : (m : Int) ≤ 9223372036854775807 := by omega
    have em : IntKind.i64.wrap (m : Int) = (m : Int) := IntWalk.i64_in _ ⟨by omega, by omega⟩
    rw [ea, hm] at d6 HC
    have hml : (m : Int) < (((m + 1 : Nat)) : Int) := by omega
    clear g0 g1 hx hm ea
    have t3 := cell_regrown d3
    have t4 := cell_regrown d4
    have t6 := cell_regrown d6
    clear d0 d1 d2 d3 d4 d5 d6
    have HD : Hid (decide (lastR p.val.2 ≤ p.val.1.jib) = decide (s.radius ≤ p.v.jib)) := by show _ = _; simp only [Crane.val, HLR.out]
    go_wp2
    refine wp_region_quiet_below (by kernel_rfl) (by kernel_rfl) ?_
    repeat (go_big_quiet_step (first | (go_at_call 171; exact Calls.regrown_of (HC.out _ _))))
    refine wpQuiet_nil ?_
    intro _ hw9
    obtain ⟨⟨dq, osq⟩, hw9⟩ := hw9
    subst hw9
    have hb1 := below_regrown x1 dq osq
    dsimp only at hb1 ⊢
    clear t3 t4 t6 HC G0
    generalize grow (redrawn x1 dq) osq = W2 at hb1 ⊢
    go_wp2
    go_ret
    exact ⟨by rw [HO.out, HD.out]; rfl, B1.trans (hb1.mono B1.size)⟩

set_option maxRecDepth 100000 in
set_option maxHeartbeats 3200000 in
theorem l04Ok_any (b off : Nat) (p : Crane) (w : World) (lo : Nat) (hp : p.v.name.size ≤ 9223372036854775807) (hr : Arr ChartStep.cs 2 w lo w.heap.size p.r.a p.r.n p.r.xs) (hn : p.r.n ≤ 9223372036854775807) (hbl : b < w.heap.size)
    (c0 : w.cell? ⟨b, off, none⟩ = some (.string p.v.name)) (c1 : w.cell? ⟨b, off + 1, none⟩ = some (.int .i64 p.v.ax)) (c2 : w.cell? ⟨b, off + 2, none⟩ = some (.int .i64 p.v.ay)) (c3 : w.cell? ⟨b, off + 3, none⟩ = some (.int .i64 p.v.height)) (c4 : w.cell? ⟨b, off + 4, none⟩ = some (.int .i64 p.v.jib)) (c5 : w.cell? ⟨b, off + 5, none⟩ = some (.int .i64 p.v.back)) (c6 : w.cell? ⟨b, off + 6, none⟩ = some (.slice p.r.a p.r.n p.r.cap)) :
    Calls Tryd.prog 78 #[.pointer (some ⟨b, off, none⟩)] w fun e w' => e = .returned (.bool (craneOk p.val)) ∧ Below w.heap.size w w' := by
  have B0 : Below w.heap.size w w := Below.refl _ _
  rcases craneOk_cases p.val with ⟨a1, ao⟩ | ⟨a1, a2, ao⟩ | ⟨a1, a2, a3, ao⟩ | ⟨a1, a2, a3, a4, ao⟩ | ⟨a1, a2, a3, a4, a5, ao⟩ | ⟨a1, a2, a3, a4, a5, a6, ao⟩ | ⟨a1, a2, a3, a4, a5, a6, ao⟩
  · have HO := Lib.hid ao
    clear ao
    simp only [Crane.val] at a1
    go_enter Tryd.func78, Tryd.ntmps78
    go_wp2_with fail
    refine (specName_any _ _ hp).mono ?_; rintro _ _ ⟨rfl, rfl⟩
    go_wp2
    go_ret
    exact ⟨by rw [HO.out]; rfl, B0⟩
  · have HO := Lib.hid ao
    clear ao
    simp only [Crane.val] at a1 a2
    go_enter Tryd.func78, Tryd.ntmps78
    go_wp2_with fail
    refine (specName_any _ _ hp).mono ?_; rintro _ _ ⟨rfl, rfl⟩
    go_wp2_with fail
    refine (l02Ok_any _ _ _).mono ?_; rintro _ x1 ⟨rfl, h1⟩
    have B1 := B0.trans (h1.mono (by have := B0.size; omega))
    replace c0 := (h1.cell (p := ⟨b, off, none⟩) (by have := B0.size; dsimp only; omega)).trans c0
    replace c1 := (h1.cell (p := ⟨b, off + 1, none⟩) (by have := B0.size; dsimp only; omega)).trans c1
    replace c2 := (h1.cell (p := ⟨b, off + 2, none⟩) (by have := B0.size; dsimp only; omega)).trans c2
    replace c3 := (h1.cell (p := ⟨b, off + 3, none⟩) (by have := B0.size; dsimp only; omega)).trans c3
    replace c4 := (h1.cell (p := ⟨b, off + 4, none⟩) (by have := B0.size; dsimp only; omega)).trans c4
    replace c5 := (h1.cell (p := ⟨b, off + 5, none⟩) (by have := B0.size; dsimp only; omega)).trans c5
    replace c6 := (h1.cell (p := ⟨b, off + 6, none⟩) (by have := B0.size; dsimp only; omega)).trans c6
    clear h1
    go_wp2
    go_ret
    exact ⟨by rw [HO.out]; rfl, B1⟩
  · have HO := Lib.hid ao
    clear ao
    simp only [Crane.val] at a1 a2 a3
    go_enter Tryd.func78, Tryd.ntmps78
    go_wp2_with fail
    refine (specName_any _ _ hp).mono ?_; rintro _ _ ⟨rfl, rfl⟩
    go_wp2_with fail
    refine (l02Ok_any _ _ _).mono ?_; rintro _ x1 ⟨rfl, h1⟩
    have B1 := B0.trans (h1.mono (by have := B0.size; omega))
    replace c0 := (h1.cell (p := ⟨b, off, none⟩) (by have := B0.size; dsimp only; omega)).trans c0
    replace c1 := (h1.cell (p := ⟨b, off + 1, none⟩) (by have := B0.size; dsimp only; omega)).trans c1
    replace c2 := (h1.cell (p := ⟨b, off + 2, none⟩) (by have := B0.size; dsimp only; omega)).trans c2
    replace c3 := (h1.cell (p := ⟨b, off + 3, none⟩) (by have := B0.size; dsimp only; omega)).trans c3
    replace c4 := (h1.cell (p := ⟨b, off + 4, none⟩) (by have := B0.size; dsimp only; omega)).trans c4
    replace c5 := (h1.cell (p := ⟨b, off + 5, none⟩) (by have := B0.size; dsimp only; omega)).trans c5
    replace c6 := (h1.cell (p := ⟨b, off + 6, none⟩) (by have := B0.size; dsimp only; omega)).trans c6
    clear h1
    go_wp2_with fail
    refine (l00In_any _ _ _ _).mono ?_; rintro _ _ ⟨rfl, rfl⟩
    go_wp2
    go_ret
    exact ⟨by rw [HO.out]; rfl, B1⟩
  · have HO := Lib.hid ao
    clear ao
    simp only [Crane.val] at a1 a2 a3 a4
    go_enter Tryd.func78, Tryd.ntmps78
    go_wp2_with fail
    refine (specName_any _ _ hp).mono ?_; rintro _ _ ⟨rfl, rfl⟩
    go_wp2_with fail
    refine (l02Ok_any _ _ _).mono ?_; rintro _ x1 ⟨rfl, h1⟩
    have B1 := B0.trans (h1.mono (by have := B0.size; omega))
    replace c0 := (h1.cell (p := ⟨b, off, none⟩) (by have := B0.size; dsimp only; omega)).trans c0
    replace c1 := (h1.cell (p := ⟨b, off + 1, none⟩) (by have := B0.size; dsimp only; omega)).trans c1
    replace c2 := (h1.cell (p := ⟨b, off + 2, none⟩) (by have := B0.size; dsimp only; omega)).trans c2
    replace c3 := (h1.cell (p := ⟨b, off + 3, none⟩) (by have := B0.size; dsimp only; omega)).trans c3
    replace c4 := (h1.cell (p := ⟨b, off + 4, none⟩) (by have := B0.size; dsimp only; omega)).trans c4
    replace c5 := (h1.cell (p := ⟨b, off + 5, none⟩) (by have := B0.size; dsimp only; omega)).trans c5
    replace c6 := (h1.cell (p := ⟨b, off + 6, none⟩) (by have := B0.size; dsimp only; omega)).trans c6
    clear h1
    go_wp2_with fail
    refine (l00In_any _ _ _ _).mono ?_; rintro _ _ ⟨rfl, rfl⟩
    go_wp2_with fail
    refine (l00In_any _ _ _ _).mono ?_; rintro _ _ ⟨rfl, rfl⟩
    go_wp2
    go_ret
    exact ⟨by rw [HO.out]; rfl, B1⟩
  · have HO := Lib.hid ao
    clear ao
    simp only [Crane.val] at a1 a2 a3 a4 a5
    go_enter Tryd.func78, Tryd.ntmps78
    go_wp2_with fail
    refine (specName_any _ _ hp).mono ?_; rintro _ _ ⟨rfl, rfl⟩
    go_wp2_with fail
    refine (l02Ok_any _ _ _).mono ?_; rintro _ x1 ⟨rfl, h1⟩
    have B1 := B0.trans (h1.mono (by have := B0.size; omega))
    replace c0 := (h1.cell (p := ⟨b, off, none⟩) (by have := B0.size; dsimp only; omega)).trans c0
    replace c1 := (h1.cell (p := ⟨b, off + 1, none⟩) (by have := B0.size; dsimp only; omega)).trans c1
    replace c2 := (h1.cell (p := ⟨b, off + 2, none⟩) (by have := B0.size; dsimp only; omega)).trans c2
    replace c3 := (h1.cell (p := ⟨b, off + 3, none⟩) (by have := B0.size; dsimp only; omega)).trans c3
    replace c4 := (h1.cell (p := ⟨b, off + 4, none⟩) (by have := B0.size; dsimp only; omega)).trans c4
    replace c5 := (h1.cell (p := ⟨b, off + 5, none⟩) (by have := B0.size; dsimp only; omega)).trans c5
    replace c6 := (h1.cell (p := ⟨b, off + 6, none⟩) (by have := B0.size; dsimp only; omega)).trans c6
    clear h1
    go_wp2_with fail
    refine (l00In_any _ _ _ _).mono ?_; rintro _ _ ⟨rfl, rfl⟩
    go_wp2_with fail
    refine (l00In_any _ _ _ _).mono ?_; rintro _ _ ⟨rfl, rfl⟩
    go_wp2_with fail
    go_wp2
    go_quiet ((first | (go_at_call 85; exact quiet_left (in_eq _ _ _ _ a5))))
    go_wp2
    go_ret
    exact ⟨by rw [HO.out]; rfl, bel_drewN B1 _⟩
  · have HO := Lib.hid ao
    clear ao
    simp only [Crane.val] at a1 a2 a3 a4 a5 a6
    have H6 := Lib.hid a6
    clear a6
    go_enter Tryd.func78, Tryd.ntmps78
    go_wp2_with fail
    refine (specName_any _ _ hp).mono ?_; rintro _ _ ⟨rfl, rfl⟩
    go_wp2_with fail
    refine (l02Ok_any _ _ _).mono ?_; rintro _ x1 ⟨rfl, h1⟩
    have B1 := B0.trans (h1.mono (by have := B0.size; omega))
    replace c0 := (h1.cell (p := ⟨b, off, none⟩) (by have := B0.size; dsimp only; omega)).trans c0
    replace c1 := (h1.cell (p := ⟨b, off + 1, none⟩) (by have := B0.size; dsimp only; omega)).trans c1
    replace c2 := (h1.cell (p := ⟨b, off + 2, none⟩) (by have := B0.size; dsimp only; omega)).trans c2
    replace c3 := (h1.cell (p := ⟨b, off + 3, none⟩) (by have := B0.size; dsimp only; omega)).trans c3
    replace c4 := (h1.cell (p := ⟨b, off + 4, none⟩) (by have := B0.size; dsimp only; omega)).trans c4
    replace c5 := (h1.cell (p := ⟨b, off + 5, none⟩) (by have := B0.size; dsimp only; omega)).trans c5
    replace c6 := (h1.cell (p := ⟨b, off + 6, none⟩) (by have := B0.size; dsimp only; omega)).trans c6
    clear h1
    go_wp2_with fail
    refine (l00In_any _ _ _ _).mono ?_; rintro _ _ ⟨rfl, rfl⟩
    go_wp2_with fail
    refine (l00In_any _ _ _ _).mono ?_; rintro _ _ ⟨rfl, rfl⟩
    go_wp2_with fail
    have HC : Hid (∀ N, Calls Tryd.prog 140 #[.slice p.r.a p.r.n p.r.cap] (x1.drewN N) (Quiet (.bool false) (x1.drewN N))) := by
      intro N
      have hb9 := bel_drewN B1 N
      have := l03Ok_any p.r.a p.r.n p.r.cap p.r.xs (x1.drewN N) lo ((hr.below hb9).more hb9.size) hn
      rwa [H6.out] at this
    go_wp2
    go_quiet ((first | (go_at_call 85; exact quiet_left (in_eq _ _ _ _ a5)) | (go_at_call 140; exact quiet_of (HC.out _))))
    go_wp2
    go_ret
    exact ⟨by rw [HO.out]; rfl, bel_drewN B1 _⟩
  · have HO := Lib.hid ao
    clear ao
    simp only [Crane.val] at a1 a2 a3 a4 a5 a6
    have H6 := Lib.hid a6
    clear a6
    go_enter Tryd.func78, Tryd.ntmps78
    go_wp2_with fail
    refine (specName_any _ _ hp).mono ?_; rintro _ _ ⟨rfl, rfl⟩
    go_wp2_with fail
    refine (l02Ok_any _ _ _).mono ?_; rintro _ x1 ⟨rfl, h1⟩
    have B1 := B0.trans (h1.mono (by have := B0.size; omega))
    replace c0 := (h1.cell (p := ⟨b, off, none⟩) (by have := B0.size; dsimp only; omega)).trans c0
    replace c1 := (h1.cell (p := ⟨b, off + 1, none⟩) (by have := B0.size; dsimp only; omega)).trans c1
    replace c2 := (h1.cell (p := ⟨b, off + 2, none⟩) (by have := B0.size; dsimp only; omega)).trans c2
    replace c3 := (h1.cell (p := ⟨b, off + 3, none⟩) (by have := B0.size; dsimp only; omega)).trans c3
    replace c4 := (h1.cell (p := ⟨b, off + 4, none⟩) (by have := B0.size; dsimp only; omega)).trans c4
    replace c5 := (h1.cell (p := ⟨b, off + 5, none⟩) (by have := B0.size; dsimp only; omega)).trans c5
    replace c6 := (h1.cell (p := ⟨b, off + 6, none⟩) (by have := B0.size; dsimp only; omega)).trans c6
    clear h1
    go_wp2_with fail
    refine (l00In_any _ _ _ _).mono ?_; rintro _ _ ⟨rfl, rfl⟩
    go_wp2_with fail
    refine (l00In_any _ _ _ _).mono ?_; rintro _ _ ⟨rfl, rfl⟩
    go_wp2_with fail
    have HC : Hid (∀ N, Calls Tryd.prog 140 #[.slice p.r.a p.r.n p.r.cap] (x1.drewN N) (Quiet (.bool true) (x1.drewN N))) := by
      intro N
      have hb9 := bel_drewN B1 N
      have := l03Ok_any p.r.a p.r.n p.r.cap p.r.xs (x1.drewN N) lo ((hr.below hb9).more hb9.size) hn
      rwa [H6.out] at this
    have HT : Hid (∀ N, Calls Tryd.prog 141 #[.slice p.r.a p.r.n p.r.cap] (x1.drewN N) fun e w' => e = .returned (.int .i64 (lastR p.r.xs)) ∧ x1.drewN N = w') := by
      intro N
      have hb9 := bel_drewN B1 N
      exact l03Last_any p.r.a p.r.n p.r.cap p.r.xs (x1.drewN N) lo _ ((hr.below hb9).more hb9.size) (by have := (chartOk_len H6.out).1; rw [hr.1] at this; omega) hn
    go_wp2
    go_quiet ((first | (go_at_call 85; exact quiet_left (in_eq _ _ _ _ a5)) | (go_at_call 140; exact quiet_of (HC.out _)) | (go_at_call 141; exact quiet_left (HT.out _))))
    go_wp2
    go_ret
    exact ⟨by rw [HO.out]; rfl, bel_drewN B1 _⟩
end Go.Proofs.YtencnldflnbdiaaDoor
