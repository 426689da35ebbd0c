/- ValidZone of the program: zoneOk. -/
import Derived.Test.YtencnldflnbdiaaZone9
namespace Go.Proofs.Ytencnldflnbdiaa
open Go.RowKit Go.Sort
set_option linter.unusedVariables false

theorem within5_eq (n a b : Int) (w : World) {v : Bool} (h : inB n a b = v) : Calls Try.prog 61 #[.int .i64 n, .int .i64 a, .int .i64 b] w fun e w' => e = .returned (.bool v) ∧ w = w' := by subst h; exact within_any n a b w
set_option maxRecDepth 100000 in
set_option maxHeartbeats 3200000 in
theorem validZone_any (z : Zone) (w : World) (lo : Nat) (h : Arr Pnt.cs 2 w lo w.heap.size z.r.a z.r.n z.r.xs) (hn : z.r.n ≤ 1048576) :
    Calls Try.prog 53 #[.agg #[.int .i64 z.v.kind, .int .i64 z.v.storeys, .int .i64 z.v.each, .slice z.r.a z.r.n z.r.cap]] w fun e w' => e = .returned (.bool (zoneOk z.val)) ∧ Below w.heap.size w w' := by
  have HO : Hid (zoneOk z.val = (zHd z.v && shapeB z.r.xs)) := rfl
  have HHD : Hid (zHd z.v = if z.v.kind = 1 then bldB z.v else (decide (z.v.kind = 2) || decide (z.v.kind = 3)) && nilB z.v) := rfl
  have HBL : Hid (bldB z.v = (inB z.v.storeys 1 60 && (inB z.v.each 20 60 && decide (z.v.storeys * z.v.each ≤ 2000)))) := rfl
  have HNL : Hid (nilB z.v = (decide (z.v.storeys = 0) && decide (z.v.each = 0))) := rfl
  have HSH := Lib.hid (fun (W : World) (h2 : Arr Pnt.cs 2 W lo W.heap.size z.r.a z.r.n z.r.xs) => shapeOk_any z W lo h2 hn)
  obtain ⟨⟨kind, storeys, each⟩, ⟨A, n, c, cs⟩⟩ := z
  dsimp only at *
  obtain ⟨W, hW⟩ : ∃ W : World, W = w.alloc (.cells #[.int .i64 kind, .int .i64 storeys, .int .i64 each, .slice A n c] 48) := ⟨_, rfl⟩
  have B0 : Below w.heap.size w W := by rw [hW]; exact (Below.refl _ _).alloc (Nat.le_refl _) _
  have HA := Lib.hid ((h.below B0).more B0.size)
  have HB0 := Lib.hid B0
  clear h B0
  have HHD2 : Hid (zHd ⟨kind, storeys, each⟩ = if kind = 1 then bldB ⟨kind, storeys, each⟩ else (decide (kind = 2) || decide (kind = 3)) && nilB ⟨kind, storeys, each⟩) := HHD.out
  clear HHD
  generalize shapeB cs = SB at *
  by_cases e1 : kind = 1
  · have HB2 : Hid (zHd ⟨kind, storeys, each⟩ = (inB storeys 1 60 && (inB each 20 60 && decide (storeys * each ≤ 2000)))) := by show _ = _; rw [HHD2.out, if_pos e1]; exact HBL.out
    subst e1
    cases f1 : inB storeys 1 60
    · have HE : Hid (zoneOk (Zone.val ⟨⟨1, storeys, each⟩, ⟨A, n, c, cs⟩⟩) = false) := by show _ = _; rw [HO.out, HB2.out, f1]; rfl
      have F1 := Lib.hid f1
      clear f1
      go_enter Try.func53, Try.ntmps53
      go_wp2_with fail
      refine (within5_eq _ _ _ _ F1.out).mono ?_
      rintro _ _ ⟨rfl, rfl⟩
      go_wp2
      go_ret
      rw [← hW]
      exact ⟨by rw [HE.out]; rfl, HB0.out⟩
    · cases f2 : inB each 20 60
      · have HE : Hid (zoneOk (Zone.val ⟨⟨1, storeys, each⟩, ⟨A, n, c, cs⟩⟩) = false) := by show _ = _; rw [HO.out, HB2.out, f2]; simp
        have F1 := Lib.hid f1
        have F2 := Lib.hid f2
        clear f1 f2
        go_enter Try.func53, Try.ntmps53
        go_wp2_with fail
        refine (within5_eq _ _ _ _ F1.out).mono ?_
        rintro _ _ ⟨rfl, rfl⟩
        go_wp2_with fail
        refine (within5_eq _ _ _ _ F2.out).mono ?_
        rintro _ _ ⟨rfl, rfl⟩
        go_wp2
        go_ret
        rw [← hW]
        exact ⟨by rw [HE.out]; rfl, HB0.out⟩
      · have g1 := inB_true.1 f1
        have g2 := inB_true.1 f2
        have g3 : 0 ≤ storeys * each := Int.mul_nonneg (by omega) (by omega)
        have g4 : storeys * each ≤ 3600 := Int.mul_le_mul (c := 60) (d := 60) g1.2 g2.2 (by omega) (by omega)
        have HB3 : Hid (zHd ⟨1, storeys, each⟩ = decide (storeys * each ≤ 2000)) := by show _ = _; rw [HB2.out, f1, f2]; rfl
        have F1 := Lib.hid f1
        have F2 := Lib.hid f2
        clear f1 f2 g1 g2
        by_cases f3 : 2000 < storeys * each
        · have HE : Hid (zoneOk (Zone.val ⟨⟨1, storeys, each⟩, ⟨A, n, c, cs⟩⟩) = false) := by show _ = _; rw [HO.out, HB3.out, decide_eq_false (by omega)]; rfl
          go_enter Try.func53, Try.ntmps53
          go_wp2_with fail
          refine (within5_eq _ _ _ _ F1.out).mono ?_
          rintro _ _ ⟨rfl, rfl⟩
          go_wp2_with fail
          refine (within5_eq _ _ _ _ F2.out).mono ?_
          rintro _ _ ⟨rfl, rfl⟩
          go_wp2
          go_ret
          rw [← hW]
          exact ⟨by rw [HE.out]; rfl, HB0.out⟩
        · have HE : Hid (zoneOk (Zone.val ⟨⟨1, storeys, each⟩, ⟨A, n, c, cs⟩⟩) = SB) := by show _ = _; rw [HO.out, HB3.out, decide_eq_true (by omega)]; rfl
          go_enter Try.func53, Try.ntmps53
          go_wp2_with fail
          refine (within5_eq _ _ _ _ F1.out).mono ?_
          rintro _ _ ⟨rfl, rfl⟩
          go_wp2_with fail
          refine (within5_eq _ _ _ _ F2.out).mono ?_
          rintro _ _ ⟨rfl, rfl⟩
          go_wp2_with fail
          rw [← hW]
          refine (HSH.out W HA.out).mono ?_
          rintro e w1 ⟨rfl, hb1⟩
          go_wp2
          go_ret
          exact ⟨by rw [HE.out]; rfl, HB0.out.trans (hb1.mono HB0.out.size)⟩
  · have E1 : Hid ((kind == 1) = false) := beq_eq_false_iff_ne.2 e1
    have HB2 : Hid (zHd ⟨kind, storeys, each⟩ = ((decide (kind = 2) || decide (kind = 3)) && nilB ⟨kind, storeys, each⟩)) := by show _ = _; rw [HHD2.out, if_neg e1]
    have key : ∀ (k2 : Bool), ((kind == 2) = k2) → (k2 = false → (kind == 3) = true) → Calls Try.prog 53 #[.agg #[.int .i64 kind, .int .i64 storeys, .int .i64 each, .slice A n c]] w fun e w' => e = .returned (.bool (zoneOk (Zone.val ⟨⟨kind, storeys, each⟩, ⟨A, n, c, cs⟩⟩))) ∧ Below w.heap.size w w' := by
      intro k2 h2 h3
      have HB3 : Hid (zHd ⟨kind, storeys, each⟩ = (decide (storeys = 0) && decide (each = 0))) := by
        show _ = _
        rw [HB2.out, HNL.out]
        cases k2
        · rw [decide_eq_true (show kind = 3 from by simpa using h3 rfl)]; simp
        · rw [decide_eq_true (show kind = 2 from by simpa using h2)]; simp
      clear e1
      have H2 := Lib.hid h2
      have H3 := Lib.hid h3
      clear h2 h3
      by_cases s0 : storeys = 0
      · have S0 : Hid ((storeys != 0) = false) := by show _ = _; simp [s0]
        by_cases c0 : each = 0
        · have C0 : Hid ((each != 0) = false) := by show _ = _; simp [c0]
          have HE : Hid (zoneOk (Zone.val ⟨⟨kind, storeys, each⟩, ⟨A, n, c, cs⟩⟩) = SB) := by show _ = _; rw [HO.out, HB3.out, decide_eq_true s0, decide_eq_true c0]; rfl
          clear s0 c0
          have e1' := E1.out
          have s' := S0.out
          have c' := C0.out
          cases k2
          · have k2' := H2.out
            have k3' := H3.out rfl
            go_enter Try.func53, Try.ntmps53
            go_wp2_with fail
            rw [← hW]
            refine (HSH.out W HA.out).mono ?_
            rintro e w1 ⟨rfl, hb1⟩
            go_wp2
            go_ret
            exact ⟨by rw [HE.out]; rfl, HB0.out.trans (hb1.mono HB0.out.size)⟩
          · have k2' := H2.out
            go_enter Try.func53, Try.ntmps53
            go_wp2_with fail
            rw [← hW]
            refine (HSH.out W HA.out).mono ?_
            rintro e w1 ⟨rfl, hb1⟩
            go_wp2
            go_ret
            exact ⟨by rw [HE.out]; rfl, HB0.out.trans (hb1.mono HB0.out.size)⟩
        · have C0 : Hid ((each != 0) = true) := bne_iff_ne.2 c0
          have HE : Hid (zoneOk (Zone.val ⟨⟨kind, storeys, each⟩, ⟨A, n, c, cs⟩⟩) = false) := by show _ = _; rw [HO.out, HB3.out, decide_eq_false c0, Bool.and_false]; rfl
          clear s0 c0
          have e1' := E1.out
          have s' := S0.out
          have c' := C0.out
          cases k2
          · have k2' := H2.out
            have k3' := H3.out rfl
            go_enter Try.func53, Try.ntmps53
            go_wp2
            go_ret
            rw [← hW]
            exact ⟨by rw [HE.out]; rfl, HB0.out⟩
          · have k2' := H2.out
            go_enter Try.func53, Try.ntmps53
            go_wp2
            go_ret
            rw [← hW]
            exact ⟨by rw [HE.out]; rfl, HB0.out⟩
      · have S0 : Hid ((storeys != 0) = true) := bne_iff_ne.2 s0
        have HE : Hid (zoneOk (Zone.val ⟨⟨kind, storeys, each⟩, ⟨A, n, c, cs⟩⟩) = false) := by show _ = _; rw [HO.out, HB3.out, decide_eq_false s0, Bool.false_and]; rfl
        clear s0
        have e1' := E1.out
        have s' := S0.out
        cases k2
        · have k2' := H2.out
          have k3' := H3.out rfl
          go_enter Try.func53, Try.ntmps53
          go_wp2
          go_ret
          rw [← hW]
          exact ⟨by rw [HE.out]; rfl, HB0.out⟩
        · have k2' := H2.out
          go_enter Try.func53, Try.ntmps53
          go_wp2
          go_ret
          rw [← hW]
          exact ⟨by rw [HE.out]; rfl, HB0.out⟩
    by_cases e2 : kind = 2
    · exact key true (by simp [e2]) (fun h9 => by cases h9)
    · by_cases e3 : kind = 3
      · exact key false (beq_eq_false_iff_ne.2 e2) (fun _ => by simp [e3])
      · have HE : Hid (zoneOk (Zone.val ⟨⟨kind, storeys, each⟩, ⟨A, n, c, cs⟩⟩) = false) := by show _ = _; rw [HO.out, HB2.out, decide_eq_false e2, decide_eq_false e3]; rfl
        have E2 : Hid ((kind == 2) = false) := beq_eq_false_iff_ne.2 e2
        have E3 : Hid ((kind == 3) = false) := beq_eq_false_iff_ne.2 e3
        clear e1 e2 e3 key
        have e1' := E1.out
        have e2' := E2.out
        have e3' := E3.out
        go_enter Try.func53, Try.ntmps53
        go_wp2
        go_ret
        rw [← hW]
        exact ⟨by rw [HE.out]; rfl, HB0.out⟩
end Go.Proofs.Ytencnldflnbdiaa
