/- l05Lines of the reference: linesB. -/
import Derived.Test.YtencnldflnbdiaaZone4
namespace Go.Proofs.Ytencnldflnbdiaa
open Go.RowKit Go.Sort
set_option linter.unusedVariables false

/-- four points lie in boxes from block G on -/
structure Four (w0 : World) (G : Nat) (a b c d : Pnt) (w : World) : Prop where
  bel : Below w0.heap.size w0 w
  gt : w0.heap.size ≤ G
  pa : Blk w G 50 #[.int .i64 a.x, .int .i64 a.y]
  pb : Blk w (G + 1) 50 #[.int .i64 b.x, .int .i64 b.y]
  pc : Blk w (G + 1 + 1) 50 #[.int .i64 c.x, .int .i64 c.y]
  pd : Blk w (G + 1 + 1 + 1) 50 #[.int .i64 d.x, .int .i64 d.y]
theorem Four.next {w0 w1 w2 : World} {G : Nat} {a b c d : Pnt} (hb : Below w1.heap.size w1 w2) (h : Four w0 G a b c d w1) : Four w0 G a b c d w2 :=
  ⟨h.bel.trans (hb.mono h.bel.size), h.gt, h.pa.bel hb, h.pb.bel hb, h.pc.bel hb, h.pd.bel hb⟩
theorem box5_eq (a b c : Pnt) (w : World) {v : Bool} (h : boxB a b c = v) : Calls Try.prog 113 #[.agg #[.int .i64 a.x, .int .i64 a.y], .agg #[.int .i64 b.x, .int .i64 b.y], .agg #[.int .i64 c.x, .int .i64 c.y]] w fun e w' => e = .returned (.bool v) ∧ Below w.heap.size w w' := by subst h; exact l05Box_any a b c w
theorem sgn_bd (n : Int) : -1 ≤ sgn n ∧ sgn n ≤ 1 := by unfold sgn; split <;> (try split) <;> omega
theorem sgn_mul (m n : Int) : -1 ≤ sgn m * sgn n ∧ sgn m * sgn n ≤ 1 := by
  unfold sgn; split <;> split <;> (try split) <;> (try split) <;> decide
set_option maxRecDepth 100000 in
set_option maxHeartbeats 25600000 in
theorem l05Lines_any (a b c d : Pnt) (w : World) (ha : plcB a.x a.y = true) (hb : plcB b.x b.y = true) (hc : plcB c.x c.y = true) (hd : plcB d.x d.y = true) :
    Calls Try.prog 82 #[.agg #[.int .i64 a.x, .int .i64 a.y], .agg #[.int .i64 b.x, .int .i64 b.y], .agg #[.int .i64 c.x, .int .i64 c.y], .agg #[.int .i64 d.x, .int .i64 d.y]] w fun e w' => e = .returned (.bool (linesB a b c d)) ∧ Below w.heap.size w w' := by
  obtain ⟨W, hW⟩ : ∃ W : World, W = (((w.alloc (.cells #[.int .i64 a.x, .int .i64 a.y] 50)).alloc (.cells #[.int .i64 b.x, .int .i64 b.y] 50)).alloc (.cells #[.int .i64 c.x, .int .i64 c.y] 50)).alloc (.cells #[.int .i64 d.x, .int .i64 d.y] 50) := ⟨_, rfl⟩
  have HF : Four w w.heap.size a b c d W := by
    rw [hW]
    exact ⟨((((Below.refl _ _).alloc (Nat.le_refl _) _).alloc (by simp) _).alloc (by simp; omega) _).alloc (by simp; omega) _, Nat.le_refl _, (((Blk.new _ _ _).alloc _).alloc _).alloc _, ((Blk.new_at rfl (by simp)).alloc _).alloc _, (Blk.new_at rfl (by simp)).alloc _, Blk.new_at rfl (by simp)⟩
  have HL : Hid (linesB a b c d = ((decide (sgn (crs a b c) * sgn (crs a b d) < 0) && decide (sgn (crs c d a) * sgn (crs c d b) < 0)) || (decide (sgn (crs a b c) = 0) && boxB a b c) || (decide (sgn (crs a b d) = 0) && boxB a b d) || (decide (sgn (crs c d a) = 0) && boxB c d a) || (decide (sgn (crs c d b) = 0) && boxB c d b))) := rfl
  have X1 : Hid (∀ W, Calls Try.prog 111 #[.agg #[.int .i64 a.x, .int .i64 a.y], .agg #[.int .i64 b.x, .int .i64 b.y], .agg #[.int .i64 c.x, .int .i64 c.y]] W fun e w' => e = .returned (.int .i64 (crs a b c)) ∧ Below W.heap.size W w') := fun W => l05Cross_any a b c W ha hb hc
  have X2 : Hid (∀ W, Calls Try.prog 111 #[.agg #[.int .i64 a.x, .int .i64 a.y], .agg #[.int .i64 b.x, .int .i64 b.y], .agg #[.int .i64 d.x, .int .i64 d.y]] W fun e w' => e = .returned (.int .i64 (crs a b d)) ∧ Below W.heap.size W w') := fun W => l05Cross_any a b d W ha hb hd
  have X3 : Hid (∀ W, Calls Try.prog 111 #[.agg #[.int .i64 c.x, .int .i64 c.y], .agg #[.int .i64 d.x, .int .i64 d.y], .agg #[.int .i64 a.x, .int .i64 a.y]] W fun e w' => e = .returned (.int .i64 (crs c d a)) ∧ Below W.heap.size W w') := fun W => l05Cross_any c d a W hc hd ha
  have X4 : Hid (∀ W, Calls Try.prog 111 #[.agg #[.int .i64 c.x, .int .i64 c.y], .agg #[.int .i64 d.x, .int .i64 d.y], .agg #[.int .i64 b.x, .int .i64 b.y]] W fun e w' => e = .returned (.int .i64 (crs c d b)) ∧ Below W.heap.size W w') := fun W => l05Cross_any c d b W hc hd hb
  clear ha hb hc hd
  generalize crs a b c = s1 at *
  generalize crs a b d = s2 at *
  generalize crs c d a = s3 at *
  generalize crs c d b = s4 at *
  have M1 := Lib.hid (sgn_mul s1 s2)
  have M2 := Lib.hid (sgn_mul s3 s4)
  have S1 := Lib.hid (fun W => l05Sign_any s1 W)
  have S2 := Lib.hid (fun W => l05Sign_any s2 W)
  have S3 := Lib.hid (fun W => l05Sign_any s3 W)
  have S4 := Lib.hid (fun W => l05Sign_any s4 W)
  generalize sgn s1 = t1 at *
  generalize sgn s2 = t2 at *
  generalize sgn s3 = t3 at *
  generalize sgn s4 = t4 at *
  go_enter Try.func82, Try.ntmps82
  go_wp2_with fail
  rw [← hW]
  clear hW
  obtain ⟨a0, a1⟩ := Pnt.blk HF.pa
  obtain ⟨b0, b1⟩ := Pnt.blk HF.pb
  obtain ⟨c0, c1⟩ := Pnt.blk HF.pc
  obtain ⟨d0, d1⟩ := Pnt.blk HF.pd
  have HF0 := Lib.hid HF
  clear HF
  go_wp2_with fail
  refine (X1.out _).mono ?_
  rintro e w1 ⟨rfl, hb1⟩
  have HF1 := Lib.hid (Four.next hb1 HF0.out)
  clear a0 a1 b0 b1 c0 c1 d0 d1 hb1
  obtain ⟨a0, a1⟩ := Pnt.blk HF1.out.pa
  obtain ⟨b0, b1⟩ := Pnt.blk HF1.out.pb
  obtain ⟨c0, c1⟩ := Pnt.blk HF1.out.pc
  obtain ⟨d0, d1⟩ := Pnt.blk HF1.out.pd
  go_wp2_with fail
  refine (S1.out _).mono ?_
  rintro _ _ ⟨rfl, rfl⟩
  go_wp2_with fail
  refine (X2.out _).mono ?_
  rintro e w2 ⟨rfl, hb2⟩
  have HF2 := Lib.hid (Four.next hb2 HF1.out)
  clear a0 a1 b0 b1 c0 c1 d0 d1 hb2
  obtain ⟨a0, a1⟩ := Pnt.blk HF2.out.pa
  obtain ⟨b0, b1⟩ := Pnt.blk HF2.out.pb
  obtain ⟨c0, c1⟩ := Pnt.blk HF2.out.pc
  obtain ⟨d0, d1⟩ := Pnt.blk HF2.out.pd
  go_wp2_with fail
  refine (S2.out _).mono ?_
  rintro _ _ ⟨rfl, rfl⟩
  go_wp2_with fail
  refine (X3.out _).mono ?_
  rintro e w3 ⟨rfl, hb3⟩
  have HF3 := Lib.hid (Four.next hb3 HF2.out)
  clear a0 a1 b0 b1 c0 c1 d0 d1 hb3
  obtain ⟨a0, a1⟩ := Pnt.blk HF3.out.pa
  obtain ⟨b0, b1⟩ := Pnt.blk HF3.out.pb
  obtain ⟨c0, c1⟩ := Pnt.blk HF3.out.pc
  obtain ⟨d0, d1⟩ := Pnt.blk HF3.out.pd
  go_wp2_with fail
  refine (S3.out _).mono ?_
  rintro _ _ ⟨rfl, rfl⟩
  go_wp2_with fail
  refine (X4.out _).mono ?_
  rintro e w4 ⟨rfl, hb4⟩
  have HF4 := Lib.hid (Four.next hb4 HF3.out)
  clear a0 a1 b0 b1 c0 c1 d0 d1 hb4
  obtain ⟨a0, a1⟩ := Pnt.blk HF4.out.pa
  obtain ⟨b0, b1⟩ := Pnt.blk HF4.out.pb
  obtain ⟨c0, c1⟩ := Pnt.blk HF4.out.pc
  obtain ⟨d0, d1⟩ := Pnt.blk HF4.out.pd
  go_wp2_with fail
  refine (S4.out _).mono ?_
  rintro _ _ ⟨rfl, rfl⟩
  clear X1 X2 X3 X4 S1 S2 S3 S4 HF0 HF1 HF2 HF3
  have hm1 := M1.out
  have hm2 := M2.out
  have HBB : Hid (Below w.heap.size w w4) := HF4.out.bel
  generalize hβ1 : boxB a b c = β1 at *
  generalize hβ2 : boxB a b d = β2 at *
  generalize hβ3 : boxB c d a = β3 at *
  generalize hβ4 : boxB c d b = β4 at *
  have HX1 := Lib.hid hβ1
  have HX2 := Lib.hid hβ2
  have HX3 := Lib.hid hβ3
  have HX4 := Lib.hid hβ4
  clear hβ1 hβ2 hβ3 hβ4
  have D1 : (t1 = 0 ∧ β1 = true) ∨ (t1 = 0 ∧ β1 = false) ∨ ¬ t1 = 0 := by cases β1 <;> simp <;> omega
  have D2 : (t2 = 0 ∧ β2 = true) ∨ (t2 = 0 ∧ β2 = false) ∨ ¬ t2 = 0 := by cases β2 <;> simp <;> omega
  have D3 : (t3 = 0 ∧ β3 = true) ∨ (t3 = 0 ∧ β3 = false) ∨ ¬ t3 = 0 := by cases β3 <;> simp <;> omega
  have D4 : (t4 = 0 ∧ β4 = true) ∨ (t4 = 0 ∧ β4 = false) ∨ ¬ t4 = 0 := by cases β4 <;> simp <;> omega
  by_cases hP : t1 * t2 < 0
  · by_cases hR : t3 * t4 < 0
    · have HE : Hid (linesB a b c d = true) := by show _ = _; rw [HL.out]; simp [hP, hR]
      clear D1 D2 D3 D4
      go_wp2
      go_ret
      exact ⟨by rw [HE.out]; rfl, HF4.out.bel⟩
    · have n1 : ¬ t1 = 0 := by rintro rfl; simp at hP
      have n2 : ¬ t2 = 0 := by rintro rfl; simp at hP
      rcases D3 with ⟨z3, q3⟩ | ⟨z3, q3⟩ | z3
      · have HE : Hid (linesB a b c d = true) := by show _ = _; rw [HL.out]; simp [hP, z3, q3, n1, n2]
        have E3 : Hid ((t3 == 0) = true) := by show _ = _; simp [z3]
        have Y3 := Lib.hid (HX3.out.trans q3)
        have E1 : Hid ((t1 == 0) = false) := by show _ = _; simp [n1]
        have E2 : Hid ((t2 == 0) = false) := by show _ = _; simp [n2]
        clear n1 n2
        clear z3 q3
        clear D1 D2 D4
        have e1 := E1.out
        have e2 := E2.out
        have e3 := E3.out
        go_wp2_with fail
        refine (box5_eq c d a _ Y3.out).mono ?_
        rintro e v3 ⟨rfl, hv3⟩
        have HG3 := Lib.hid (Four.next hv3 HF4.out)
        clear a0 a1 b0 b1 c0 c1 d0 d1 hv3
        obtain ⟨a0, a1⟩ := Pnt.blk HG3.out.pa
        obtain ⟨b0, b1⟩ := Pnt.blk HG3.out.pb
        obtain ⟨c0, c1⟩ := Pnt.blk HG3.out.pc
        obtain ⟨d0, d1⟩ := Pnt.blk HG3.out.pd
        go_wp2
        go_ret
        exact ⟨by rw [HE.out]; rfl, HG3.out.bel⟩
      · rcases D4 with ⟨z4, q4⟩ | ⟨z4, q4⟩ | z4
        · have HE : Hid (linesB a b c d = true) := by show _ = _; rw [HL.out]; simp [hP, z3, z4, q3, q4, n1, n2]
          have E3 : Hid ((t3 == 0) = true) := by show _ = _; simp [z3]
          have Y3 := Lib.hid (HX3.out.trans q3)
          have E4 : Hid ((t4 == 0) = true) := by show _ = _; simp [z4]
          have Y4 := Lib.hid (HX4.out.trans q4)
          have E1 : Hid ((t1 == 0) = false) := by show _ = _; simp [n1]
          have E2 : Hid ((t2 == 0) = false) := by show _ = _; simp [n2]
          clear n1 n2
          clear z3 z4 q3 q4
          clear D1 D2
          have e1 := E1.out
          have e2 := E2.out
          have e3 := E3.out
          have e4 := E4.out
          go_wp2_with fail
          refine (box5_eq c d a _ Y3.out).mono ?_
          rintro e v3 ⟨rfl, hv3⟩
          have HG3 := Lib.hid (Four.next hv3 HF4.out)
          clear a0 a1 b0 b1 c0 c1 d0 d1 hv3
          obtain ⟨a0, a1⟩ := Pnt.blk HG3.out.pa
          obtain ⟨b0, b1⟩ := Pnt.blk HG3.out.pb
          obtain ⟨c0, c1⟩ := Pnt.blk HG3.out.pc
          obtain ⟨d0, d1⟩ := Pnt.blk HG3.out.pd
          go_wp2_with fail
          refine (box5_eq c d b _ Y4.out).mono ?_
          rintro e v4 ⟨rfl, hv4⟩
          have HG4 := Lib.hid (Four.next hv4 HG3.out)
          clear a0 a1 b0 b1 c0 c1 d0 d1 hv4
          obtain ⟨a0, a1⟩ := Pnt.blk HG4.out.pa
          obtain ⟨b0, b1⟩ := Pnt.blk HG4.out.pb
          obtain ⟨c0, c1⟩ := Pnt.blk HG4.out.pc
          obtain ⟨d0, d1⟩ := Pnt.blk HG4.out.pd
          go_wp2
          go_ret
          exact ⟨by rw [HE.out]; rfl, HG4.out.bel⟩
        · have HE : Hid (linesB a b c d = false) := by show _ = _; rw [HL.out]; simp [hP, z3, z4, q3, q4, n1, n2]
          have E3 : Hid ((t3 == 0) = true) := by show _ = _; simp [z3]
          have Y3 := Lib.hid (HX3.out.trans q3)
          have E4 : Hid ((t4 == 0) = true) := by show _ = _; simp [z4]
          have Y4 := Lib.hid (HX4.out.trans q4)
          have E1 : Hid ((t1 == 0) = false) := by show _ = _; simp [n1]
          have E2 : Hid ((t2 == 0) = false) := by show _ = _; simp [n2]
          clear n1 n2
          clear z3 z4 q3 q4
          clear D1 D2
          have e1 := E1.out
          have e2 := E2.out
          have e3 := E3.out
          have e4 := E4.out
          go_wp2_with fail
          refine (box5_eq c d a _ Y3.out).mono ?_
          rintro e v3 ⟨rfl, hv3⟩
          have HG3 := Lib.hid (Four.next hv3 HF4.out)
          clear a0 a1 b0 b1 c0 c1 d0 d1 hv3
          obtain ⟨a0, a1⟩ := Pnt.blk HG3.out.pa
          obtain ⟨b0, b1⟩ := Pnt.blk HG3.out.pb
          obtain ⟨c0, c1⟩ := Pnt.blk HG3.out.pc
          obtain ⟨d0, d1⟩ := Pnt.blk HG3.out.pd
          go_wp2_with fail
          refine (box5_eq c d b _ Y4.out).mono ?_
          rintro e v4 ⟨rfl, hv4⟩
          have HG4 := Lib.hid (Four.next hv4 HG3.out)
          clear a0 a1 b0 b1 c0 c1 d0 d1 hv4
          obtain ⟨a0, a1⟩ := Pnt.blk HG4.out.pa
          obtain ⟨b0, b1⟩ := Pnt.blk HG4.out.pb
          obtain ⟨c0, c1⟩ := Pnt.blk HG4.out.pc
          obtain ⟨d0, d1⟩ := Pnt.blk HG4.out.pd
          go_wp2
          go_ret
          exact ⟨by rw [HE.out]; rfl, HG4.out.bel⟩
        · have HE : Hid (linesB a b c d = false) := by show _ = _; rw [HL.out]; simp [hP, z3, z4, q3, n1, n2]
          have E3 : Hid ((t3 == 0) = true) := by show _ = _; simp [z3]
          have Y3 := Lib.hid (HX3.out.trans q3)
          have E4 : Hid ((t4 == 0) = false) := by show _ = _; simp [z4]
          have E1 : Hid ((t1 == 0) = false) := by show _ = _; simp [n1]
          have E2 : Hid ((t2 == 0) = false) := by show _ = _; simp [n2]
          clear n1 n2
          clear z3 z4 q3
          clear D1 D2
          have e1 := E1.out
          have e2 := E2.out
          have e3 := E3.out
          have e4 := E4.out
          go_wp2_with fail
          refine (box5_eq c d a _ Y3.out).mono ?_
          rintro e v3 ⟨rfl, hv3⟩
          have HG3 := Lib.hid (Four.next hv3 HF4.out)
          clear a0 a1 b0 b1 c0 c1 d0 d1 hv3
          obtain ⟨a0, a1⟩ := Pnt.blk HG3.out.pa
          obtain ⟨b0, b1⟩ := Pnt.blk HG3.out.pb
          obtain ⟨c0, c1⟩ := Pnt.blk HG3.out.pc
          obtain ⟨d0, d1⟩ := Pnt.blk HG3.out.pd
          go_wp2
          go_ret
          exact ⟨by rw [HE.out]; rfl, HG3.out.bel⟩
      · rcases D4 with ⟨z4, q4⟩ | ⟨z4, q4⟩ | z4
        · have HE : Hid (linesB a b c d = true) := by show _ = _; rw [HL.out]; simp [hP, z3, z4, q4, n1, n2]
          have E3 : Hid ((t3 == 0) = false) := by show _ = _; simp [z3]
          have E4 : Hid ((t4 == 0) = true) := by show _ = _; simp [z4]
          have Y4 := Lib.hid (HX4.out.trans q4)
          have E1 : Hid ((t1 == 0) = false) := by show _ = _; simp [n1]
          have E2 : Hid ((t2 == 0) = false) := by show _ = _; simp [n2]
          clear n1 n2
          clear z3 z4 q4
          clear D1 D2
          have e1 := E1.out
          have e2 := E2.out
          have e3 := E3.out
          have e4 := E4.out
          go_wp2_with fail
          refine (box5_eq c d b _ Y4.out).mono ?_
          rintro e v4 ⟨rfl, hv4⟩
          have HG4 := Lib.hid (Four.next hv4 HF4.out)
          clear a0 a1 b0 b1 c0 c1 d0 d1 hv4
          obtain ⟨a0, a1⟩ := Pnt.blk HG4.out.pa
          obtain ⟨b0, b1⟩ := Pnt.blk HG4.out.pb
          obtain ⟨c0, c1⟩ := Pnt.blk HG4.out.pc
          obtain ⟨d0, d1⟩ := Pnt.blk HG4.out.pd
          go_wp2
          go_ret
          exact ⟨by rw [HE.out]; rfl, HG4.out.bel⟩
        · have HE : Hid (linesB a b c d = false) := by show _ = _; rw [HL.out]; simp [hP, z3, z4, q4, n1, n2]
          have E3 : Hid ((t3 == 0) = false) := by show _ = _; simp [z3]
          have E4 : Hid ((t4 == 0) = true) := by show _ = _; simp [z4]
          have Y4 := Lib.hid (HX4.out.trans q4)
          have E1 : Hid ((t1 == 0) = false) := by show _ = _; simp [n1]
          have E2 : Hid ((t2 == 0) = false) := by show _ = _; simp [n2]
          clear n1 n2
          clear z3 z4 q4
          clear D1 D2
          have e1 := E1.out
          have e2 := E2.out
          have e3 := E3.out
          have e4 := E4.out
          go_wp2_with fail
          refine (box5_eq c d b _ Y4.out).mono ?_
          rintro e v4 ⟨rfl, hv4⟩
          have HG4 := Lib.hid (Four.next hv4 HF4.out)
          clear a0 a1 b0 b1 c0 c1 d0 d1 hv4
          obtain ⟨a0, a1⟩ := Pnt.blk HG4.out.pa
          obtain ⟨b0, b1⟩ := Pnt.blk HG4.out.pb
          obtain ⟨c0, c1⟩ := Pnt.blk HG4.out.pc
          obtain ⟨d0, d1⟩ := Pnt.blk HG4.out.pd
          go_wp2
          go_ret
          exact ⟨by rw [HE.out]; rfl, HG4.out.bel⟩
        · have HE : Hid (linesB a b c d = false) := by show _ = _; rw [HL.out]; simp [hP, hR, z3, z4, n1, n2]
          have E3 : Hid ((t3 == 0) = false) := by show _ = _; simp [z3]
          have E4 : Hid ((t4 == 0) = false) := by show _ = _; simp [z4]
          have E1 : Hid ((t1 == 0) = false) := by show _ = _; simp [n1]
          have E2 : Hid ((t2 == 0) = false) := by show _ = _; simp [n2]
          clear n1 n2
          clear z3 z4
          clear D1 D2
          have e1 := E1.out
          have e2 := E2.out
          have e3 := E3.out
          have e4 := E4.out
          go_wp2
          go_ret
          exact ⟨by rw [HE.out]; rfl, HF4.out.bel⟩
  · rcases D1 with ⟨z1, q1⟩ | ⟨z1, q1⟩ | z1
    · have HE : Hid (linesB a b c d = true) := by show _ = _; rw [HL.out]; simp [z1, q1]
      have E1 : Hid ((t1 == 0) = true) := by show _ = _; simp [z1]
      have Y1 := Lib.hid (HX1.out.trans q1)
      clear z1 q1
      clear D2 D3 D4
      have e1 := E1.out
      go_wp2_with fail
      refine (box5_eq a b c _ Y1.out).mono ?_
      rintro e v1 ⟨rfl, hv1⟩
      have HG1 := Lib.hid (Four.next hv1 HF4.out)
      clear a0 a1 b0 b1 c0 c1 d0 d1 hv1
      obtain ⟨a0, a1⟩ := Pnt.blk HG1.out.pa
      obtain ⟨b0, b1⟩ := Pnt.blk HG1.out.pb
      obtain ⟨c0, c1⟩ := Pnt.blk HG1.out.pc
      obtain ⟨d0, d1⟩ := Pnt.blk HG1.out.pd
      go_wp2
      go_ret
      exact ⟨by rw [HE.out]; rfl, HG1.out.bel⟩
    · rcases D2 with ⟨z2, q2⟩ | ⟨z2, q2⟩ | z2
      · have HE : Hid (linesB a b c d = true) := by show _ = _; rw [HL.out]; simp [z1, z2, q1, q2]
        have E1 : Hid ((t1 == 0) = true) := by show _ = _; simp [z1]
        have Y1 := Lib.hid (HX1.out.trans q1)
        have E2 : Hid ((t2 == 0) = true) := by show _ = _; simp [z2]
        have Y2 := Lib.hid (HX2.out.trans q2)
        clear z1 z2 q1 q2
        clear D3 D4
        have e1 := E1.out
        have e2 := E2.out
        go_wp2_with fail
        refine (box5_eq a b c _ Y1.out).mono ?_
        rintro e v1 ⟨rfl, hv1⟩
        have HG1 := Lib.hid (Four.next hv1 HF4.out)
        clear a0 a1 b0 b1 c0 c1 d0 d1 hv1
        obtain ⟨a0, a1⟩ := Pnt.blk HG1.out.pa
        obtain ⟨b0, b1⟩ := Pnt.blk HG1.out.pb
        obtain ⟨c0, c1⟩ := Pnt.blk HG1.out.pc
        obtain ⟨d0, d1⟩ := Pnt.blk HG1.out.pd
        go_wp2_with fail
        refine (box5_eq a b d _ Y2.out).mono ?_
        rintro e v2 ⟨rfl, hv2⟩
        have HG2 := Lib.hid (Four.next hv2 HG1.out)
        clear a0 a1 b0 b1 c0 c1 d0 d1 hv2
        obtain ⟨a0, a1⟩ := Pnt.blk HG2.out.pa
        obtain ⟨b0, b1⟩ := Pnt.blk HG2.out.pb
        obtain ⟨c0, c1⟩ := Pnt.blk HG2.out.pc
        obtain ⟨d0, d1⟩ := Pnt.blk HG2.out.pd
        go_wp2
        go_ret
        exact ⟨by rw [HE.out]; rfl, HG2.out.bel⟩
      · rcases D3 with ⟨z3, q3⟩ | ⟨z3, q3⟩ | z3
        · have HE : Hid (linesB a b c d = true) := by show _ = _; rw [HL.out]; simp [z1, z2, z3, q1, q2, q3]
          have E1 : Hid ((t1 == 0) = true) := by show _ = _; simp [z1]
          have Y1 := Lib.hid (HX1.out.trans q1)
          have E2 : Hid ((t2 == 0) = true) := by show _ = _; simp [z2]
          have Y2 := Lib.hid (HX2.out.trans q2)
          have E3 : Hid ((t3 == 0) = true) := by show _ = _; simp [z3]
          have Y3 := Lib.hid (HX3.out.trans q3)
          clear z1 z2 z3 q1 q2 q3
          clear D4
          have e1 := E1.out
          have e2 := E2.out
          have e3 := E3.out
          go_wp2_with fail
          refine (box5_eq a b c _ Y1.out).mono ?_
          rintro e v1 ⟨rfl, hv1⟩
          have HG1 := Lib.hid (Four.next hv1 HF4.out)
          clear a0 a1 b0 b1 c0 c1 d0 d1 hv1
          obtain ⟨a0, a1⟩ := Pnt.blk HG1.out.pa
          obtain ⟨b0, b1⟩ := Pnt.blk HG1.out.pb
          obtain ⟨c0, c1⟩ := Pnt.blk HG1.out.pc
          obtain ⟨d0, d1⟩ := Pnt.blk HG1.out.pd
          go_wp2_with fail
          refine (box5_eq a b d _ Y2.out).mono ?_
          rintro e v2 ⟨rfl, hv2⟩
          have HG2 := Lib.hid (Four.next hv2 HG1.out)
          clear a0 a1 b0 b1 c0 c1 d0 d1 hv2
          obtain ⟨a0, a1⟩ := Pnt.blk HG2.out.pa
          obtain ⟨b0, b1⟩ := Pnt.blk HG2.out.pb
          obtain ⟨c0, c1⟩ := Pnt.blk HG2.out.pc
          obtain ⟨d0, d1⟩ := Pnt.blk HG2.out.pd
          go_wp2_with fail
          refine (box5_eq c d a _ Y3.out).mono ?_
          rintro e v3 ⟨rfl, hv3⟩
          have HG3 := Lib.hid (Four.next hv3 HG2.out)
          clear a0 a1 b0 b1 c0 c1 d0 d1 hv3
          obtain ⟨a0, a1⟩ := Pnt.blk HG3.out.pa
          obtain ⟨b0, b1⟩ := Pnt.blk HG3.out.pb
          obtain ⟨c0, c1⟩ := Pnt.blk HG3.out.pc
          obtain ⟨d0, d1⟩ := Pnt.blk HG3.out.pd
          go_wp2
          go_ret
          exact ⟨by rw [HE.out]; rfl, HG3.out.bel⟩
        · rcases D4 with ⟨z4, q4⟩ | ⟨z4, q4⟩ | z4
          · have HE : Hid (linesB a b c d = true) := by show _ = _; rw [HL.out]; simp [z1, z2, z3, z4, q1, q2, q3, q4]
            have E1 : Hid ((t1 == 0) = true) := by show _ = _; simp [z1]
            have Y1 := Lib.hid (HX1.out.trans q1)
            have E2 : Hid ((t2 == 0) = true) := by show _ = _; simp [z2]
            have Y2 := Lib.hid (HX2.out.trans q2)
            have E3 : Hid ((t3 == 0) = true) := by show _ = _; simp [z3]
            have Y3 := Lib.hid (HX3.out.trans q3)
            have E4 : Hid ((t4 == 0) = true) := by show _ = _; simp [z4]
            have Y4 := Lib.hid (HX4.out.trans q4)
            clear z1 z2 z3 z4 q1 q2 q3 q4
            have e1 := E1.out
            have e2 := E2.out
            have e3 := E3.out
            have e4 := E4.out
            go_wp2_with fail
            refine (box5_eq a b c _ Y1.out).mono ?_
            rintro e v1 ⟨rfl, hv1⟩
            have HG1 := Lib.hid (Four.next hv1 HF4.out)
            clear a0 a1 b0 b1 c0 c1 d0 d1 hv1
            obtain ⟨a0, a1⟩ := Pnt.blk HG1.out.pa
            obtain ⟨b0, b1⟩ := Pnt.blk HG1.out.pb
            obtain ⟨c0, c1⟩ := Pnt.blk HG1.out.pc
            obtain ⟨d0, d1⟩ := Pnt.blk HG1.out.pd
            go_wp2_with fail
            refine (box5_eq a b d _ Y2.out).mono ?_
            rintro e v2 ⟨rfl, hv2⟩
            have HG2 := Lib.hid (Four.next hv2 HG1.out)
            clear a0 a1 b0 b1 c0 c1 d0 d1 hv2
            obtain ⟨a0, a1⟩ := Pnt.blk HG2.out.pa
            obtain ⟨b0, b1⟩ := Pnt.blk HG2.out.pb
            obtain ⟨c0, c1⟩ := Pnt.blk HG2.out.pc
            obtain ⟨d0, d1⟩ := Pnt.blk HG2.out.pd
            go_wp2_with fail
            refine (box5_eq c d a _ Y3.out).mono ?_
            rintro e v3 ⟨rfl, hv3⟩
            have HG3 := Lib.hid (Four.next hv3 HG2.out)
            clear a0 a1 b0 b1 c0 c1 d0 d1 hv3
            obtain ⟨a0, a1⟩ := Pnt.blk HG3.out.pa
            obtain ⟨b0, b1⟩ := Pnt.blk HG3.out.pb
            obtain ⟨c0, c1⟩ := Pnt.blk HG3.out.pc
            obtain ⟨d0, d1⟩ := Pnt.blk HG3.out.pd
            go_wp2_with fail
            refine (box5_eq c d b _ Y4.out).mono ?_
            rintro e v4 ⟨rfl, hv4⟩
            have HG4 := Lib.hid (Four.next hv4 HG3.out)
            clear a0 a1 b0 b1 c0 c1 d0 d1 hv4
            obtain ⟨a0, a1⟩ := Pnt.blk HG4.out.pa
            obtain ⟨b0, b1⟩ := Pnt.blk HG4.out.pb
            obtain ⟨c0, c1⟩ := Pnt.blk HG4.out.pc
            obtain ⟨d0, d1⟩ := Pnt.blk HG4.out.pd
            go_wp2
            go_ret
            exact ⟨by rw [HE.out]; rfl, HG4.out.bel⟩
          · have HE : Hid (linesB a b c d = false) := by show _ = _; rw [HL.out]; simp [z1, z2, z3, z4, q1, q2, q3, q4]
            have E1 : Hid ((t1 == 0) = true) := by show _ = _; simp [z1]
            have Y1 := Lib.hid (HX1.out.trans q1)
            have E2 : Hid ((t2 == 0) = true) := by show _ = _; simp [z2]
            have Y2 := Lib.hid (HX2.out.trans q2)
            have E3 : Hid ((t3 == 0) = true) := by show _ = _; simp [z3]
            have Y3 := Lib.hid (HX3.out.trans q3)
            have E4 : Hid ((t4 == 0) = true) := by show _ = _; simp [z4]
            have Y4 := Lib.hid (HX4.out.trans q4)
            clear z1 z2 z3 z4 q1 q2 q3 q4
            have e1 := E1.out
            have e2 := E2.out
            have e3 := E3.out
            have e4 := E4.out
            go_wp2_with fail
            refine (box5_eq a b c _ Y1.out).mono ?_
            rintro e v1 ⟨rfl, hv1⟩
            have HG1 := Lib.hid (Four.next hv1 HF4.out)
            clear a0 a1 b0 b1 c0 c1 d0 d1 hv1
            obtain ⟨a0, a1⟩ := Pnt.blk HG1.out.pa
            obtain ⟨b0, b1⟩ := Pnt.blk HG1.out.pb
            obtain ⟨c0, c1⟩ := Pnt.blk HG1.out.pc
            obtain ⟨d0, d1⟩ := Pnt.blk HG1.out.pd
            go_wp2_with fail
            refine (box5_eq a b d _ Y2.out).mono ?_
            rintro e v2 ⟨rfl, hv2⟩
            have HG2 := Lib.hid (Four.next hv2 HG1.out)
            clear a0 a1 b0 b1 c0 c1 d0 d1 hv2
            obtain ⟨a0, a1⟩ := Pnt.blk HG2.out.pa
            obtain ⟨b0, b1⟩ := Pnt.blk HG2.out.pb
            obtain ⟨c0, c1⟩ := Pnt.blk HG2.out.pc
            obtain ⟨d0, d1⟩ := Pnt.blk HG2.out.pd
            go_wp2_with fail
            refine (box5_eq c d a _ Y3.out).mono ?_
            rintro e v3 ⟨rfl, hv3⟩
            have HG3 := Lib.hid (Four.next hv3 HG2.out)
            clear a0 a1 b0 b1 c0 c1 d0 d1 hv3
            obtain ⟨a0, a1⟩ := Pnt.blk HG3.out.pa
            obtain ⟨b0, b1⟩ := Pnt.blk HG3.out.pb
            obtain ⟨c0, c1⟩ := Pnt.blk HG3.out.pc
            obtain ⟨d0, d1⟩ := Pnt.blk HG3.out.pd
            go_wp2_with fail
            refine (box5_eq c d b _ Y4.out).mono ?_
            rintro e v4 ⟨rfl, hv4⟩
            have HG4 := Lib.hid (Four.next hv4 HG3.out)
            clear a0 a1 b0 b1 c0 c1 d0 d1 hv4
            obtain ⟨a0, a1⟩ := Pnt.blk HG4.out.pa
            obtain ⟨b0, b1⟩ := Pnt.blk HG4.out.pb
            obtain ⟨c0, c1⟩ := Pnt.blk HG4.out.pc
            obtain ⟨d0, d1⟩ := Pnt.blk HG4.out.pd
            go_wp2
            go_ret
            exact ⟨by rw [HE.out]; rfl, HG4.out.bel⟩
          · have HE : Hid (linesB a b c d = false) := by show _ = _; rw [HL.out]; simp [z1, z2, z3, z4, q1, q2, q3]
            have E1 : Hid ((t1 == 0) = true) := by show _ = _; simp [z1]
            have Y1 := Lib.hid (HX1.out.trans q1)
            have E2 : Hid ((t2 == 0) = true) := by show _ = _; simp [z2]
            have Y2 := Lib.hid (HX2.out.trans q2)
            have E3 : Hid ((t3 == 0) = true) := by show _ = _; simp [z3]
            have Y3 := Lib.hid (HX3.out.trans q3)
            have E4 : Hid ((t4 == 0) = false) := by show _ = _; simp [z4]
            clear z1 z2 z3 z4 q1 q2 q3
            have e1 := E1.out
            have e2 := E2.out
            have e3 := E3.out
            have e4 := E4.out
            go_wp2_with fail
            refine (box5_eq a b c _ Y1.out).mono ?_
            rintro e v1 ⟨rfl, hv1⟩
            have HG1 := Lib.hid (Four.next hv1 HF4.out)
            clear a0 a1 b0 b1 c0 c1 d0 d1 hv1
            obtain ⟨a0, a1⟩ := Pnt.blk HG1.out.pa
            obtain ⟨b0, b1⟩ := Pnt.blk HG1.out.pb
            obtain ⟨c0, c1⟩ := Pnt.blk HG1.out.pc
            obtain ⟨d0, d1⟩ := Pnt.blk HG1.out.pd
            go_wp2_with fail
            refine (box5_eq a b d _ Y2.out).mono ?_
            rintro e v2 ⟨rfl, hv2⟩
            have HG2 := Lib.hid (Four.next hv2 HG1.out)
            clear a0 a1 b0 b1 c0 c1 d0 d1 hv2
            obtain ⟨a0, a1⟩ := Pnt.blk HG2.out.pa
            obtain ⟨b0, b1⟩ := Pnt.blk HG2.out.pb
            obtain ⟨c0, c1⟩ := Pnt.blk HG2.out.pc
            obtain ⟨d0, d1⟩ := Pnt.blk HG2.out.pd
            go_wp2_with fail
            refine (box5_eq c d a _ Y3.out).mono ?_
            rintro e v3 ⟨rfl, hv3⟩
            have HG3 := Lib.hid (Four.next hv3 HG2.out)
            clear a0 a1 b0 b1 c0 c1 d0 d1 hv3
            obtain ⟨a0, a1⟩ := Pnt.blk HG3.out.pa
            obtain ⟨b0, b1⟩ := Pnt.blk HG3.out.pb
            obtain ⟨c0, c1⟩ := Pnt.blk HG3.out.pc
            obtain ⟨d0, d1⟩ := Pnt.blk HG3.out.pd
            go_wp2
            go_ret
            exact ⟨by rw [HE.out]; rfl, HG3.out.bel⟩
        · rcases D4 with ⟨z4, q4⟩ | ⟨z4, q4⟩ | z4
          · have HE : Hid (linesB a b c d = true) := by show _ = _; rw [HL.out]; simp [z1, z2, z3, z4, q1, q2, q4]
            have E1 : Hid ((t1 == 0) = true) := by show _ = _; simp [z1]
            have Y1 := Lib.hid (HX1.out.trans q1)
            have E2 : Hid ((t2 == 0) = true) := by show _ = _; simp [z2]
            have Y2 := Lib.hid (HX2.out.trans q2)
            have E3 : Hid ((t3 == 0) = false) := by show _ = _; simp [z3]
            have E4 : Hid ((t4 == 0) = true) := by show _ = _; simp [z4]
            have Y4 := Lib.hid (HX4.out.trans q4)
            clear z1 z2 z3 z4 q1 q2 q4
            have e1 := E1.out
            have e2 := E2.out
            have e3 := E3.out
            have e4 := E4.out
            go_wp2_with fail
            refine (box5_eq a b c _ Y1.out).mono ?_
            rintro e v1 ⟨rfl, hv1⟩
            have HG1 := Lib.hid (Four.next hv1 HF4.out)
            clear a0 a1 b0 b1 c0 c1 d0 d1 hv1
            obtain ⟨a0, a1⟩ := Pnt.blk HG1.out.pa
            obtain ⟨b0, b1⟩ := Pnt.blk HG1.out.pb
            obtain ⟨c0, c1⟩ := Pnt.blk HG1.out.pc
            obtain ⟨d0, d1⟩ := Pnt.blk HG1.out.pd
            go_wp2_with fail
            refine (box5_eq a b d _ Y2.out).mono ?_
            rintro e v2 ⟨rfl, hv2⟩
            have HG2 := Lib.hid (Four.next hv2 HG1.out)
            clear a0 a1 b0 b1 c0 c1 d0 d1 hv2
            obtain ⟨a0, a1⟩ := Pnt.blk HG2.out.pa
            obtain ⟨b0, b1⟩ := Pnt.blk HG2.out.pb
            obtain ⟨c0, c1⟩ := Pnt.blk HG2.out.pc
            obtain ⟨d0, d1⟩ := Pnt.blk HG2.out.pd
            go_wp2_with fail
            refine (box5_eq c d b _ Y4.out).mono ?_
            rintro e v4 ⟨rfl, hv4⟩
            have HG4 := Lib.hid (Four.next hv4 HG2.out)
            clear a0 a1 b0 b1 c0 c1 d0 d1 hv4
            obtain ⟨a0, a1⟩ := Pnt.blk HG4.out.pa
            obtain ⟨b0, b1⟩ := Pnt.blk HG4.out.pb
            obtain ⟨c0, c1⟩ := Pnt.blk HG4.out.pc
            obtain ⟨d0, d1⟩ := Pnt.blk HG4.out.pd
            go_wp2
            go_ret
            exact ⟨by rw [HE.out]; rfl, HG4.out.bel⟩
          · have HE : Hid (linesB a b c d = false) := by show _ = _; rw [HL.out]; simp [z1, z2, z3, z4, q1, q2, q4]
            have E1 : Hid ((t1 == 0) = true) := by show _ = _; simp [z1]
            have Y1 := Lib.hid (HX1.out.trans q1)
            have E2 : Hid ((t2 == 0) = true) := by show _ = _; simp [z2]
            have Y2 := Lib.hid (HX2.out.trans q2)
            have E3 : Hid ((t3 == 0) = false) := by show _ = _; simp [z3]
            have E4 : Hid ((t4 == 0) = true) := by show _ = _; simp [z4]
            have Y4 := Lib.hid (HX4.out.trans q4)
            clear z1 z2 z3 z4 q1 q2 q4
            have e1 := E1.out
            have e2 := E2.out
            have e3 := E3.out
            have e4 := E4.out
            go_wp2_with fail
            refine (box5_eq a b c _ Y1.out).mono ?_
            rintro e v1 ⟨rfl, hv1⟩
            have HG1 := Lib.hid (Four.next hv1 HF4.out)
            clear a0 a1 b0 b1 c0 c1 d0 d1 hv1
            obtain ⟨a0, a1⟩ := Pnt.blk HG1.out.pa
            obtain ⟨b0, b1⟩ := Pnt.blk HG1.out.pb
            obtain ⟨c0, c1⟩ := Pnt.blk HG1.out.pc
            obtain ⟨d0, d1⟩ := Pnt.blk HG1.out.pd
            go_wp2_with fail
            refine (box5_eq a b d _ Y2.out).mono ?_
            rintro e v2 ⟨rfl, hv2⟩
            have HG2 := Lib.hid (Four.next hv2 HG1.out)
            clear a0 a1 b0 b1 c0 c1 d0 d1 hv2
            obtain ⟨a0, a1⟩ := Pnt.blk HG2.out.pa
            obtain ⟨b0, b1⟩ := Pnt.blk HG2.out.pb
            obtain ⟨c0, c1⟩ := Pnt.blk HG2.out.pc
            obtain ⟨d0, d1⟩ := Pnt.blk HG2.out.pd
            go_wp2_with fail
            refine (box5_eq c d b _ Y4.out).mono ?_
            rintro e v4 ⟨rfl, hv4⟩
            have HG4 := Lib.hid (Four.next hv4 HG2.out)
            clear a0 a1 b0 b1 c0 c1 d0 d1 hv4
            obtain ⟨a0, a1⟩ := Pnt.blk HG4.out.pa
            obtain ⟨b0, b1⟩ := Pnt.blk HG4.out.pb
            obtain ⟨c0, c1⟩ := Pnt.blk HG4.out.pc
            obtain ⟨d0, d1⟩ := Pnt.blk HG4.out.pd
            go_wp2
            go_ret
            exact ⟨by rw [HE.out]; rfl, HG4.out.bel⟩
          · have HE : Hid (linesB a b c d = false) := by show _ = _; rw [HL.out]; simp [z1, z2, z3, z4, q1, q2]
            have E1 : Hid ((t1 == 0) = true) := by show _ = _; simp [z1]
            have Y1 := Lib.hid (HX1.out.trans q1)
            have E2 : Hid ((t2 == 0) = true) := by show _ = _; simp [z2]
            have Y2 := Lib.hid (HX2.out.trans q2)
            have E3 : Hid ((t3 == 0) = false) := by show _ = _; simp [z3]
            have E4 : Hid ((t4 == 0) = false) := by show _ = _; simp [z4]
            clear z1 z2 z3 z4 q1 q2
            have e1 := E1.out
            have e2 := E2.out
            have e3 := E3.out
            have e4 := E4.out
            go_wp2_with fail
            refine (box5_eq a b c _ Y1.out).mono ?_
            rintro e v1 ⟨rfl, hv1⟩
            have HG1 := Lib.hid (Four.next hv1 HF4.out)
            clear a0 a1 b0 b1 c0 c1 d0 d1 hv1
            obtain ⟨a0, a1⟩ := Pnt.blk HG1.out.pa
            obtain ⟨b0, b1⟩ := Pnt.blk HG1.out.pb
            obtain ⟨c0, c1⟩ := Pnt.blk HG1.out.pc
            obtain ⟨d0, d1⟩ := Pnt.blk HG1.out.pd
            go_wp2_with fail
            refine (box5_eq a b d _ Y2.out).mono ?_
            rintro e v2 ⟨rfl, hv2⟩
            have HG2 := Lib.hid (Four.next hv2 HG1.out)
            clear a0 a1 b0 b1 c0 c1 d0 d1 hv2
            obtain ⟨a0, a1⟩ := Pnt.blk HG2.out.pa
            obtain ⟨b0, b1⟩ := Pnt.blk HG2.out.pb
            obtain ⟨c0, c1⟩ := Pnt.blk HG2.out.pc
            obtain ⟨d0, d1⟩ := Pnt.blk HG2.out.pd
            go_wp2
            go_ret
            exact ⟨by rw [HE.out]; rfl, HG2.out.bel⟩
      · rcases D3 with ⟨z3, q3⟩ | ⟨z3, q3⟩ | z3
        · have HE : Hid (linesB a b c d = true) := by show _ = _; rw [HL.out]; simp [z1, z2, z3, q1, q3]
          have E1 : Hid ((t1 == 0) = true) := by show _ = _; simp [z1]
          have Y1 := Lib.hid (HX1.out.trans q1)
          have E2 : Hid ((t2 == 0) = false) := by show _ = _; simp [z2]
          have E3 : Hid ((t3 == 0) = true) := by show _ = _; simp [z3]
          have Y3 := Lib.hid (HX3.out.trans q3)
          clear z1 z2 z3 q1 q3
          clear D4
          have e1 := E1.out
          have e2 := E2.out
          have e3 := E3.out
          go_wp2_with fail
          refine (box5_eq a b c _ Y1.out).mono ?_
          rintro e v1 ⟨rfl, hv1⟩
          have HG1 := Lib.hid (Four.next hv1 HF4.out)
          clear a0 a1 b0 b1 c0 c1 d0 d1 hv1
          obtain ⟨a0, a1⟩ := Pnt.blk HG1.out.pa
          obtain ⟨b0, b1⟩ := Pnt.blk HG1.out.pb
          obtain ⟨c0, c1⟩ := Pnt.blk HG1.out.pc
          obtain ⟨d0, d1⟩ := Pnt.blk HG1.out.pd
          go_wp2_with fail
          refine (box5_eq c d a _ Y3.out).mono ?_
          rintro e v3 ⟨rfl, hv3⟩
          have HG3 := Lib.hid (Four.next hv3 HG1.out)
          clear a0 a1 b0 b1 c0 c1 d0 d1 hv3
          obtain ⟨a0, a1⟩ := Pnt.blk HG3.out.pa
          obtain ⟨b0, b1⟩ := Pnt.blk HG3.out.pb
          obtain ⟨c0, c1⟩ := Pnt.blk HG3.out.pc
          obtain ⟨d0, d1⟩ := Pnt.blk HG3.out.pd
          go_wp2
          go_ret
          exact ⟨by rw [HE.out]; rfl, HG3.out.bel⟩
        · rcases D4 with ⟨z4, q4⟩ | ⟨z4, q4⟩ | z4
          · have HE : Hid (linesB a b c d = true) := by show _ = _; rw [HL.out]; simp [z1, z2, z3, z4, q1, q3, q4]
            have E1 : Hid ((t1 == 0) = true) := by show _ = _; simp [z1]
            have Y1 := Lib.hid (HX1.out.trans q1)
            have E2 : Hid ((t2 == 0) = false) := by show _ = _; simp [z2]
            have E3 : Hid ((t3 == 0) = true) := by show _ = _; simp [z3]
            have Y3 := Lib.hid (HX3.out.trans q3)
            have E4 : Hid ((t4 == 0) = true) := by show _ = _; simp [z4]
            have Y4 := Lib.hid (HX4.out.trans q4)
            clear z1 z2 z3 z4 q1 q3 q4
            have e1 := E1.out
            have e2 := E2.out
            have e3 := E3.out
            have e4 := E4.out
            go_wp2_with fail
            refine (box5_eq a b c _ Y1.out).mono ?_
            rintro e v1 ⟨rfl, hv1⟩
            have HG1 := Lib.hid (Four.next hv1 HF4.out)
            clear a0 a1 b0 b1 c0 c1 d0 d1 hv1
            obtain ⟨a0, a1⟩ := Pnt.blk HG1.out.pa
            obtain ⟨b0, b1⟩ := Pnt.blk HG1.out.pb
            obtain ⟨c0, c1⟩ := Pnt.blk HG1.out.pc
            obtain ⟨d0, d1⟩ := Pnt.blk HG1.out.pd
            go_wp2_with fail
            refine (box5_eq c d a _ Y3.out).mono ?_
            rintro e v3 ⟨rfl, hv3⟩
            have HG3 := Lib.hid (Four.next hv3 HG1.out)
            clear a0 a1 b0 b1 c0 c1 d0 d1 hv3
            obtain ⟨a0, a1⟩ := Pnt.blk HG3.out.pa
            obtain ⟨b0, b1⟩ := Pnt.blk HG3.out.pb
            obtain ⟨c0, c1⟩ := Pnt.blk HG3.out.pc
            obtain ⟨d0, d1⟩ := Pnt.blk HG3.out.pd
            go_wp2_with fail
            refine (box5_eq c d b _ Y4.out).mono ?_
            rintro e v4 ⟨rfl, hv4⟩
            have HG4 := Lib.hid (Four.next hv4 HG3.out)
            clear a0 a1 b0 b1 c0 c1 d0 d1 hv4
            obtain ⟨a0, a1⟩ := Pnt.blk HG4.out.pa
            obtain ⟨b0, b1⟩ := Pnt.blk HG4.out.pb
            obtain ⟨c0, c1⟩ := Pnt.blk HG4.out.pc
            obtain ⟨d0, d1⟩ := Pnt.blk HG4.out.pd
            go_wp2
            go_ret
            exact ⟨by rw [HE.out]; rfl, HG4.out.bel⟩
          · have HE : Hid (linesB a b c d = false) := by show _ = _; rw [HL.out]; simp [z1, z2, z3, z4, q1, q3, q4]
            have E1 : Hid ((t1 == 0) = true) := by show _ = _; simp [z1]
            have Y1 := Lib.hid (HX1.out.trans q1)
            have E2 : Hid ((t2 == 0) = false) := by show _ = _; simp [z2]
            have E3 : Hid ((t3 == 0) = true) := by show _ = _; simp [z3]
            have Y3 := Lib.hid (HX3.out.trans q3)
            have E4 : Hid ((t4 == 0) = true) := by show _ = _; simp [z4]
            have Y4 := Lib.hid (HX4.out.trans q4)
            clear z1 z2 z3 z4 q1 q3 q4
            have e1 := E1.out
            have e2 := E2.out
            have e3 := E3.out
            have e4 := E4.out
            go_wp2_with fail
            refine (box5_eq a b c _ Y1.out).mono ?_
            rintro e v1 ⟨rfl, hv1⟩
            have HG1 := Lib.hid (Four.next hv1 HF4.out)
            clear a0 a1 b0 b1 c0 c1 d0 d1 hv1
            obtain ⟨a0, a1⟩ := Pnt.blk HG1.out.pa
            obtain ⟨b0, b1⟩ := Pnt.blk HG1.out.pb
            obtain ⟨c0, c1⟩ := Pnt.blk HG1.out.pc
            obtain ⟨d0, d1⟩ := Pnt.blk HG1.out.pd
            go_wp2_with fail
            refine (box5_eq c d a _ Y3.out).mono ?_
            rintro e v3 ⟨rfl, hv3⟩
            have HG3 := Lib.hid (Four.next hv3 HG1.out)
            clear a0 a1 b0 b1 c0 c1 d0 d1 hv3
            obtain ⟨a0, a1⟩ := Pnt.blk HG3.out.pa
            obtain ⟨b0, b1⟩ := Pnt.blk HG3.out.pb
            obtain ⟨c0, c1⟩ := Pnt.blk HG3.out.pc
            obtain ⟨d0, d1⟩ := Pnt.blk HG3.out.pd
            go_wp2_with fail
            refine (box5_eq c d b _ Y4.out).mono ?_
            rintro e v4 ⟨rfl, hv4⟩
            have HG4 := Lib.hid (Four.next hv4 HG3.out)
            clear a0 a1 b0 b1 c0 c1 d0 d1 hv4
            obtain ⟨a0, a1⟩ := Pnt.blk HG4.out.pa
            obtain ⟨b0, b1⟩ := Pnt.blk HG4.out.pb
            obtain ⟨c0, c1⟩ := Pnt.blk HG4.out.pc
            obtain ⟨d0, d1⟩ := Pnt.blk HG4.out.pd
            go_wp2
            go_ret
            exact ⟨by rw [HE.out]; rfl, HG4.out.bel⟩
          · have HE : Hid (linesB a b c d = false) := by show _ = _; rw [HL.out]; simp [z1, z2, z3, z4, q1, q3]
            have E1 : Hid ((t1 == 0) = true) := by show _ = _; simp [z1]
            have Y1 := Lib.hid (HX1.out.trans q1)
            have E2 : Hid ((t2 == 0) = false) := by show _ = _; simp [z2]
            have E3 : Hid ((t3 == 0) = true) := by show _ = _; simp [z3]
            have Y3 := Lib.hid (HX3.out.trans q3)
            have E4 : Hid ((t4 == 0) = false) := by show _ = _; simp [z4]
            clear z1 z2 z3 z4 q1 q3
            have e1 := E1.out
            have e2 := E2.out
            have e3 := E3.out
            have e4 := E4.out
            go_wp2_with fail
            refine (box5_eq a b c _ Y1.out).mono ?_
            rintro e v1 ⟨rfl, hv1⟩
            have HG1 := Lib.hid (Four.next hv1 HF4.out)
            clear a0 a1 b0 b1 c0 c1 d0 d1 hv1
            obtain ⟨a0, a1⟩ := Pnt.blk HG1.out.pa
            obtain ⟨b0, b1⟩ := Pnt.blk HG1.out.pb
            obtain ⟨c0, c1⟩ := Pnt.blk HG1.out.pc
            obtain ⟨d0, d1⟩ := Pnt.blk HG1.out.pd
            go_wp2_with fail
            refine (box5_eq c d a _ Y3.out).mono ?_
            rintro e v3 ⟨rfl, hv3⟩
            have HG3 := Lib.hid (Four.next hv3 HG1.out)
            clear a0 a1 b0 b1 c0 c1 d0 d1 hv3
            obtain ⟨a0, a1⟩ := Pnt.blk HG3.out.pa
            obtain ⟨b0, b1⟩ := Pnt.blk HG3.out.pb
            obtain ⟨c0, c1⟩ := Pnt.blk HG3.out.pc
            obtain ⟨d0, d1⟩ := Pnt.blk HG3.out.pd
            go_wp2
            go_ret
            exact ⟨by rw [HE.out]; rfl, HG3.out.bel⟩
        · rcases D4 with ⟨z4, q4⟩ | ⟨z4, q4⟩ | z4
          · have HE : Hid (linesB a b c d = true) := by show _ = _; rw [HL.out]; simp [z1, z2, z3, z4, q1, q4]
            have E1 : Hid ((t1 == 0) = true) := by show _ = _; simp [z1]
            have Y1 := Lib.hid (HX1.out.trans q1)
            have E2 : Hid ((t2 == 0) = false) := by show _ = _; simp [z2]
            have E3 : Hid ((t3 == 0) = false) := by show _ = _; simp [z3]
            have E4 : Hid ((t4 == 0) = true) := by show _ = _; simp [z4]
            have Y4 := Lib.hid (HX4.out.trans q4)
            clear z1 z2 z3 z4 q1 q4
            have e1 := E1.out
            have e2 := E2.out
            have e3 := E3.out
            have e4 := E4.out
            go_wp2_with fail
            refine (box5_eq a b c _ Y1.out).mono ?_
            rintro e v1 ⟨rfl, hv1⟩
            have HG1 := Lib.hid (Four.next hv1 HF4.out)
            clear a0 a1 b0 b1 c0 c1 d0 d1 hv1
            obtain ⟨a0, a1⟩ := Pnt.blk HG1.out.pa
            obtain ⟨b0, b1⟩ := Pnt.blk HG1.out.pb
            obtain ⟨c0, c1⟩ := Pnt.blk HG1.out.pc
            obtain ⟨d0, d1⟩ := Pnt.blk HG1.out.pd
            go_wp2_with fail
            refine (box5_eq c d b _ Y4.out).mono ?_
            rintro e v4 ⟨rfl, hv4⟩
            have HG4 := Lib.hid (Four.next hv4 HG1.out)
            clear a0 a1 b0 b1 c0 c1 d0 d1 hv4
            obtain ⟨a0, a1⟩ := Pnt.blk HG4.out.pa
            obtain ⟨b0, b1⟩ := Pnt.blk HG4.out.pb
            obtain ⟨c0, c1⟩ := Pnt.blk HG4.out.pc
            obtain ⟨d0, d1⟩ := Pnt.blk HG4.out.pd
            go_wp2
            go_ret
            exact ⟨by rw [HE.out]; rfl, HG4.out.bel⟩
          · have HE : Hid (linesB a b c d = false) := by show _ = _; rw [HL.out]; simp [z1, z2, z3, z4, q1, q4]
            have E1 : Hid ((t1 == 0) = true) := by show _ = _; simp [z1]
            have Y1 := Lib.hid (HX1.out.trans q1)
            have E2 : Hid ((t2 == 0) = false) := by show _ = _; simp [z2]
            have E3 : Hid ((t3 == 0) = false) := by show _ = _; simp [z3]
            have E4 : Hid ((t4 == 0) = true) := by show _ = _; simp [z4]
            have Y4 := Lib.hid (HX4.out.trans q4)
            clear z1 z2 z3 z4 q1 q4
            have e1 := E1.out
            have e2 := E2.out
            have e3 := E3.out
            have e4 := E4.out
            go_wp2_with fail
            refine (box5_eq a b c _ Y1.out).mono ?_
            rintro e v1 ⟨rfl, hv1⟩
            have HG1 := Lib.hid (Four.next hv1 HF4.out)
            clear a0 a1 b0 b1 c0 c1 d0 d1 hv1
            obtain ⟨a0, a1⟩ := Pnt.blk HG1.out.pa
            obtain ⟨b0, b1⟩ := Pnt.blk HG1.out.pb
            obtain ⟨c0, c1⟩ := Pnt.blk HG1.out.pc
            obtain ⟨d0, d1⟩ := Pnt.blk HG1.out.pd
            go_wp2_with fail
            refine (box5_eq c d b _ Y4.out).mono ?_
            rintro e v4 ⟨rfl, hv4⟩
            have HG4 := Lib.hid (Four.next hv4 HG1.out)
            clear a0 a1 b0 b1 c0 c1 d0 d1 hv4
            obtain ⟨a0, a1⟩ := Pnt.blk HG4.out.pa
            obtain ⟨b0, b1⟩ := Pnt.blk HG4.out.pb
            obtain ⟨c0, c1⟩ := Pnt.blk HG4.out.pc
            obtain ⟨d0, d1⟩ := Pnt.blk HG4.out.pd
            go_wp2
            go_ret
            exact ⟨by rw [HE.out]; rfl, HG4.out.bel⟩
          · have HE : Hid (linesB a b c d = false) := by show _ = _; rw [HL.out]; simp [z1, z2, z3, z4, q1]
            have E1 : Hid ((t1 == 0) = true) := by show _ = _; simp [z1]
            have Y1 := Lib.hid (HX1.out.trans q1)
            have E2 : Hid ((t2 == 0) = false) := by show _ = _; simp [z2]
            have E3 : Hid ((t3 == 0) = false) := by show _ = _; simp [z3]
            have E4 : Hid ((t4 == 0) = false) := by show _ = _; simp [z4]
            clear z1 z2 z3 z4 q1
            have e1 := E1.out
            have e2 := E2.out
            have e3 := E3.out
            have e4 := E4.out
            go_wp2_with fail
            refine (box5_eq a b c _ Y1.out).mono ?_
            rintro e v1 ⟨rfl, hv1⟩
            have HG1 := Lib.hid (Four.next hv1 HF4.out)
            clear a0 a1 b0 b1 c0 c1 d0 d1 hv1
            obtain ⟨a0, a1⟩ := Pnt.blk HG1.out.pa
            obtain ⟨b0, b1⟩ := Pnt.blk HG1.out.pb
            obtain ⟨c0, c1⟩ := Pnt.blk HG1.out.pc
            obtain ⟨d0, d1⟩ := Pnt.blk HG1.out.pd
            go_wp2
            go_ret
            exact ⟨by rw [HE.out]; rfl, HG1.out.bel⟩
    · rcases D2 with ⟨z2, q2⟩ | ⟨z2, q2⟩ | z2
      · have HE : Hid (linesB a b c d = true) := by show _ = _; rw [HL.out]; simp [z1, z2, q2]
        have E1 : Hid ((t1 == 0) = false) := by show _ = _; simp [z1]
        have E2 : Hid ((t2 == 0) = true) := by show _ = _; simp [z2]
        have Y2 := Lib.hid (HX2.out.trans q2)
        clear z1 z2 q2
        clear D3 D4
        have e1 := E1.out
        have e2 := E2.out
        go_wp2_with fail
        refine (box5_eq a b d _ Y2.out).mono ?_
        rintro e v2 ⟨rfl, hv2⟩
        have HG2 := Lib.hid (Four.next hv2 HF4.out)
        clear a0 a1 b0 b1 c0 c1 d0 d1 hv2
        obtain ⟨a0, a1⟩ := Pnt.blk HG2.out.pa
        obtain ⟨b0, b1⟩ := Pnt.blk HG2.out.pb
        obtain ⟨c0, c1⟩ := Pnt.blk HG2.out.pc
        obtain ⟨d0, d1⟩ := Pnt.blk HG2.out.pd
        go_wp2
        go_ret
        exact ⟨by rw [HE.out]; rfl, HG2.out.bel⟩
      · rcases D3 with ⟨z3, q3⟩ | ⟨z3, q3⟩ | z3
        · have HE : Hid (linesB a b c d = true) := by show _ = _; rw [HL.out]; simp [z1, z2, z3, q2, q3]
          have E1 : Hid ((t1 == 0) = false) := by show _ = _; simp [z1]
          have E2 : Hid ((t2 == 0) = true) := by show _ = _; simp [z2]
          have Y2 := Lib.hid (HX2.out.trans q2)
          have E3 : Hid ((t3 == 0) = true) := by show _ = _; simp [z3]
          have Y3 := Lib.hid (HX3.out.trans q3)
          clear z1 z2 z3 q2 q3
          clear D4
          have e1 := E1.out
          have e2 := E2.out
          have e3 := E3.out
          go_wp2_with fail
          refine (box5_eq a b d _ Y2.out).mono ?_
          rintro e v2 ⟨rfl, hv2⟩
          have HG2 := Lib.hid (Four.next hv2 HF4.out)
          clear a0 a1 b0 b1 c0 c1 d0 d1 hv2
          obtain ⟨a0, a1⟩ := Pnt.blk HG2.out.pa
          obtain ⟨b0, b1⟩ := Pnt.blk HG2.out.pb
          obtain ⟨c0, c1⟩ := Pnt.blk HG2.out.pc
          obtain ⟨d0, d1⟩ := Pnt.blk HG2.out.pd
          go_wp2_with fail
          refine (box5_eq c d a _ Y3.out).mono ?_
          rintro e v3 ⟨rfl, hv3⟩
          have HG3 := Lib.hid (Four.next hv3 HG2.out)
          clear a0 a1 b0 b1 c0 c1 d0 d1 hv3
          obtain ⟨a0, a1⟩ := Pnt.blk HG3.out.pa
          obtain ⟨b0, b1⟩ := Pnt.blk HG3.out.pb
          obtain ⟨c0, c1⟩ := Pnt.blk HG3.out.pc
          obtain ⟨d0, d1⟩ := Pnt.blk HG3.out.pd
          go_wp2
          go_ret
          exact ⟨by rw [HE.out]; rfl, HG3.out.bel⟩
        · rcases D4 with ⟨z4, q4⟩ | ⟨z4, q4⟩ | z4
          · have HE : Hid (linesB a b c d = true) := by show _ = _; rw [HL.out]; simp [z1, z2, z3, z4, q2, q3, q4]
            have E1 : Hid ((t1 == 0) = false) := by show _ = _; simp [z1]
            have E2 : Hid ((t2 == 0) = true) := by show _ = _; simp [z2]
            have Y2 := Lib.hid (HX2.out.trans q2)
            have E3 : Hid ((t3 == 0) = true) := by show _ = _; simp [z3]
            have Y3 := Lib.hid (HX3.out.trans q3)
            have E4 : Hid ((t4 == 0) = true) := by show _ = _; simp [z4]
            have Y4 := Lib.hid (HX4.out.trans q4)
            clear z1 z2 z3 z4 q2 q3 q4
            have e1 := E1.out
            have e2 := E2.out
            have e3 := E3.out
            have e4 := E4.out
            go_wp2_with fail
            refine (box5_eq a b d _ Y2.out).mono ?_
            rintro e v2 ⟨rfl, hv2⟩
            have HG2 := Lib.hid (Four.next hv2 HF4.out)
            clear a0 a1 b0 b1 c0 c1 d0 d1 hv2
            obtain ⟨a0, a1⟩ := Pnt.blk HG2.out.pa
            obtain ⟨b0, b1⟩ := Pnt.blk HG2.out.pb
            obtain ⟨c0, c1⟩ := Pnt.blk HG2.out.pc
            obtain ⟨d0, d1⟩ := Pnt.blk HG2.out.pd
            go_wp2_with fail
            refine (box5_eq c d a _ Y3.out).mono ?_
            rintro e v3 ⟨rfl, hv3⟩
            have HG3 := Lib.hid (Four.next hv3 HG2.out)
            clear a0 a1 b0 b1 c0 c1 d0 d1 hv3
            obtain ⟨a0, a1⟩ := Pnt.blk HG3.out.pa
            obtain ⟨b0, b1⟩ := Pnt.blk HG3.out.pb
            obtain ⟨c0, c1⟩ := Pnt.blk HG3.out.pc
            obtain ⟨d0, d1⟩ := Pnt.blk HG3.out.pd
            go_wp2_with fail
            refine (box5_eq c d b _ Y4.out).mono ?_
            rintro e v4 ⟨rfl, hv4⟩
            have HG4 := Lib.hid (Four.next hv4 HG3.out)
            clear a0 a1 b0 b1 c0 c1 d0 d1 hv4
            obtain ⟨a0, a1⟩ := Pnt.blk HG4.out.pa
            obtain ⟨b0, b1⟩ := Pnt.blk HG4.out.pb
            obtain ⟨c0, c1⟩ := Pnt.blk HG4.out.pc
            obtain ⟨d0, d1⟩ := Pnt.blk HG4.out.pd
            go_wp2
            go_ret
            exact ⟨by rw [HE.out]; rfl, HG4.out.bel⟩
          · have HE : Hid (linesB a b c d = false) := by show _ = _; rw [HL.out]; simp [z1, z2, z3, z4, q2, q3, q4]
            have E1 : Hid ((t1 == 0) = false) := by show _ = _; simp [z1]
            have E2 : Hid ((t2 == 0) = true) := by show _ = _; simp [z2]
            have Y2 := Lib.hid (HX2.out.trans q2)
            have E3 : Hid ((t3 == 0) = true) := by show _ = _; simp [z3]
            have Y3 := Lib.hid (HX3.out.trans q3)
            have E4 : Hid ((t4 == 0) = true) := by show _ = _; simp [z4]
            have Y4 := Lib.hid (HX4.out.trans q4)
            clear z1 z2 z3 z4 q2 q3 q4
            have e1 := E1.out
            have e2 := E2.out
            have e3 := E3.out
            have e4 := E4.out
            go_wp2_with fail
            refine (box5_eq a b d _ Y2.out).mono ?_
            rintro e v2 ⟨rfl, hv2⟩
            have HG2 := Lib.hid (Four.next hv2 HF4.out)
            clear a0 a1 b0 b1 c0 c1 d0 d1 hv2
            obtain ⟨a0, a1⟩ := Pnt.blk HG2.out.pa
            obtain ⟨b0, b1⟩ := Pnt.blk HG2.out.pb
            obtain ⟨c0, c1⟩ := Pnt.blk HG2.out.pc
            obtain ⟨d0, d1⟩ := Pnt.blk HG2.out.pd
            go_wp2_with fail
            refine (box5_eq c d a _ Y3.out).mono ?_
            rintro e v3 ⟨rfl, hv3⟩
            have HG3 := Lib.hid (Four.next hv3 HG2.out)
            clear a0 a1 b0 b1 c0 c1 d0 d1 hv3
            obtain ⟨a0, a1⟩ := Pnt.blk HG3.out.pa
            obtain ⟨b0, b1⟩ := Pnt.blk HG3.out.pb
            obtain ⟨c0, c1⟩ := Pnt.blk HG3.out.pc
            obtain ⟨d0, d1⟩ := Pnt.blk HG3.out.pd
            go_wp2_with fail
            refine (box5_eq c d b _ Y4.out).mono ?_
            rintro e v4 ⟨rfl, hv4⟩
            have HG4 := Lib.hid (Four.next hv4 HG3.out)
            clear a0 a1 b0 b1 c0 c1 d0 d1 hv4
            obtain ⟨a0, a1⟩ := Pnt.blk HG4.out.pa
            obtain ⟨b0, b1⟩ := Pnt.blk HG4.out.pb
            obtain ⟨c0, c1⟩ := Pnt.blk HG4.out.pc
            obtain ⟨d0, d1⟩ := Pnt.blk HG4.out.pd
            go_wp2
            go_ret
            exact ⟨by rw [HE.out]; rfl, HG4.out.bel⟩
          · have HE : Hid (linesB a b c d = false) := by show _ = _; rw [HL.out]; simp [z1, z2, z3, z4, q2, q3]
            have E1 : Hid ((t1 == 0) = false) := by show _ = _; simp [z1]
            have E2 : Hid ((t2 == 0) = true) := by show _ = _; simp [z2]
            have Y2 := Lib.hid (HX2.out.trans q2)
            have E3 : Hid ((t3 == 0) = true) := by show _ = _; simp [z3]
            have Y3 := Lib.hid (HX3.out.trans q3)
            have E4 : Hid ((t4 == 0) = false) := by show _ = _; simp [z4]
            clear z1 z2 z3 z4 q2 q3
            have e1 := E1.out
            have e2 := E2.out
            have e3 := E3.out
            have e4 := E4.out
            go_wp2_with fail
            refine (box5_eq a b d _ Y2.out).mono ?_
            rintro e v2 ⟨rfl, hv2⟩
            have HG2 := Lib.hid (Four.next hv2 HF4.out)
            clear a0 a1 b0 b1 c0 c1 d0 d1 hv2
            obtain ⟨a0, a1⟩ := Pnt.blk HG2.out.pa
            obtain ⟨b0, b1⟩ := Pnt.blk HG2.out.pb
            obtain ⟨c0, c1⟩ := Pnt.blk HG2.out.pc
            obtain ⟨d0, d1⟩ := Pnt.blk HG2.out.pd
            go_wp2_with fail
            refine (box5_eq c d a _ Y3.out).mono ?_
            rintro e v3 ⟨rfl, hv3⟩
            have HG3 := Lib.hid (Four.next hv3 HG2.out)
            clear a0 a1 b0 b1 c0 c1 d0 d1 hv3
            obtain ⟨a0, a1⟩ := Pnt.blk HG3.out.pa
            obtain ⟨b0, b1⟩ := Pnt.blk HG3.out.pb
            obtain ⟨c0, c1⟩ := Pnt.blk HG3.out.pc
            obtain ⟨d0, d1⟩ := Pnt.blk HG3.out.pd
            go_wp2
            go_ret
            exact ⟨by rw [HE.out]; rfl, HG3.out.bel⟩
        · rcases D4 with ⟨z4, q4⟩ | ⟨z4, q4⟩ | z4
          · have HE : Hid (linesB a b c d = true) := by show _ = _; rw [HL.out]; simp [z1, z2, z3, z4, q2, q4]
            have E1 : Hid ((t1 == 0) = false) := by show _ = _; simp [z1]
            have E2 : Hid ((t2 == 0) = true) := by show _ = _; simp [z2]
            have Y2 := Lib.hid (HX2.out.trans q2)
            have E3 : Hid ((t3 == 0) = false) := by show _ = _; simp [z3]
            have E4 : Hid ((t4 == 0) = true) := by show _ = _; simp [z4]
            have Y4 := Lib.hid (HX4.out.trans q4)
            clear z1 z2 z3 z4 q2 q4
            have e1 := E1.out
            have e2 := E2.out
            have e3 := E3.out
            have e4 := E4.out
            go_wp2_with fail
            refine (box5_eq a b d _ Y2.out).mono ?_
            rintro e v2 ⟨rfl, hv2⟩
            have HG2 := Lib.hid (Four.next hv2 HF4.out)
            clear a0 a1 b0 b1 c0 c1 d0 d1 hv2
            obtain ⟨a0, a1⟩ := Pnt.blk HG2.out.pa
            obtain ⟨b0, b1⟩ := Pnt.blk HG2.out.pb
            obtain ⟨c0, c1⟩ := Pnt.blk HG2.out.pc
            obtain ⟨d0, d1⟩ := Pnt.blk HG2.out.pd
            go_wp2_with fail
            refine (box5_eq c d b _ Y4.out).mono ?_
            rintro e v4 ⟨rfl, hv4⟩
            have HG4 := Lib.hid (Four.next hv4 HG2.out)
            clear a0 a1 b0 b1 c0 c1 d0 d1 hv4
            obtain ⟨a0, a1⟩ := Pnt.blk HG4.out.pa
            obtain ⟨b0, b1⟩ := Pnt.blk HG4.out.pb
            obtain ⟨c0, c1⟩ := Pnt.blk HG4.out.pc
            obtain ⟨d0, d1⟩ := Pnt.blk HG4.out.pd
            go_wp2
            go_ret
            exact ⟨by rw [HE.out]; rfl, HG4.out.bel⟩
          · have HE : Hid (linesB a b c d = false) := by show _ = _; rw [HL.out]; simp [z1, z2, z3, z4, q2, q4]
            have E1 : Hid ((t1 == 0) = false) := by show _ = _; simp [z1]
            have E2 : Hid ((t2 == 0) = true) := by show _ = _; simp [z2]
            have Y2 := Lib.hid (HX2.out.trans q2)
            have E3 : Hid ((t3 == 0) = false) := by show _ = _; simp [z3]
            have E4 : Hid ((t4 == 0) = true) := by show _ = _; simp [z4]
            have Y4 := Lib.hid (HX4.out.trans q4)
            clear z1 z2 z3 z4 q2 q4
            have e1 := E1.out
            have e2 := E2.out
            have e3 := E3.out
            have e4 := E4.out
            go_wp2_with fail
            refine (box5_eq a b d _ Y2.out).mono ?_
            rintro e v2 ⟨rfl, hv2⟩
            have HG2 := Lib.hid (Four.next hv2 HF4.out)
            clear a0 a1 b0 b1 c0 c1 d0 d1 hv2
            obtain ⟨a0, a1⟩ := Pnt.blk HG2.out.pa
            obtain ⟨b0, b1⟩ := Pnt.blk HG2.out.pb
            obtain ⟨c0, c1⟩ := Pnt.blk HG2.out.pc
            obtain ⟨d0, d1⟩ := Pnt.blk HG2.out.pd
            go_wp2_with fail
            refine (box5_eq c d b _ Y4.out).mono ?_
            rintro e v4 ⟨rfl, hv4⟩
            have HG4 := Lib.hid (Four.next hv4 HG2.out)
            clear a0 a1 b0 b1 c0 c1 d0 d1 hv4
            obtain ⟨a0, a1⟩ := Pnt.blk HG4.out.pa
            obtain ⟨b0, b1⟩ := Pnt.blk HG4.out.pb
            obtain ⟨c0, c1⟩ := Pnt.blk HG4.out.pc
            obtain ⟨d0, d1⟩ := Pnt.blk HG4.out.pd
            go_wp2
            go_ret
            exact ⟨by rw [HE.out]; rfl, HG4.out.bel⟩
          · have HE : Hid (linesB a b c d = false) := by show _ = _; rw [HL.out]; simp [z1, z2, z3, z4, q2]
            have E1 : Hid ((t1 == 0) = false) := by show _ = _; simp [z1]
            have E2 : Hid ((t2 == 0) = true) := by show _ = _; simp [z2]
            have Y2 := Lib.hid (HX2.out.trans q2)
            have E3 : Hid ((t3 == 0) = false) := by show _ = _; simp [z3]
            have E4 : Hid ((t4 == 0) = false) := by show _ = _; simp [z4]
            clear z1 z2 z3 z4 q2
            have e1 := E1.out
            have e2 := E2.out
            have e3 := E3.out
            have e4 := E4.out
            go_wp2_with fail
            refine (box5_eq a b d _ Y2.out).mono ?_
            rintro e v2 ⟨rfl, hv2⟩
            have HG2 := Lib.hid (Four.next hv2 HF4.out)
            clear a0 a1 b0 b1 c0 c1 d0 d1 hv2
            obtain ⟨a0, a1⟩ := Pnt.blk HG2.out.pa
            obtain ⟨b0, b1⟩ := Pnt.blk HG2.out.pb
            obtain ⟨c0, c1⟩ := Pnt.blk HG2.out.pc
            obtain ⟨d0, d1⟩ := Pnt.blk HG2.out.pd
            go_wp2
            go_ret
            exact ⟨by rw [HE.out]; rfl, HG2.out.bel⟩
      · rcases D3 with ⟨z3, q3⟩ | ⟨z3, q3⟩ | z3
        · have HE : Hid (linesB a b c d = true) := by show _ = _; rw [HL.out]; simp [hP, z1, z2, z3, q3]
          have E1 : Hid ((t1 == 0) = false) := by show _ = _; simp [z1]
          have E2 : Hid ((t2 == 0) = false) := by show _ = _; simp [z2]
          have E3 : Hid ((t3 == 0) = true) := by show _ = _; simp [z3]
          have Y3 := Lib.hid (HX3.out.trans q3)
          clear z1 z2 z3 q3
          clear D4
          have e1 := E1.out
          have e2 := E2.out
          have e3 := E3.out
          go_wp2_with fail
          refine (box5_eq c d a _ Y3.out).mono ?_
          rintro e v3 ⟨rfl, hv3⟩
          have HG3 := Lib.hid (Four.next hv3 HF4.out)
          clear a0 a1 b0 b1 c0 c1 d0 d1 hv3
          obtain ⟨a0, a1⟩ := Pnt.blk HG3.out.pa
          obtain ⟨b0, b1⟩ := Pnt.blk HG3.out.pb
          obtain ⟨c0, c1⟩ := Pnt.blk HG3.out.pc
          obtain ⟨d0, d1⟩ := Pnt.blk HG3.out.pd
          go_wp2
          go_ret
          exact ⟨by rw [HE.out]; rfl, HG3.out.bel⟩
        · rcases D4 with ⟨z4, q4⟩ | ⟨z4, q4⟩ | z4
          · have HE : Hid (linesB a b c d = true) := by show _ = _; rw [HL.out]; simp [hP, z1, z2, z3, z4, q3, q4]
            have E1 : Hid ((t1 == 0) = false) := by show _ = _; simp [z1]
            have E2 : Hid ((t2 == 0) = false) := by show _ = _; simp [z2]
            have E3 : Hid ((t3 == 0) = true) := by show _ = _; simp [z3]
            have Y3 := Lib.hid (HX3.out.trans q3)
            have E4 : Hid ((t4 == 0) = true) := by show _ = _; simp [z4]
            have Y4 := Lib.hid (HX4.out.trans q4)
            clear z1 z2 z3 z4 q3 q4
            have e1 := E1.out
            have e2 := E2.out
            have e3 := E3.out
            have e4 := E4.out
            go_wp2_with fail
            refine (box5_eq c d a _ Y3.out).mono ?_
            rintro e v3 ⟨rfl, hv3⟩
            have HG3 := Lib.hid (Four.next hv3 HF4.out)
            clear a0 a1 b0 b1 c0 c1 d0 d1 hv3
            obtain ⟨a0, a1⟩ := Pnt.blk HG3.out.pa
            obtain ⟨b0, b1⟩ := Pnt.blk HG3.out.pb
            obtain ⟨c0, c1⟩ := Pnt.blk HG3.out.pc
            obtain ⟨d0, d1⟩ := Pnt.blk HG3.out.pd
            go_wp2_with fail
            refine (box5_eq c d b _ Y4.out).mono ?_
            rintro e v4 ⟨rfl, hv4⟩
            have HG4 := Lib.hid (Four.next hv4 HG3.out)
            clear a0 a1 b0 b1 c0 c1 d0 d1 hv4
            obtain ⟨a0, a1⟩ := Pnt.blk HG4.out.pa
            obtain ⟨b0, b1⟩ := Pnt.blk HG4.out.pb
            obtain ⟨c0, c1⟩ := Pnt.blk HG4.out.pc
            obtain ⟨d0, d1⟩ := Pnt.blk HG4.out.pd
            go_wp2
            go_ret
            exact ⟨by rw [HE.out]; rfl, HG4.out.bel⟩
          · have HE : Hid (linesB a b c d = false) := by show _ = _; rw [HL.out]; simp [hP, z1, z2, z3, z4, q3, q4]
            have E1 : Hid ((t1 == 0) = false) := by show _ = _; simp [z1]
            have E2 : Hid ((t2 == 0) = false) := by show _ = _; simp [z2]
            have E3 : Hid ((t3 == 0) = true) := by show _ = _; simp [z3]
            have Y3 := Lib.hid (HX3.out.trans q3)
            have E4 : Hid ((t4 == 0) = true) := by show _ = _; simp [z4]
            have Y4 := Lib.hid (HX4.out.trans q4)
            clear z1 z2 z3 z4 q3 q4
            have e1 := E1.out
            have e2 := E2.out
            have e3 := E3.out
            have e4 := E4.out
            go_wp2_with fail
            refine (box5_eq c d a _ Y3.out).mono ?_
            rintro e v3 ⟨rfl, hv3⟩
            have HG3 := Lib.hid (Four.next hv3 HF4.out)
            clear a0 a1 b0 b1 c0 c1 d0 d1 hv3
            obtain ⟨a0, a1⟩ := Pnt.blk HG3.out.pa
            obtain ⟨b0, b1⟩ := Pnt.blk HG3.out.pb
            obtain ⟨c0, c1⟩ := Pnt.blk HG3.out.pc
            obtain ⟨d0, d1⟩ := Pnt.blk HG3.out.pd
            go_wp2_with fail
            refine (box5_eq c d b _ Y4.out).mono ?_
            rintro e v4 ⟨rfl, hv4⟩
            have HG4 := Lib.hid (Four.next hv4 HG3.out)
            clear a0 a1 b0 b1 c0 c1 d0 d1 hv4
            obtain ⟨a0, a1⟩ := Pnt.blk HG4.out.pa
            obtain ⟨b0, b1⟩ := Pnt.blk HG4.out.pb
            obtain ⟨c0, c1⟩ := Pnt.blk HG4.out.pc
            obtain ⟨d0, d1⟩ := Pnt.blk HG4.out.pd
            go_wp2
            go_ret
            exact ⟨by rw [HE.out]; rfl, HG4.out.bel⟩
          · have HE : Hid (linesB a b c d = false) := by show _ = _; rw [HL.out]; simp [hP, z1, z2, z3, z4, q3]
            have E1 : Hid ((t1 == 0) = false) := by show _ = _; simp [z1]
            have E2 : Hid ((t2 == 0) = false) := by show _ = _; simp [z2]
            have E3 : Hid ((t3 == 0) = true) := by show _ = _; simp [z3]
            have Y3 := Lib.hid (HX3.out.trans q3)
            have E4 : Hid ((t4 == 0) = false) := by show _ = _; simp [z4]
            clear z1 z2 z3 z4 q3
            have e1 := E1.out
            have e2 := E2.out
            have e3 := E3.out
            have e4 := E4.out
            go_wp2_with fail
            refine (box5_eq c d a _ Y3.out).mono ?_
            rintro e v3 ⟨rfl, hv3⟩
            have HG3 := Lib.hid (Four.next hv3 HF4.out)
            clear a0 a1 b0 b1 c0 c1 d0 d1 hv3
            obtain ⟨a0, a1⟩ := Pnt.blk HG3.out.pa
            obtain ⟨b0, b1⟩ := Pnt.blk HG3.out.pb
            obtain ⟨c0, c1⟩ := Pnt.blk HG3.out.pc
            obtain ⟨d0, d1⟩ := Pnt.blk HG3.out.pd
            go_wp2
            go_ret
            exact ⟨by rw [HE.out]; rfl, HG3.out.bel⟩
        · rcases D4 with ⟨z4, q4⟩ | ⟨z4, q4⟩ | z4
          · have HE : Hid (linesB a b c d = true) := by show _ = _; rw [HL.out]; simp [hP, z1, z2, z3, z4, q4]
            have E1 : Hid ((t1 == 0) = false) := by show _ = _; simp [z1]
            have E2 : Hid ((t2 == 0) = false) := by show _ = _; simp [z2]
            have E3 : Hid ((t3 == 0) = false) := by show _ = _; simp [z3]
            have E4 : Hid ((t4 == 0) = true) := by show _ = _; simp [z4]
            have Y4 := Lib.hid (HX4.out.trans q4)
            clear z1 z2 z3 z4 q4
            have e1 := E1.out
            have e2 := E2.out
            have e3 := E3.out
            have e4 := E4.out
            go_wp2_with fail
            refine (box5_eq c d b _ Y4.out).mono ?_
            rintro e v4 ⟨rfl, hv4⟩
            have HG4 := Lib.hid (Four.next hv4 HF4.out)
            clear a0 a1 b0 b1 c0 c1 d0 d1 hv4
            obtain ⟨a0, a1⟩ := Pnt.blk HG4.out.pa
            obtain ⟨b0, b1⟩ := Pnt.blk HG4.out.pb
            obtain ⟨c0, c1⟩ := Pnt.blk HG4.out.pc
            obtain ⟨d0, d1⟩ := Pnt.blk HG4.out.pd
            go_wp2
            go_ret
            exact ⟨by rw [HE.out]; rfl, HG4.out.bel⟩
          · have HE : Hid (linesB a b c d = false) := by show _ = _; rw [HL.out]; simp [hP, z1, z2, z3, z4, q4]
            have E1 : Hid ((t1 == 0) = false) := by show _ = _; simp [z1]
            have E2 : Hid ((t2 == 0) = false) := by show _ = _; simp [z2]
            have E3 : Hid ((t3 == 0) = false) := by show _ = _; simp [z3]
            have E4 : Hid ((t4 == 0) = true) := by show _ = _; simp [z4]
            have Y4 := Lib.hid (HX4.out.trans q4)
            clear z1 z2 z3 z4 q4
            have e1 := E1.out
            have e2 := E2.out
            have e3 := E3.out
            have e4 := E4.out
            go_wp2_with fail
            refine (box5_eq c d b _ Y4.out).mono ?_
            rintro e v4 ⟨rfl, hv4⟩
            have HG4 := Lib.hid (Four.next hv4 HF4.out)
            clear a0 a1 b0 b1 c0 c1 d0 d1 hv4
            obtain ⟨a0, a1⟩ := Pnt.blk HG4.out.pa
            obtain ⟨b0, b1⟩ := Pnt.blk HG4.out.pb
            obtain ⟨c0, c1⟩ := Pnt.blk HG4.out.pc
            obtain ⟨d0, d1⟩ := Pnt.blk HG4.out.pd
            go_wp2
            go_ret
            exact ⟨by rw [HE.out]; rfl, HG4.out.bel⟩
          · have HE : Hid (linesB a b c d = false) := by show _ = _; rw [HL.out]; simp [hP, z1, z2, z3, z4]
            have E1 : Hid ((t1 == 0) = false) := by show _ = _; simp [z1]
            have E2 : Hid ((t2 == 0) = false) := by show _ = _; simp [z2]
            have E3 : Hid ((t3 == 0) = false) := by show _ = _; simp [z3]
            have E4 : Hid ((t4 == 0) = false) := by show _ = _; simp [z4]
            clear z1 z2 z3 z4
            have e1 := E1.out
            have e2 := E2.out
            have e3 := E3.out
            have e4 := E4.out
            go_wp2
            go_ret
            exact ⟨by rw [HE.out]; rfl, HF4.out.bel⟩
end Go.Proofs.Ytencnldflnbdiaa
