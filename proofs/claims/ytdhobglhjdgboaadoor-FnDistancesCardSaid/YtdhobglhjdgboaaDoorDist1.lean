/- Distances: the program's small functions: side, square, coordOk, ValidSegment, sign, covers. -/
import Derived.Test.YtdhobglhjdgboaaDoorDistLaw
import Derived.Test.YtdhobglhjdgboaaDoorCmp
namespace Go.Proofs.YtdhobglhjdgboaaDoor
open Go.RowKit
set_option linter.unusedVariables false

def SgB (w : World) (b : Nat) (s : Seg) : Prop := Blk w b 72 #[.int .i64 s.ax, .int .i64 s.ay, .int .i64 s.bx, .int .i64 s.by_]
def PtB (w : World) (b : Nat) (p : Pt) : Prop := Blk w b 41 #[.int .i64 p.x, .int .i64 p.y]
def FrB (w : World) (b : Nat) (f : Fraction) : Prop := Blk w b 76 #[.int .i64 f.num, .int .i64 f.den]
section
variable {w w' : World} {b : Nat} {s : Seg} {p : Pt} {f : Fraction}
theorem SgB.bel (h : SgB w b s) (hb : Below w.heap.size w w') : SgB w' b s := Blk.bel h hb
theorem PtB.bel (h : PtB w b p) (hb : Below w.heap.size w w') : PtB w' b p := Blk.bel h hb
theorem FrB.bel (h : FrB w b f) (hb : Below w.heap.size w w') : FrB w' b f := Blk.bel h hb
theorem SgB.cells (h : SgB w b s) : w.cell? ⟨b, 0, none⟩ = some (.int .i64 s.ax) ∧ w.cell? ⟨b, 1, none⟩ = some (.int .i64 s.ay) ∧ w.cell? ⟨b, 2, none⟩ = some (.int .i64 s.bx) ∧ w.cell? ⟨b, 3, none⟩ = some (.int .i64 s.by_) := ⟨Blk.cell h 0, Blk.cell h 1, Blk.cell h 2, Blk.cell h 3⟩
theorem PtB.cells (h : PtB w b p) : w.cell? ⟨b, 0, none⟩ = some (.int .i64 p.x) ∧ w.cell? ⟨b, 1, none⟩ = some (.int .i64 p.y) := ⟨Blk.cell h 0, Blk.cell h 1⟩
theorem FrB.cells (h : FrB w b f) : w.cell? ⟨b, 0, none⟩ = some (.int .i64 f.num) ∧ w.cell? ⟨b, 1, none⟩ = some (.int .i64 f.den) := ⟨Blk.cell h 0, Blk.cell h 1⟩
theorem FrB.fro (h : FrB w b f) : w.frozen? ⟨b, 0, none⟩ = false ∧ w.frozen? ⟨b, 1, none⟩ = false := ⟨Blk.frozen h 0, Blk.frozen h 1⟩
end
/-- a call's own boxes: two segments; a segment and a point -/
theorem box_ss (w : World) (a b : Seg) {W : World} (hW : W = (w.alloc (.cells #[.int .i64 a.ax, .int .i64 a.ay, .int .i64 a.bx, .int .i64 a.by_] 72)).alloc (.cells #[.int .i64 b.ax, .int .i64 b.ay, .int .i64 b.bx, .int .i64 b.by_] 72)) :
    SgB W w.heap.size a ∧ SgB W (w.heap.size + 1) b ∧ Below w.heap.size w W := by
  subst hW
  exact ⟨(Blk.new _ _ _).alloc _, Blk.new_at rfl (by simp), ((Below.refl _ _).alloc (Nat.le_refl _) _).alloc (by simp) _⟩
theorem box_sp (w : World) (a : Seg) (p : Pt) {W : World} (hW : W = (w.alloc (.cells #[.int .i64 a.ax, .int .i64 a.ay, .int .i64 a.bx, .int .i64 a.by_] 72)).alloc (.cells #[.int .i64 p.x, .int .i64 p.y] 41)) :
    SgB W w.heap.size a ∧ PtB W (w.heap.size + 1) p ∧ Below w.heap.size w W := by
  subst hW
  exact ⟨(Blk.new _ _ _).alloc _, Blk.new_at rfl (by simp), ((Below.refl _ _).alloc (Nat.le_refl _) _).alloc (by simp) _⟩
set_option maxHeartbeats 1000000 in
theorem sideS_any (s : Seg) (p : Pt) (w : World) (hs : s.ok) (hp : p.ok) :
    Calls Tryd.prog 116 #[.agg #[.int .i64 s.ax, .int .i64 s.ay], .agg #[.int .i64 s.bx, .int .i64 s.by_], .agg #[.int .i64 p.x, .int .i64 p.y]] w fun e w' => e = .returned (.int .i64 (crossS s p)) ∧ Below w.heap.size w w' := by
  obtain ⟨a1, a2, a3, a4⟩ := hs
  obtain ⟨b1, b2⟩ := hp
  have a := mul_bd (a := s.bx - s.ax) (b := p.y - s.ay) (M := 1200) (N := 1200) (by omega) (by omega) (by omega) (by omega)
  have b := mul_bd (a := s.by_ - s.ay) (b := p.x - s.ax) (M := 1200) (N := 1200) (by omega) (by omega) (by omega) (by omega)
  have k1 : IntKind.i64.wrap (s.bx - s.ax) = s.bx - s.ax := wrapI (by omega)
  have k2 : IntKind.i64.wrap (p.y - s.ay) = p.y - s.ay := wrapI (by omega)
  have k3 : IntKind.i64.wrap (s.by_ - s.ay) = s.by_ - s.ay := wrapI (by omega)
  have k4 : IntKind.i64.wrap (p.x - s.ax) = p.x - s.ax := wrapI (by omega)
  have k5 : IntKind.i64.wrap ((s.bx - s.ax) * (p.y - s.ay)) = (s.bx - s.ax) * (p.y - s.ay) := wrapI (by omega)
  have k6 : IntKind.i64.wrap ((s.by_ - s.ay) * (p.x - s.ax)) = (s.by_ - s.ay) * (p.x - s.ax) := wrapI (by omega)
  have k7 : IntKind.i64.wrap ((s.bx - s.ax) * (p.y - s.ay) - (s.by_ - s.ay) * (p.x - s.ax)) = (s.bx - s.ax) * (p.y - s.ay) - (s.by_ - s.ay) * (p.x - s.ax) := wrapI (by omega)
  go_enter Tryd.func116, Tryd.ntmps116
  go_wp2
  go_ret
  exact ⟨rfl, (((Below.refl _ _).alloc (Nat.le_refl _) _).alloc (by simp) _).alloc (by simp; omega) _⟩
set_option maxHeartbeats 1000000 in
theorem squareS_any (p q : Pt) (w : World) (hp : p.ok) (hq : q.ok) :
    Calls Tryd.prog 186 #[.agg #[.int .i64 p.x, .int .i64 p.y], .agg #[.int .i64 q.x, .int .i64 q.y]] w fun e w' => e = .returned (.int .i64 (sqP p q)) ∧ Below w.heap.size w w' := by
  obtain ⟨a1, a2⟩ := hp
  obtain ⟨b1, b2⟩ := hq
  have a := sq_bd (a := p.x - q.x) (M := 1200) (by omega) (by omega)
  have b := sq_bd (a := p.y - q.y) (M := 1200) (by omega) (by omega)
  have k1 : IntKind.i64.wrap (p.x - q.x) = p.x - q.x := wrapI (by omega)
  have k2 : IntKind.i64.wrap (p.y - q.y) = p.y - q.y := wrapI (by omega)
  have k3 : IntKind.i64.wrap ((p.x - q.x) * (p.x - q.x)) = (p.x - q.x) * (p.x - q.x) := wrapI (by omega)
  have k4 : IntKind.i64.wrap ((p.y - q.y) * (p.y - q.y)) = (p.y - q.y) * (p.y - q.y) := wrapI (by omega)
  have k5 : IntKind.i64.wrap ((p.x - q.x) * (p.x - q.x) + (p.y - q.y) * (p.y - q.y)) = (p.x - q.x) * (p.x - q.x) + (p.y - q.y) * (p.y - q.y) := wrapI (by omega)
  go_enter Tryd.func186, Tryd.ntmps186
  go_wp2
  go_quiet (fail)
  go_wp2
  go_ret
  exact ⟨rfl, bel_drewN (((Below.refl _ _).alloc (Nat.le_refl _) _).alloc (by simp) _) _⟩
set_option maxHeartbeats 1000000 in
theorem coordOk_any (p : Pt) (w : World) (hp : p.ok) :
    Calls Tryd.prog 108 #[.agg #[.int .i64 p.x, .int .i64 p.y]] w fun e w' => e = .returned (.bool true) ∧ Below w.heap.size w w' := by
  obtain ⟨a1, a2⟩ := hp
  have i1 : inB p.x (-11000) 11000 = true := inB_true.2 (by omega)
  have i2 : inB p.y (-11000) 11000 = true := inB_true.2 (by omega)
  go_enter Tryd.func108, Tryd.ntmps108
  go_wp2_with fail
  refine (withinF_eq _ _ _ _ i1).mono ?_
  rintro e w1 ⟨rfl, hb1⟩
  have c1 : w1.cell? ⟨w.heap.size, 1, none⟩ = some (.int .i64 p.y) := (hb1.cell (p := ⟨w.heap.size, 1, none⟩) (by simp)).trans (by simp)
  have B1 := ((Below.refl w.heap.size w).alloc (Nat.le_refl _) (.cells #[.int .i64 p.x, .int .i64 p.y] 41)).trans (hb1.mono (by simp))
  have HB1 := Lib.hid B1
  clear hb1 B1
  go_wp2_with fail
  refine (withinF_eq _ _ _ _ i2).mono ?_
  rintro e w2 ⟨rfl, hb2⟩
  go_wp2
  go_ret
  exact ⟨rfl, HB1.out.trans (hb2.mono HB1.out.size)⟩
set_option maxHeartbeats 1000000 in
theorem signS_any (n : Int) (w : World) : Calls Tryd.prog 115 #[.int .i64 n] w fun e w' => e = .returned (.int .i64 (sgn n 0)) ∧ Below w.heap.size w w' := by
  go_enter Tryd.func115, Tryd.ntmps115
  go_wp2_with fail
  refine (cmpInt_any n 0 w).mono ?_
  rintro e w1 ⟨rfl, rfl⟩
  go_wp2
  go_ret
  exact ⟨rfl, Below.refl _ _⟩
set_option maxHeartbeats 1000000 in
theorem validSegment_any (s : Seg) (w : World) (hs : s.ok) :
    Calls Tryd.prog 106 #[.agg #[.int .i64 s.ax, .int .i64 s.ay, .int .i64 s.bx, .int .i64 s.by_]] w fun e w' => e = .returned (.bool true) ∧ Below w.heap.size w w' := by
  obtain ⟨W, hW⟩ : ∃ W : World, W = w.alloc (.cells #[.int .i64 s.ax, .int .i64 s.ay, .int .i64 s.bx, .int .i64 s.by_] 72) := ⟨_, rfl⟩
  have S : SgB W w.heap.size s := by rw [hW]; exact Blk.new _ _ _
  have B : Below w.heap.size w W := by rw [hW]; exact (Below.refl _ _).alloc (Nat.le_refl _) _
  have HS := Lib.hid S
  have HB := Lib.hid B
  clear B
  obtain ⟨c0, c1, c2, c3⟩ := S.cells
  clear S
  go_enter Tryd.func106, Tryd.ntmps106
  go_wp2_with fail
  rw [← hW]
  refine (coordOk_any (ptA s) W (ptA_ok hs)).mono ?_
  rintro e w1 ⟨rfl, hb1⟩
  clear c0 c1 c2 c3
  obtain ⟨c0, c1, c2, c3⟩ := (HS.out.bel hb1).cells
  have HB1 := Lib.hid (HB.out.trans (hb1.mono HB.out.size))
  clear hb1 hW
  go_wp2_with fail
  refine (coordOk_any (ptB s) w1 (ptB_ok hs)).mono ?_
  rintro e w2 ⟨rfl, hb2⟩
  go_wp2
  go_ret
  exact ⟨rfl, HB1.out.trans (hb2.mono HB1.out.size)⟩
theorem cvB_cases (s : Seg) (p : Pt) : ((crossS s p == 0) = false ∧ cvB s p = false) ∨ ((crossS s p == 0) = true ∧ inB p.x (min s.ax s.bx) (max s.ax s.bx) = false ∧ cvB s p = false) ∨ ((crossS s p == 0) = true ∧ inB p.x (min s.ax s.bx) (max s.ax s.bx) = true ∧ inB p.y (min s.ay s.by_) (max s.ay s.by_) = cvB s p) := by
  unfold cvB
  by_cases h : crossS s p = 0
  · rw [decide_eq_true h]
    cases h1 : inB p.x (min s.ax s.bx) (max s.ax s.bx)
    · exact .inr (.inl ⟨beq_iff_eq.2 h, rfl, rfl⟩)
    · exact .inr (.inr ⟨beq_iff_eq.2 h, rfl, by simp⟩)
  · exact .inl ⟨beq_eq_false_iff_ne.2 h, by rw [decide_eq_false h]; rfl⟩
set_option maxHeartbeats 1000000 in
theorem covers_any (s : Seg) (p : Pt) (w : World) (hs : s.ok) (hp : p.ok) {v : Bool} (hv : cvB s p = v) :
    Calls Tryd.prog 193 #[.agg #[.int .i64 s.ax, .int .i64 s.ay, .int .i64 s.bx, .int .i64 s.by_], .agg #[.int .i64 p.x, .int .i64 p.y]] w fun e w' => e = .returned (.bool v) ∧ Below w.heap.size w w' := by
  have HC := Lib.hid (cvB_cases s p)
  rw [hv] at HC
  clear hv
  obtain ⟨W, hW⟩ : ∃ W : World, W = (w.alloc (.cells #[.int .i64 s.ax, .int .i64 s.ay, .int .i64 s.bx, .int .i64 s.by_] 72)).alloc (.cells #[.int .i64 p.x, .int .i64 p.y] 41) := ⟨_, rfl⟩
  obtain ⟨S, T, B⟩ := box_sp w s p hW
  have HS := Lib.hid S
  have HT := Lib.hid T
  have HB := Lib.hid B
  clear B
  obtain ⟨c0, c1, c2, c3⟩ := S.cells
  obtain ⟨d0, d1⟩ := T.cells
  clear S T
  go_enter Tryd.func193, Tryd.ntmps193
  go_wp2_with fail
  rw [← hW]
  refine (sideS_any s p W hs hp).mono ?_
  rintro e w1 ⟨rfl, hb1⟩
  clear c0 c1 c2 c3 d0 d1
  have HS1 := Lib.hid (HS.out.bel hb1)
  have HT1 := Lib.hid (HT.out.bel hb1)
  obtain ⟨c0, c1, c2, c3⟩ := HS1.out.cells
  obtain ⟨d0, d1⟩ := HT1.out.cells
  have HB1 := Lib.hid (HB.out.trans (hb1.mono HB.out.size))
  clear hb1 hW
  rcases HC.out with ⟨b1, hc⟩ | ⟨b1, b2, hc⟩ | ⟨b1, b2, hc⟩
  · subst hc
    go_wp2
    go_ret
    exact ⟨rfl, HB1.out⟩
  · subst hc
    clear HC
    go_wp2_with fail
    all_goals
      refine (withinF_eq _ _ _ _ (v := false) (by rw [← b2]; congr 1 <;> omega)).mono ?_
      rintro e w2 ⟨rfl, hb2⟩
      go_wp2
      go_ret
      exact ⟨rfl, HB1.out.trans (hb2.mono HB1.out.size)⟩
  · have HV := Lib.hid hc
    clear hc HC
    go_wp2_with fail
    all_goals
      refine (withinF_eq _ _ _ _ (v := true) (by rw [← b2]; congr 1 <;> omega)).mono ?_
      rintro e w2 ⟨rfl, hb2⟩
      clear c0 c1 c2 c3 d0 d1
      obtain ⟨c0, c1, c2, c3⟩ := (HS1.out.bel hb2).cells
      obtain ⟨d0, d1⟩ := (HT1.out.bel hb2).cells
      have HB2 := Lib.hid (HB1.out.trans (hb2.mono HB1.out.size))
      clear hb2
      go_wp2_with fail
      all_goals
        refine (withinF_eq _ _ _ _ (v := v) (by rw [← HV.out]; congr 1 <;> omega)).mono ?_
        rintro e w3 ⟨rfl, hb3⟩
        go_wp2
        go_ret
        exact ⟨rfl, HB2.out.trans (hb3.mono HB2.out.size)⟩
end Go.Proofs.YtdhobglhjdgboaaDoor
