/- Distances: SegmentSquare, PointSquare, SegmentsMeet, SideOf, NearerThan of the program. -/
import Derived.Test.YtdhobglhjdgboaaDoorDist4
namespace Go.Proofs.YtdhobglhjdgboaaDoor
open Go.RowKit Go.Sort
set_option linter.unusedVariables false

set_option maxRecDepth 100000 in
set_option maxHeartbeats 1000000 in
theorem segmentSquareC_any (a b : Seg) (w : World) (h1 : a.ok) (h2 : b.ok) :
    Calls Tryd.prog 37 #[.agg #[.int .i64 a.ax, .int .i64 a.ay, .int .i64 a.bx, .int .i64 a.by_], .agg #[.int .i64 b.ax, .int .i64 b.ay, .int .i64 b.bx, .int .i64 b.by_]] w fun e w' => e = .returned (.tuple #[.agg #[.int .i64 (ssF a b).num, .int .i64 (ssF a b).den], .int .i64 0]) ∧ RowKit.Below w.heap.size w w' := by
  obtain ⟨W0, hW⟩ : ∃ W0 : World, W0 = ((w.alloc (.cells #[.int .i64 a.ax, .int .i64 a.ay, .int .i64 a.bx, .int .i64 a.by_] 72)).alloc (.cells #[.int .i64 b.ax, .int .i64 b.ay, .int .i64 b.bx, .int .i64 b.by_] 72)).alloc (.cells #[.int .i64 0, .int .i64 0] 76) := ⟨_, rfl⟩
  obtain ⟨S, T, F, B⟩ := box_ssf w a b hW
  have HS0 := Lib.hid S
  have HT0 := Lib.hid T
  have HF0 := Lib.hid F
  have HB0 := Lib.hid B
  clear B F
  obtain ⟨c0, c1, c2, c3⟩ := S.cells
  obtain ⟨d0, d1, d2, d3⟩ := T.cells
  clear S T
  go_enter Tryd.func37, Tryd.ntmps37
  go_wp2_with fail
  rw [← hW]
  clear hW
  refine (validSegment_any a _ h1).mono ?_
  rintro e w1 ⟨rfl, hb1⟩
  clear c0 c1 c2 c3 d0 d1 d2 d3
  have HS1 := Lib.hid (HS0.out.bel hb1)
  have HT1 := Lib.hid (HT0.out.bel hb1)
  have HF1 := Lib.hid (HF0.out.bel hb1)
  have HB1 := Lib.hid (HB0.out.trans (hb1.mono HB0.out.size))
  clear hb1
  obtain ⟨c0, c1, c2, c3⟩ := HS1.out.cells
  obtain ⟨d0, d1, d2, d3⟩ := HT1.out.cells
  go_wp2_with fail
  refine (validSegment_any b _ h2).mono ?_
  rintro e w2 ⟨rfl, hb2⟩
  clear c0 c1 c2 c3 d0 d1 d2 d3
  have HS2 := Lib.hid (HS1.out.bel hb2)
  have HT2 := Lib.hid (HT1.out.bel hb2)
  have HF2 := Lib.hid (HF1.out.bel hb2)
  have HB2 := Lib.hid (HB1.out.trans (hb2.mono HB1.out.size))
  clear hb2
  obtain ⟨c0, c1, c2, c3⟩ := HS2.out.cells
  obtain ⟨d0, d1, d2, d3⟩ := HT2.out.cells
  go_wp2_with fail
  refine (segmentSquareF_any a b _ h1 h2).mono ?_
  rintro e w3 ⟨rfl, hb3⟩
  clear c0 c1 c2 c3 d0 d1 d2 d3
  have HS3 := Lib.hid (HS2.out.bel hb3)
  have HT3 := Lib.hid (HT2.out.bel hb3)
  have HF3 := Lib.hid (HF2.out.bel hb3)
  have HB3 := Lib.hid (HB2.out.trans (hb3.mono HB2.out.size))
  clear hb3
  obtain ⟨c0, c1, c2, c3⟩ := HS3.out.cells
  obtain ⟨d0, d1, d2, d3⟩ := HT3.out.cells
  obtain ⟨c0', c1'⟩ := HF3.out.cells
  obtain ⟨f0, f1⟩ := HF3.out.fro
  go_wp2
  exact bodyPost_ret (v := .tuple #[.agg #[.int .i64 (ssF a b).num, .int .i64 (ssF a b).den], .int .i64 0]) (by simp [results, Tryd.results37, go_sem, c0', c1']) rfl ⟨rfl, (HB3.out.setCell (p := ⟨w.heap.size + 1 + 1, 0, none⟩) (by show _ ≤ w.heap.size + 1 + 1; omega) _).setCell (p := ⟨w.heap.size + 1 + 1, 1, none⟩) (by show _ ≤ w.heap.size + 1 + 1; omega) _⟩
set_option maxRecDepth 100000 in
set_option maxHeartbeats 1000000 in
theorem pointSquareC_any (s : Seg) (p : Pt) (w : World) (h1 : s.ok) (h2 : p.ok) :
    Calls Tryd.prog 38 #[.agg #[.int .i64 s.ax, .int .i64 s.ay, .int .i64 s.bx, .int .i64 s.by_], .agg #[.int .i64 p.x, .int .i64 p.y]] w fun e w' => e = .returned (.tuple #[.agg #[.int .i64 (psF s p).num, .int .i64 (psF s p).den], .int .i64 0]) ∧ RowKit.Below w.heap.size w w' := by
  obtain ⟨W0, hW⟩ : ∃ W0 : World, W0 = ((w.alloc (.cells #[.int .i64 s.ax, .int .i64 s.ay, .int .i64 s.bx, .int .i64 s.by_] 72)).alloc (.cells #[.int .i64 p.x, .int .i64 p.y] 41)).alloc (.cells #[.int .i64 0, .int .i64 0] 76) := ⟨_, rfl⟩
  obtain ⟨S, T, F, B⟩ := box_spf w s p hW
  have HS0 := Lib.hid S
  have HT0 := Lib.hid T
  have HF0 := Lib.hid F
  have HB0 := Lib.hid B
  clear B F
  obtain ⟨c0, c1, c2, c3⟩ := S.cells
  obtain ⟨d0, d1⟩ := T.cells
  clear S T
  go_enter Tryd.func38, Tryd.ntmps38
  go_wp2_with fail
  rw [← hW]
  clear hW
  refine (validSegment_any s _ h1).mono ?_
  rintro e w1 ⟨rfl, hb1⟩
  clear c0 c1 c2 c3 d0 d1
  have HS1 := Lib.hid (HS0.out.bel hb1)
  have HT1 := Lib.hid (HT0.out.bel hb1)
  have HF1 := Lib.hid (HF0.out.bel hb1)
  have HB1 := Lib.hid (HB0.out.trans (hb1.mono HB0.out.size))
  clear hb1
  obtain ⟨c0, c1, c2, c3⟩ := HS1.out.cells
  obtain ⟨d0, d1⟩ := HT1.out.cells
  go_wp2_with fail
  refine (coordOk_any p _ h2).mono ?_
  rintro e w2 ⟨rfl, hb2⟩
  clear c0 c1 c2 c3 d0 d1
  have HS2 := Lib.hid (HS1.out.bel hb2)
  have HT2 := Lib.hid (HT1.out.bel hb2)
  have HF2 := Lib.hid (HF1.out.bel hb2)
  have HB2 := Lib.hid (HB1.out.trans (hb2.mono HB1.out.size))
  clear hb2
  obtain ⟨c0, c1, c2, c3⟩ := HS2.out.cells
  obtain ⟨d0, d1⟩ := HT2.out.cells
  go_wp2_with fail
  refine (pointSquareS_any s p _ h1 h2).mono ?_
  rintro e w3 ⟨rfl, hb3⟩
  clear c0 c1 c2 c3 d0 d1
  have HS3 := Lib.hid (HS2.out.bel hb3)
  have HT3 := Lib.hid (HT2.out.bel hb3)
  have HF3 := Lib.hid (HF2.out.bel hb3)
  have HB3 := Lib.hid (HB2.out.trans (hb3.mono HB2.out.size))
  clear hb3
  obtain ⟨c0, c1, c2, c3⟩ := HS3.out.cells
  obtain ⟨d0, d1⟩ := HT3.out.cells
  obtain ⟨c0', c1'⟩ := HF3.out.cells
  obtain ⟨f0, f1⟩ := HF3.out.fro
  go_wp2
  exact bodyPost_ret (v := .tuple #[.agg #[.int .i64 (psF s p).num, .int .i64 (psF s p).den], .int .i64 0]) (by simp [results, Tryd.results38, go_sem, c0', c1']) rfl ⟨rfl, (HB3.out.setCell (p := ⟨w.heap.size + 1 + 1, 0, none⟩) (by show _ ≤ w.heap.size + 1 + 1; omega) _).setCell (p := ⟨w.heap.size + 1 + 1, 1, none⟩) (by show _ ≤ w.heap.size + 1 + 1; omega) _⟩
set_option maxRecDepth 100000 in
set_option maxHeartbeats 1000000 in
theorem segmentsMeet_any (a b : Seg) (w : World) (h1 : a.ok) (h2 : b.ok) {v : Bool} (hv : meetB a b = v) :
    Calls Tryd.prog 40 #[.agg #[.int .i64 a.ax, .int .i64 a.ay, .int .i64 a.bx, .int .i64 a.by_], .agg #[.int .i64 b.ax, .int .i64 b.ay, .int .i64 b.bx, .int .i64 b.by_]] w fun e w' => e = .returned (.bool v) ∧ RowKit.Below w.heap.size w w' := by
  obtain ⟨W0, hW⟩ : ∃ W0 : World, W0 = (w.alloc (.cells #[.int .i64 a.ax, .int .i64 a.ay, .int .i64 a.bx, .int .i64 a.by_] 72)).alloc (.cells #[.int .i64 b.ax, .int .i64 b.ay, .int .i64 b.bx, .int .i64 b.by_] 72) := ⟨_, rfl⟩
  obtain ⟨S, T, B⟩ := box_ss w a b hW
  have HS0 := Lib.hid S
  have HT0 := Lib.hid T
  have HB0 := Lib.hid B
  clear B
  obtain ⟨c0, c1, c2, c3⟩ := S.cells
  obtain ⟨d0, d1, d2, d3⟩ := T.cells
  clear S T
  go_enter Tryd.func40, Tryd.ntmps40
  go_wp2_with fail
  rw [← hW]
  clear hW
  refine (validSegment_any a _ h1).mono ?_
  rintro e w1 ⟨rfl, hb1⟩
  clear c0 c1 c2 c3 d0 d1 d2 d3
  have HS1 := Lib.hid (HS0.out.bel hb1)
  have HT1 := Lib.hid (HT0.out.bel hb1)
  have HB1 := Lib.hid (HB0.out.trans (hb1.mono HB0.out.size))
  clear hb1
  obtain ⟨c0, c1, c2, c3⟩ := HS1.out.cells
  obtain ⟨d0, d1, d2, d3⟩ := HT1.out.cells
  go_wp2_with fail
  refine (validSegment_any b _ h2).mono ?_
  rintro e w2 ⟨rfl, hb2⟩
  clear c0 c1 c2 c3 d0 d1 d2 d3
  have HS2 := Lib.hid (HS1.out.bel hb2)
  have HT2 := Lib.hid (HT1.out.bel hb2)
  have HB2 := Lib.hid (HB1.out.trans (hb2.mono HB1.out.size))
  clear hb2
  obtain ⟨c0, c1, c2, c3⟩ := HS2.out.cells
  obtain ⟨d0, d1, d2, d3⟩ := HT2.out.cells
  go_wp2_with fail
  refine (meet_any a b _ h1 h2 hv).mono ?_
  rintro e w3 ⟨rfl, hb3⟩
  clear c0 c1 c2 c3 d0 d1 d2 d3
  have HS3 := Lib.hid (HS2.out.bel hb3)
  have HT3 := Lib.hid (HT2.out.bel hb3)
  have HB3 := Lib.hid (HB2.out.trans (hb3.mono HB2.out.size))
  clear hb3
  obtain ⟨c0, c1, c2, c3⟩ := HS3.out.cells
  obtain ⟨d0, d1, d2, d3⟩ := HT3.out.cells
  go_wp2
  go_ret
  exact ⟨rfl, HB3.out⟩
set_option maxRecDepth 100000 in
set_option maxHeartbeats 1000000 in
theorem sideOf_any (s : Seg) (p : Pt) (w : World) (h1 : s.ok) (h2 : p.ok) :
    Calls Tryd.prog 44 #[.agg #[.int .i64 s.ax, .int .i64 s.ay, .int .i64 s.bx, .int .i64 s.by_], .agg #[.int .i64 p.x, .int .i64 p.y]] w fun e w' => e = .returned (.tuple #[.int .i64 (sgn (crossS s p) 0), .int .i64 0]) ∧ RowKit.Below w.heap.size w w' := by
  obtain ⟨W0, hW⟩ : ∃ W0 : World, W0 = (w.alloc (.cells #[.int .i64 s.ax, .int .i64 s.ay, .int .i64 s.bx, .int .i64 s.by_] 72)).alloc (.cells #[.int .i64 p.x, .int .i64 p.y] 41) := ⟨_, rfl⟩
  obtain ⟨S, T, B⟩ := box_sp w s p hW
  have HS0 := Lib.hid S
  have HT0 := Lib.hid T
  have HB0 := Lib.hid B
  clear B
  obtain ⟨c0, c1, c2, c3⟩ := S.cells
  obtain ⟨d0, d1⟩ := T.cells
  clear S T
  go_enter Tryd.func44, Tryd.ntmps44
  go_wp2_with fail
  rw [← hW]
  clear hW
  refine (validSegment_any s _ h1).mono ?_
  rintro e w1 ⟨rfl, hb1⟩
  clear c0 c1 c2 c3 d0 d1
  have HS1 := Lib.hid (HS0.out.bel hb1)
  have HT1 := Lib.hid (HT0.out.bel hb1)
  have HB1 := Lib.hid (HB0.out.trans (hb1.mono HB0.out.size))
  clear hb1
  obtain ⟨c0, c1, c2, c3⟩ := HS1.out.cells
  obtain ⟨d0, d1⟩ := HT1.out.cells
  go_wp2_with fail
  refine (coordOk_any p _ h2).mono ?_
  rintro e w2 ⟨rfl, hb2⟩
  clear c0 c1 c2 c3 d0 d1
  have HS2 := Lib.hid (HS1.out.bel hb2)
  have HT2 := Lib.hid (HT1.out.bel hb2)
  have HB2 := Lib.hid (HB1.out.trans (hb2.mono HB1.out.size))
  clear hb2
  obtain ⟨c0, c1, c2, c3⟩ := HS2.out.cells
  obtain ⟨d0, d1⟩ := HT2.out.cells
  go_wp2_with fail
  refine (sideS_any s p _ h1 h2).mono ?_
  rintro e w3 ⟨rfl, hb3⟩
  clear c0 c1 c2 c3 d0 d1
  have HS3 := Lib.hid (HS2.out.bel hb3)
  have HT3 := Lib.hid (HT2.out.bel hb3)
  have HB3 := Lib.hid (HB2.out.trans (hb3.mono HB2.out.size))
  clear hb3
  obtain ⟨c0, c1, c2, c3⟩ := HS3.out.cells
  obtain ⟨d0, d1⟩ := HT3.out.cells
  go_wp2_with fail
  refine (signS_any _ _).mono ?_
  rintro e w4 ⟨rfl, hb4⟩
  clear c0 c1 c2 c3 d0 d1
  have HS4 := Lib.hid (HS3.out.bel hb4)
  have HT4 := Lib.hid (HT3.out.bel hb4)
  have HB4 := Lib.hid (HB3.out.trans (hb4.mono HB3.out.size))
  clear hb4
  obtain ⟨c0, c1, c2, c3⟩ := HS4.out.cells
  obtain ⟨d0, d1⟩ := HT4.out.cells
  go_wp2
  go_ret2
  exact ⟨rfl, HB4.out⟩
set_option maxRecDepth 100000 in
set_option maxHeartbeats 1000000 in
theorem nearerF_any (a b : Seg) (w : World) (h1 : a.ok) (h2 : b.ok) (g : Int) (hg : 0 ≤ g ∧ g ≤ 50000) {v : Bool} (hv : decide ((ssF a b).num < g * g * (ssF a b).den) = v) :
    Calls Tryd.prog 114 #[.agg #[.int .i64 a.ax, .int .i64 a.ay, .int .i64 a.bx, .int .i64 a.by_], .agg #[.int .i64 b.ax, .int .i64 b.ay, .int .i64 b.bx, .int .i64 b.by_], .int .i64 g] w fun e w' => e = .returned (.bool v) ∧ RowKit.Below w.heap.size w w' := by
  obtain ⟨W0, hW⟩ : ∃ W0 : World, W0 = (w.alloc (.cells #[.int .i64 a.ax, .int .i64 a.ay, .int .i64 a.bx, .int .i64 a.by_] 72)).alloc (.cells #[.int .i64 b.ax, .int .i64 b.ay, .int .i64 b.bx, .int .i64 b.by_] 72) := ⟨_, rfl⟩
  obtain ⟨S, T, B⟩ := box_ss w a b hW
  have HS0 := Lib.hid S
  have HT0 := Lib.hid T
  have HB0 := Lib.hid B
  clear B
  obtain ⟨c0, c1, c2, c3⟩ := S.cells
  obtain ⟨d0, d1, d2, d3⟩ := T.cells
  clear S T
  have HV := Lib.hid hv
  have hsm := ss_small2 h1 h2
  have hnn : 0 ≤ (ssF a b).num ∧ 1 ≤ (ssF a b).den := by
    obtain ⟨x, y, e, _, hy, _⟩ := fracOk_nat (ss_ok h1 h2)
    rw [e]; exact ⟨by show (0 : Int) ≤ (x : Int); omega, by show (1 : Int) ≤ (y : Int); omega⟩
  clear hv
  obtain ⟨⟨N, M⟩, hf⟩ : ∃ f, ssF a b = f := ⟨_, rfl⟩
  have HF := Lib.hid hf
  rw [hf] at HV hsm hnn
  dsimp only at HV hsm hnn
  clear hf
  have hgg : 0 ≤ g * g ∧ g * g ≤ 2500000000 := sq_bd (M := 50000) (by omega) (by omega)
  have k1 : IntKind.i64.wrap (g * g) = g * g := wrapI (by omega)
  have hgm : 0 ≤ g * g * M ∧ g * g * M ≤ 2500000000 * 2880000 := ⟨Int.mul_nonneg hgg.1 (by omega), Int.mul_le_mul hgg.2 hsm.2 (by omega) (by omega)⟩
  have k2 : IntKind.i64.wrap (g * g * M) = g * g * M := wrapI (by omega)
  go_enter Tryd.func114, Tryd.ntmps114
  go_wp2_with fail
  rw [← hW]
  clear hW
  refine (segmentSquareF_any a b _ h1 h2).mono ?_
  rintro e w1 ⟨rfl, hb1⟩
  clear c0 c1 c2 c3 d0 d1 d2 d3
  have HS1 := Lib.hid (HS0.out.bel hb1)
  have HT1 := Lib.hid (HT0.out.bel hb1)
  have HB1 := Lib.hid (HB0.out.trans (hb1.mono HB0.out.size))
  clear hb1
  obtain ⟨c0, c1, c2, c3⟩ := HS1.out.cells
  obtain ⟨d0, d1, d2, d3⟩ := HT1.out.cells
  rw [HF.out]
  dsimp only
  have hV2 := HV.out
  go_wp2
  go_ret
  exact ⟨by rw [← HV.out]; rfl, HB1.out.alloc HB1.out.size _⟩
set_option maxRecDepth 100000 in
set_option maxHeartbeats 1000000 in
theorem nearerThan_any (a b : Seg) (w : World) (h1 : a.ok) (h2 : b.ok) (g : Int) (hg : 0 ≤ g ∧ g ≤ 50000) {v : Bool} (hv : decide ((ssF a b).num < g * g * (ssF a b).den) = v) :
    Calls Tryd.prog 43 #[.agg #[.int .i64 a.ax, .int .i64 a.ay, .int .i64 a.bx, .int .i64 a.by_], .agg #[.int .i64 b.ax, .int .i64 b.ay, .int .i64 b.bx, .int .i64 b.by_], .int .i64 g] w fun e w' => e = .returned (.tuple #[.bool v, .int .i64 0]) ∧ RowKit.Below w.heap.size w w' := by
  obtain ⟨W0, hW⟩ : ∃ W0 : World, W0 = (w.alloc (.cells #[.int .i64 a.ax, .int .i64 a.ay, .int .i64 a.bx, .int .i64 a.by_] 72)).alloc (.cells #[.int .i64 b.ax, .int .i64 b.ay, .int .i64 b.bx, .int .i64 b.by_] 72) := ⟨_, rfl⟩
  obtain ⟨S, T, B⟩ := box_ss w a b hW
  have HS0 := Lib.hid S
  have HT0 := Lib.hid T
  have HB0 := Lib.hid B
  clear B
  obtain ⟨c0, c1, c2, c3⟩ := S.cells
  obtain ⟨d0, d1, d2, d3⟩ := T.cells
  clear S T
  have hin : inB g 0 50000 = true := inB_true.2 hg
  go_enter Tryd.func43, Tryd.ntmps43
  go_wp2_with fail
  rw [← hW]
  clear hW
  refine (validSegment_any a _ h1).mono ?_
  rintro e w1 ⟨rfl, hb1⟩
  clear c0 c1 c2 c3 d0 d1 d2 d3
  have HS1 := Lib.hid (HS0.out.bel hb1)
  have HT1 := Lib.hid (HT0.out.bel hb1)
  have HB1 := Lib.hid (HB0.out.trans (hb1.mono HB0.out.size))
  clear hb1
  obtain ⟨c0, c1, c2, c3⟩ := HS1.out.cells
  obtain ⟨d0, d1, d2, d3⟩ := HT1.out.cells
  go_wp2_with fail
  refine (validSegment_any b _ h2).mono ?_
  rintro e w2 ⟨rfl, hb2⟩
  clear c0 c1 c2 c3 d0 d1 d2 d3
  have HS2 := Lib.hid (HS1.out.bel hb2)
  have HT2 := Lib.hid (HT1.out.bel hb2)
  have HB2 := Lib.hid (HB1.out.trans (hb2.mono HB1.out.size))
  clear hb2
  obtain ⟨c0, c1, c2, c3⟩ := HS2.out.cells
  obtain ⟨d0, d1, d2, d3⟩ := HT2.out.cells
  go_wp2_with fail
  refine (withinF_eq _ _ _ _ hin).mono ?_
  rintro e w3 ⟨rfl, hb3⟩
  clear c0 c1 c2 c3 d0 d1 d2 d3
  have HS3 := Lib.hid (HS2.out.bel hb3)
  have HT3 := Lib.hid (HT2.out.bel hb3)
  have HB3 := Lib.hid (HB2.out.trans (hb3.mono HB2.out.size))
  clear hb3
  obtain ⟨c0, c1, c2, c3⟩ := HS3.out.cells
  obtain ⟨d0, d1, d2, d3⟩ := HT3.out.cells
  go_wp2_with fail
  refine (nearerF_any a b _ h1 h2 g hg hv).mono ?_
  rintro e w4 ⟨rfl, hb4⟩
  clear c0 c1 c2 c3 d0 d1 d2 d3
  have HS4 := Lib.hid (HS3.out.bel hb4)
  have HT4 := Lib.hid (HT3.out.bel hb4)
  have HB4 := Lib.hid (HB3.out.trans (hb4.mono HB3.out.size))
  clear hb4
  obtain ⟨c0, c1, c2, c3⟩ := HS4.out.cells
  obtain ⟨d0, d1, d2, d3⟩ := HT4.out.cells
  go_wp2
  go_ret2
  exact ⟨rfl, HB4.out⟩
end Go.Proofs.YtdhobglhjdgboaaDoor
