/- Crane: the record (points in it, a slice at its end), and the contracts of the laws' own functions over it: size, copy, equality. -/
import Derived.Test.YtdhobglhjdgboaaDoorProg
import Derived.Test.YtdhobglhjdgboaaDoorNest2
import Derived.Test.YtdhobglhjdgboaaDoorPoint
import Derived.Test.YtdhobglhjdgboaaDoorPut
import Derived.Test.YtdhobglhjdgboaaDoorRChartStep
import Derived.Deep.RegionHeld3
import Derived.Deep.QuietTactic
import Derived.BigQuiet
import Derived.KernelRfl
namespace Go.Proofs.YtdhobglhjdgboaaDoor
open Go.RowKit
set_option linter.unusedVariables false

structure CraneV where
  name : ByteArray
  ax : Int
  ay : Int
  height : Int
  jib : Int
  back : Int
/-- the record and where its slice lies -/
structure Crane where
  v : CraneV
  r : Row ChartStep
def Crane.val (p : Crane) : CraneV × List ChartStep := (p.v, p.r.xs)
def Crane.cs (p : Crane) : List Value := [.string p.v.name, .int .i64 p.v.ax, .int .i64 p.v.ay, .int .i64 p.v.height, .int .i64 p.v.jib, .int .i64 p.v.back, .slice p.r.a p.r.n p.r.cap]
theorem Crane.cs_len (p : Crane) : p.cs.length = 7 := rfl
theorem Crane.cs_one (p : Crane) : ∀ u ∈ p.cs, u.oneCell' = true := by intro u hu; simp [Crane.cs] at hu; rcases hu with rfl | rfl | rfl | rfl | rfl | rfl | rfl <;> rfl
structure CraneV.wf (p : CraneV) : Prop where
  name : p.name.size ≤ 9223372036854775807
  ax : -9223372036854775808 ≤ p.ax ∧ p.ax ≤ 9223372036854775807
  ay : -9223372036854775808 ≤ p.ay ∧ p.ay ≤ 9223372036854775807
  height : -9223372036854775808 ≤ p.height ∧ p.height ≤ 9223372036854775807
  jib : -9223372036854775808 ≤ p.jib ∧ p.jib ≤ 9223372036854775807
  back : -9223372036854775808 ≤ p.back ∧ p.back ≤ 9223372036854775807
structure Crane.wf (p : Crane) : Prop where
  v : p.v.wf
  n : p.r.n ≤ 9223372036854775807
  xs : ∀ x ∈ p.r.xs, ChartStep.wf x
abbrev Cranes (w : World) (lo hi : Nat) (A : Option Addr) (n : Nat) (ps : List Crane) : Prop := NArr Crane.cs 7 ChartStep.cs 2 Crane.r w lo hi A n ps
abbrev CranesOwn (w : World) (lo hi : Nat) (A : Option Addr) (n : Nat) (ps : List Crane) : Prop := NOwn Crane.cs 7 44 ChartStep.cs 2 220 Crane.r w lo hi A n ps
theorem Crane.at {w : World} {lo hi : Nat} {A : Option Addr} {n : Nat} {xs : List Crane} (h : Cranes w lo hi A n xs) {i : Nat} (hi' : i < n) :
    ∃ b off p, A = some ⟨b, off, none⟩ ∧ xs[i]? = some p ∧ lo ≤ b ∧ b < hi ∧ Arr ChartStep.cs 2 w lo hi p.r.a p.r.n p.r.xs ∧ w.cell? ⟨b, off + i * 7, none⟩ = some (.string p.v.name) ∧ w.cell? ⟨b, off + i * 7 + 1, none⟩ = some (.int .i64 p.v.ax) ∧ w.cell? ⟨b, off + i * 7 + 2, none⟩ = some (.int .i64 p.v.ay) ∧ w.cell? ⟨b, off + i * 7 + 3, none⟩ = some (.int .i64 p.v.height) ∧ w.cell? ⟨b, off + i * 7 + 4, none⟩ = some (.int .i64 p.v.jib) ∧ w.cell? ⟨b, off + i * 7 + 5, none⟩ = some (.int .i64 p.v.back) ∧ w.cell? ⟨b, off + i * 7 + 6, none⟩ = some (.slice p.r.a p.r.n p.r.cap) := by
  obtain ⟨b, off, p, h1, h2, h3, h4, hc⟩ := h.1.cells hi'
  exact ⟨b, off, p, h1, h2, h3, h4, h.2 p (List.mem_of_getElem? h2), hc 0 _ rfl, hc 1 _ rfl, hc 2 _ rfl, hc 3 _ rfl, hc 4 _ rfl, hc 5 _ rfl, hc 6 _ rfl⟩
theorem Crane.blk {w : World} {g : Nat} {t : TypeId} {v0 v1 v2 v3 v4 v5 v6 : Value} (h : Blk w g t #[v0, v1, v2, v3, v4, v5, v6]) : w.cell? ⟨g, 0, none⟩ = some v0 ∧ w.cell? ⟨g, 1, none⟩ = some v1 ∧ w.cell? ⟨g, 2, none⟩ = some v2 ∧ w.cell? ⟨g, 3, none⟩ = some v3 ∧ w.cell? ⟨g, 4, none⟩ = some v4 ∧ w.cell? ⟨g, 5, none⟩ = some v5 ∧ w.cell? ⟨g, 6, none⟩ = some v6 := ⟨(h.cell 0).trans rfl, (h.cell 1).trans rfl, (h.cell 2).trans rfl, (h.cell 3).trans rfl, (h.cell 4).trans rfl, (h.cell 5).trans rfl, (h.cell 6).trans rfl⟩
theorem Crane.fro {w : World} {g : Nat} {t : TypeId} {cs : Array Value} (h : Blk w g t cs) : w.frozen? ⟨g, 0, none⟩ = false ∧ w.frozen? ⟨g, 1, none⟩ = false ∧ w.frozen? ⟨g, 2, none⟩ = false ∧ w.frozen? ⟨g, 3, none⟩ = false ∧ w.frozen? ⟨g, 4, none⟩ = false ∧ w.frozen? ⟨g, 5, none⟩ = false ∧ w.frozen? ⟨g, 6, none⟩ = false := ⟨h.frozen 0, h.frozen 1, h.frozen 2, h.frozen 3, h.frozen 4, h.frozen 5, h.frozen 6⟩
def Crane.sz (p : Crane) : Nat := p.v.name.size + p.r.n
set_option maxRecDepth 100000 in
set_option maxHeartbeats 400000 in
theorem szCrane_ok (p : Crane) (left : Int) (w : World) (hX : Arr ChartStep.cs 2 w 0 w.heap.size p.r.a p.r.n p.r.xs) (hp : p.wf) (h0 : 0 ≤ left) (h1 : left ≤ 1048576) (h : (p.sz : Int) ≤ left) :
    Calls Tryd.prog 15 #[.agg #[.string p.v.name, .int .i64 p.v.ax, .int .i64 p.v.ay, .int .i64 p.v.height, .int .i64 p.v.jib, .int .i64 p.v.back, .slice p.r.a p.r.n p.r.cap], .int .i64 left] w fun e w' => e = .returned (.int .i64 (left - (p.sz : Int))) ∧ Below w.heap.size w w' := by
  have hn := hp.v.name
  have hr := hp.n
  have hxs := hp.xs
  have hz : szChartStepS p.r.n p.r.xs = (p.r.n : Int) := rfl
  unfold Crane.sz at *
  go_enter Tryd.func15, Tryd.ntmps15
  go_wp2_with (go_at_call 70; refine (szChartStepS_ok _ _ _ p.r.xs _ _ 0 (hX.below ((Below.refl _ _).alloc (Nat.le_refl _) _) |>.more (by simp)) hr hxs (by omega) (by omega) (by unfold szChartStepS; omega)).mono ?_; rintro e w1 ⟨rfl, hb1⟩)
  go_ret
  exact ⟨ret_int (by omega), ((Below.refl _ _).alloc (Nat.le_refl _) _).trans (hb1.mono (by simp))⟩
set_option maxRecDepth 100000 in
set_option maxHeartbeats 400000 in
theorem szCrane_no (p : Crane) (left : Int) (w : World) (hX : Arr ChartStep.cs 2 w 0 w.heap.size p.r.a p.r.n p.r.xs) (hp : p.wf) (h0 : 0 ≤ left) (h1 : left ≤ 1048576) (h : left < (p.sz : Int)) :
    Calls Tryd.prog 15 #[.agg #[.string p.v.name, .int .i64 p.v.ax, .int .i64 p.v.ay, .int .i64 p.v.height, .int .i64 p.v.jib, .int .i64 p.v.back, .slice p.r.a p.r.n p.r.cap], .int .i64 left] w fun e w' => e = .returned (.int .i64 (-1)) ∧ Below w.heap.size w w' := by
  have hn := hp.v.name
  have hr := hp.n
  have hxs := hp.xs
  have hz : szChartStepS p.r.n p.r.xs = (p.r.n : Int) := rfl
  unfold Crane.sz at *
  by_cases hle : (p.v.name.size : Int) ≤ left
  · go_enter Tryd.func15, Tryd.ntmps15
    go_wp2_with (go_at_call 70; refine (szChartStepS_no _ _ _ p.r.xs _ _ 0 (hX.below ((Below.refl _ _).alloc (Nat.le_refl _) _) |>.more (by simp)) hr hxs (by omega) (by omega) (by unfold szChartStepS; omega)).mono ?_; rintro e w1 ⟨rfl, hb1⟩)
    go_ret
    exact ⟨rfl, ((Below.refl _ _).alloc (Nat.le_refl _) _).trans (hb1.mono (by simp))⟩
  · go_enter Tryd.func15, Tryd.ntmps15
    go_wp2
    go_ret
    exact ⟨rfl, (Below.refl _ _).alloc (Nat.le_refl _) _⟩
def szCraneS (n : Nat) (ps : List Crane) : Int := (n : Int) + (tot Crane.sz ps : Nat)
/-- a call that hands back a copy with a row of its own -/
def ToCrane (w : World) (p : Crane) (e : Ending) (w' : World) : Prop :=
  ∃ g, e = .returned (.agg #[.string p.v.name, .int .i64 p.v.ax, .int .i64 p.v.ay, .int .i64 p.v.height, .int .i64 p.v.jib, .int .i64 p.v.back, .slice (some ⟨g, 0, none⟩) p.r.n p.r.n]) ∧ Own ChartStep.cs 2 w' w.heap.size w'.heap.size 220 (some ⟨g, 0, none⟩) p.r.n p.r.xs ∧ Below w.heap.size w w'
set_option maxRecDepth 100000 in
set_option maxHeartbeats 3200000 in
theorem toCrane_any (p : Crane) (w : World) (lo : Nat) (hr : Arr ChartStep.cs 2 w lo w.heap.size p.r.a p.r.n p.r.xs) (hn : p.r.n ≤ 1048576) :
    Calls Tryd.prog 18 #[.agg #[.string p.v.name, .int .i64 p.v.ax, .int .i64 p.v.ay, .int .i64 p.v.height, .int .i64 p.v.jib, .int .i64 p.v.back, .slice p.r.a p.r.n p.r.cap]] w (ToCrane w p) := by
  go_enter Tryd.func18, Tryd.ntmps18
  go_wp2_with fail
  have A0 := (Below.refl w.heap.size w).alloc (Nat.le_refl _) (Obj.cells #[.string p.v.name, .int .i64 p.v.ax, .int .i64 p.v.ay, .int .i64 p.v.height, .int .i64 p.v.jib, .int .i64 p.v.back, .slice p.r.a p.r.n p.r.cap] 34)
  have A1 := A0.alloc (by simp) (Obj.cells #[.string ⟨#[]⟩, .int .i64 0, .int .i64 0, .int .i64 0, .int .i64 0, .int .i64 0, .slice none 0 0] 44)
  have hbX := A1.alloc (by simp; omega) (Obj.cells #[.string p.v.name, .int .i64 0, .int .i64 0, .int .i64 0, .int .i64 0, .int .i64 0, .slice none 0 0] 44)
  have P9 := ((Blk.new w 34 #[.string p.v.name, .int .i64 p.v.ax, .int .i64 p.v.ay, .int .i64 p.v.height, .int .i64 p.v.jib, .int .i64 p.v.back, .slice p.r.a p.r.n p.r.cap]).alloc (Obj.cells #[.string ⟨#[]⟩, .int .i64 0, .int .i64 0, .int .i64 0, .int .i64 0, .int .i64 0, .slice none 0 0] 44)).alloc (Obj.cells #[.string p.v.name, .int .i64 0, .int .i64 0, .int .i64 0, .int .i64 0, .int .i64 0, .slice none 0 0] 44)
  have R9 := (Blk.new_at (w := w.alloc (Obj.cells #[.string p.v.name, .int .i64 p.v.ax, .int .i64 p.v.ay, .int .i64 p.v.height, .int .i64 p.v.jib, .int .i64 p.v.back, .slice p.r.a p.r.n p.r.cap] 34)) (cs := #[.string ⟨#[]⟩, .int .i64 0, .int .i64 0, .int .i64 0, .int .i64 0, .int .i64 0, .slice none 0 0]) (t := 44) rfl (by simp) : Blk _ (w.heap.size + 1) _ _).alloc (Obj.cells #[.string p.v.name, .int .i64 0, .int .i64 0, .int .i64 0, .int .i64 0, .int .i64 0, .slice none 0 0] 44)
  have O9 := (Blk.new_at (w := (w.alloc (Obj.cells #[.string p.v.name, .int .i64 p.v.ax, .int .i64 p.v.ay, .int .i64 p.v.height, .int .i64 p.v.jib, .int .i64 p.v.back, .slice p.r.a p.r.n p.r.cap] 34)).alloc (Obj.cells #[.string ⟨#[]⟩, .int .i64 0, .int .i64 0, .int .i64 0, .int .i64 0, .int .i64 0, .slice none 0 0] 44)) (cs := #[.string p.v.name, .int .i64 0, .int .i64 0, .int .i64 0, .int .i64 0, .int .i64 0, .slice none 0 0]) (t := 44) rfl (by simp) : Blk _ (w.heap.size + 1 + 1) _ _)
  clear A0 A1
  refine (toPoint_any _ _ _).mono ?_
  rintro _ x0 ⟨rfl, hb0⟩
  have hbZ := hbX.trans (hb0.mono hbX.size)
  have P0 := P9.bel hb0
  have R0 := R9.bel hb0
  have O0 : Blk x0 (w.heap.size + 1 + 1) 44 #[.string p.v.name, .int .i64 0, .int .i64 0, .int .i64 0, .int .i64 0, .int .i64 0, .slice none 0 0] := O9.bel hb0
  clear hbX P9 R9 O9 hb0
  have hs0 : w.heap.size + 1 + 1 < x0.heap.size := O0.lt
  obtain ⟨a0, a1, a2, a3, a4, a5, a6⟩ := Crane.blk P0
  obtain ⟨b0, b1, b2, b3, b4, b5, b6⟩ := Crane.blk R0
  obtain ⟨d0, d1, d2, d3, d4, d5, d6⟩ := Crane.blk O0
  obtain ⟨f0, f1, f2, f3, f4, f5, f6⟩ := Crane.fro R0
  obtain ⟨g0, g1, g2, g3, g4, g5, g6⟩ := Crane.fro O0
  go_wp2_with fail
  have hbX := (((((hbZ.setCell (p := ⟨w.heap.size + 1 + 1, 1, none⟩) (by dsimp only; omega) (.int .i64 p.v.ax)).setCell (p := ⟨w.heap.size + 1 + 1, 2, none⟩) (by dsimp only; omega) (.int .i64 p.v.ay)).setCell (p := ⟨w.heap.size + 1 + 1, 3, none⟩) (by dsimp only; omega) (.int .i64 p.v.height)).setCell (p := ⟨w.heap.size + 1 + 1, 4, none⟩) (by dsimp only; omega) (.int .i64 p.v.jib)).setCell (p := ⟨w.heap.size + 1 + 1, 5, none⟩) (by dsimp only; omega) (.int .i64 p.v.back))
  have P9 := (((((P0.far (p := ⟨w.heap.size + 1 + 1, 1, none⟩) (by dsimp only; omega) (.int .i64 p.v.ax)).far (p := ⟨w.heap.size + 1 + 1, 2, none⟩) (by dsimp only; omega) (.int .i64 p.v.ay)).far (p := ⟨w.heap.size + 1 + 1, 3, none⟩) (by dsimp only; omega) (.int .i64 p.v.height)).far (p := ⟨w.heap.size + 1 + 1, 4, none⟩) (by dsimp only; omega) (.int .i64 p.v.jib)).far (p := ⟨w.heap.size + 1 + 1, 5, none⟩) (by dsimp only; omega) (.int .i64 p.v.back))
  have R9 := (((((R0.far (p := ⟨w.heap.size + 1 + 1, 1, none⟩) (by dsimp only; omega) (.int .i64 p.v.ax)).far (p := ⟨w.heap.size + 1 + 1, 2, none⟩) (by dsimp only; omega) (.int .i64 p.v.ay)).far (p := ⟨w.heap.size + 1 + 1, 3, none⟩) (by dsimp only; omega) (.int .i64 p.v.height)).far (p := ⟨w.heap.size + 1 + 1, 4, none⟩) (by dsimp only; omega) (.int .i64 p.v.jib)).far (p := ⟨w.heap.size + 1 + 1, 5, none⟩) (by dsimp only; omega) (.int .i64 p.v.back))
  have O9 := (((((O0.set_ 1 (.int .i64 p.v.ax)).set_ 2 (.int .i64 p.v.ay)).set_ 3 (.int .i64 p.v.height)).set_ 4 (.int .i64 p.v.jib)).set_ 5 (.int .i64 p.v.back))
  clear hbZ P0 R0 O0
  refine (toChartStepS_any _ _ _ p.r.xs _ lo ((hr.below hbX).more hbX.size) hn).mono ?_
  rintro _ x1 ⟨g, rfl, ho, hb1⟩
  have hbZ := hbX.trans (hb1.mono hbX.size)
  have P1 := P9.bel hb1
  have R1 := R9.bel hb1
  have O1 : Blk x1 (w.heap.size + 1 + 1) 44 #[.string p.v.name, .int .i64 p.v.ax, .int .i64 p.v.ay, .int .i64 p.v.height, .int .i64 p.v.jib, .int .i64 p.v.back, .slice none 0 0] := O9.bel hb1
  have hsX : w.heap.size + 1 + 1 < _ := O9.lt
  clear hbX P9 R9 O9 hb1
  clear a0 a1 a2 a3 a4 a5 a6 b0 b1 b2 b3 b4 b5 b6 d0 d1 d2 d3 d4 d5 d6 f0 g0 f1 g1 f2 g2 f3 g3 f4 g4 f5 g5 f6 g6 hs0
  have hs1 : w.heap.size + 1 + 1 < x1.heap.size := O1.lt
  obtain ⟨a0, a1, a2, a3, a4, a5, a6⟩ := Crane.blk P1
  obtain ⟨b0, b1, b2, b3, b4, b5, b6⟩ := Crane.blk R1
  obtain ⟨d0, d1, d2, d3, d4, d5, d6⟩ := Crane.blk O1
  obtain ⟨f0, f1, f2, f3, f4, f5, f6⟩ := Crane.fro R1
  obtain ⟨g0, g1, g2, g3, g4, g5, g6⟩ := Crane.fro O1
  go_wp2
  have hfin := (((((((((Within.refl w.heap.size (w.heap.size + 3) x1).setCell (p := ⟨w.heap.size + 1 + 1, 6, none⟩) (by dsimp only; omega) (by dsimp only; omega) (.slice (some ⟨g, 0, none⟩) p.r.n p.r.n)).setCell (p := ⟨w.heap.size + 1, 0, none⟩) (by dsimp only; omega) (by dsimp only; omega) (.string p.v.name)).setCell (p := ⟨w.heap.size + 1, 1, none⟩) (by dsimp only; omega) (by dsimp only; omega) (.int .i64 p.v.ax)).setCell (p := ⟨w.heap.size + 1, 2, none⟩) (by dsimp only; omega) (by dsimp only; omega) (.int .i64 p.v.ay)).setCell (p := ⟨w.heap.size + 1, 3, none⟩) (by dsimp only; omega) (by dsimp only; omega) (.int .i64 p.v.height)).setCell (p := ⟨w.heap.size + 1, 4, none⟩) (by dsimp only; omega) (by dsimp only; omega) (.int .i64 p.v.jib)).setCell (p := ⟨w.heap.size + 1, 5, none⟩) (by dsimp only; omega) (by dsimp only; omega) (.int .i64 p.v.back)).setCell (p := ⟨w.heap.size + 1, 6, none⟩) (by dsimp only; omega) (by dsimp only; omega) (.slice (some ⟨g, 0, none⟩) p.r.n p.r.n))
  have hbf := ((((((((hbZ.setCell (p := ⟨w.heap.size + 1 + 1, 6, none⟩) (by dsimp only; omega) (.slice (some ⟨g, 0, none⟩) p.r.n p.r.n)).setCell (p := ⟨w.heap.size + 1, 0, none⟩) (by dsimp only; omega) (.string p.v.name)).setCell (p := ⟨w.heap.size + 1, 1, none⟩) (by dsimp only; omega) (.int .i64 p.v.ax)).setCell (p := ⟨w.heap.size + 1, 2, none⟩) (by dsimp only; omega) (.int .i64 p.v.ay)).setCell (p := ⟨w.heap.size + 1, 3, none⟩) (by dsimp only; omega) (.int .i64 p.v.height)).setCell (p := ⟨w.heap.size + 1, 4, none⟩) (by dsimp only; omega) (.int .i64 p.v.jib)).setCell (p := ⟨w.heap.size + 1, 5, none⟩) (by dsimp only; omega) (.int .i64 p.v.back)).setCell (p := ⟨w.heap.size + 1, 6, none⟩) (by dsimp only; omega) (.slice (some ⟨g, 0, none⟩) p.r.n p.r.n))
  have RF : Blk _ (w.heap.size + 1) 44 #[.string p.v.name, .int .i64 p.v.ax, .int .i64 p.v.ay, .int .i64 p.v.height, .int .i64 p.v.jib, .int .i64 p.v.back, .slice (some ⟨g, 0, none⟩) p.r.n p.r.n] := (((((((((R1.far (p := ⟨w.heap.size + 1 + 1, 6, none⟩) (by dsimp only; omega) (.slice (some ⟨g, 0, none⟩) p.r.n p.r.n))).set_ 0 (.string p.v.name)).set_ 1 (.int .i64 p.v.ax)).set_ 2 (.int .i64 p.v.ay)).set_ 3 (.int .i64 p.v.height)).set_ 4 (.int .i64 p.v.jib)).set_ 5 (.int .i64 p.v.back)).set_ 6 (.slice (some ⟨g, 0, none⟩) p.r.n p.r.n))
  clear a0 a1 a2 a3 a4 a5 a6 b0 b1 b2 b3 b4 b5 b6 d0 d1 d2 d3 d4 d5 d6 f0 g0 f1 g1 f2 g2 f3 g3 f4 g4 f5 g5 f6 g6 R1 O1 P1
  revert hfin hbf RF
  generalize ((((((((x1.setCell ⟨w.heap.size + 1 + 1, 6, none⟩ (.slice (some ⟨g, 0, none⟩) p.r.n p.r.n)).setCell ⟨w.heap.size + 1, 0, none⟩ (.string p.v.name)).setCell ⟨w.heap.size + 1, 1, none⟩ (.int .i64 p.v.ax)).setCell ⟨w.heap.size + 1, 2, none⟩ (.int .i64 p.v.ay)).setCell ⟨w.heap.size + 1, 3, none⟩ (.int .i64 p.v.height)).setCell ⟨w.heap.size + 1, 4, none⟩ (.int .i64 p.v.jib)).setCell ⟨w.heap.size + 1, 5, none⟩ (.int .i64 p.v.back)).setCell ⟨w.heap.size + 1, 6, none⟩ (.slice (some ⟨g, 0, none⟩) p.r.n p.r.n)) = Wf
  intro hfin hbf RF
  obtain ⟨a0, a1, a2, a3, a4, a5, a6⟩ := Crane.blk RF
  refine bodyPost_ret (v := .agg #[.string p.v.name, .int .i64 p.v.ax, .int .i64 p.v.ay, .int .i64 p.v.height, .int .i64 p.v.jib, .int .i64 p.v.back, .slice (some ⟨g, 0, none⟩) p.r.n p.r.n]) (by simp [results, Tryd.results18, go_sem, a0, a1, a2, a3, a4, a5, a6]) rfl ⟨g, rfl, ?_, hbf⟩
  exact ((ho.within hfin (.inr (by omega))).wide (by omega) hfin.size)

theorem CraneInfo : (Tryd.prog.info? 44).map (fun i => (i.zero, i.size, i.bytes)) = some (some (.agg #[.string ⟨#[]⟩, .int .i64 0, .int .i64 0, .int .i64 0, .int .i64 0, .int .i64 0, .slice none 0 0]), 7, 80) := by kernel_rfl
def ToCraneS (w : World) (n : Nat) (ps : List Crane) (e : Ending) (w' : World) : Prop :=
  ∃ g ps', e = .returned (.slice (some ⟨g, 0, none⟩) n n) ∧ ps'.map Crane.val = ps.map Crane.val ∧ CranesOwn w' w.heap.size w'.heap.size (some ⟨g, 0, none⟩) n ps' ∧ Below w.heap.size w w'
set_option maxRecDepth 100000 in
set_option maxHeartbeats 3200000 in
theorem eqCrane_same (v : CraneV) (r r2 : Row ChartStep) (w : World) (lo lo2 : Nat) (hx : r.xs = r2.xs) (h : Arr ChartStep.cs 2 w lo w.heap.size r.a r.n r.xs) (h2 : Arr ChartStep.cs 2 w lo2 w.heap.size r2.a r2.n r2.xs) (hn : r.n ≤ 9223372036854775807) :
    Calls Tryd.prog 22 #[.agg #[.string v.name, .int .i64 v.ax, .int .i64 v.ay, .int .i64 v.height, .int .i64 v.jib, .int .i64 v.back, .slice r.a r.n r.cap], .agg #[.string v.name, .int .i64 v.ax, .int .i64 v.ay, .int .i64 v.height, .int .i64 v.jib, .int .i64 v.back, .slice r2.a r2.n r2.cap]] w fun e w' => e = .returned (.bool true) ∧ Below w.heap.size w w' := by
  have hnn : r2.n = r.n := by rw [← h.1, ← h2.1, hx]
  rw [hnn] at h2 ⊢
  rw [← hx] at h2
  clear hx hnn
  go_enter Tryd.func22, Tryd.ntmps22
  go_wp2_with fail
  refine (eqPoint_same _ _ _).mono ?_
  rintro _ x0 ⟨rfl, hb0⟩
  have P0 : Blk x0 w.heap.size 44 #[.string v.name, .int .i64 v.ax, .int .i64 v.ay, .int .i64 v.height, .int .i64 v.jib, .int .i64 v.back, .slice r.a r.n r.cap] := ((Blk.new w 44 #[.string v.name, .int .i64 v.ax, .int .i64 v.ay, .int .i64 v.height, .int .i64 v.jib, .int .i64 v.back, .slice r.a r.n r.cap]).alloc (Obj.cells #[.string v.name, .int .i64 v.ax, .int .i64 v.ay, .int .i64 v.height, .int .i64 v.jib, .int .i64 v.back, .slice r2.a r.n r2.cap] 44)).bel hb0
  have Q0 : Blk x0 (w.heap.size + 1) 44 #[.string v.name, .int .i64 v.ax, .int .i64 v.ay, .int .i64 v.height, .int .i64 v.jib, .int .i64 v.back, .slice r2.a r.n r2.cap] := (Blk.new_at (w := w.alloc (Obj.cells #[.string v.name, .int .i64 v.ax, .int .i64 v.ay, .int .i64 v.height, .int .i64 v.jib, .int .i64 v.back, .slice r.a r.n r.cap] 44)) (cs := #[.string v.name, .int .i64 v.ax, .int .i64 v.ay, .int .i64 v.height, .int .i64 v.jib, .int .i64 v.back, .slice r2.a r.n r2.cap]) (t := 44) rfl (by simp) : Blk _ (w.heap.size + 1) _ _).bel hb0
  have hbZ : Below w.heap.size w x0 := Below.trans (by repeat (first | exact Below.refl _ _ | (refine Below.setCell ?_ (by first | (simp; done) | (simp; omega)) _) | (refine Below.alloc ?_ (by first | (simp; done) | (simp; omega)) _) | refine Below.drew ?_)) (hb0.mono (by first | (simp; done) | (simp; omega)))
  obtain ⟨a0, a1, a2, a3, a4, a5, a6⟩ := Crane.blk P0
  obtain ⟨b0, b1, b2, b3, b4, b5, b6⟩ := Crane.blk Q0
  clear hb0
  go_wp2_with fail
  refine (eqChartStepS_same _ _ _ _ _ r.xs _ lo lo2 ((h.below hbZ).more hbZ.size) ((h2.below hbZ).more hbZ.size) hn).mono ?_
  rintro _ x1 ⟨rfl, hb1⟩
  go_wp2
  go_ret
  exact ⟨rfl, hbZ.trans (hb1.mono hbZ.size)⟩

end Go.Proofs.YtdhobglhjdgboaaDoor
