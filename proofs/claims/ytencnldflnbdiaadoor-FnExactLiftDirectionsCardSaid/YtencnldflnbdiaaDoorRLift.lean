/- Lift: the record (points in it, a slice at its end), and the contracts of the laws' own functions over it: size, copy, equality. -/
import Derived.Test.YtencnldflnbdiaaDoorProg
import Derived.Test.YtencnldflnbdiaaDoorNest2
import Derived.Test.YtencnldflnbdiaaDoorPoint
import Derived.Test.YtencnldflnbdiaaDoorPut
import Derived.Test.YtencnldflnbdiaaDoorRInt64S2
import Derived.Deep.RegionHeld3
import Derived.Deep.QuietTactic
import Derived.BigQuiet
import Derived.KernelRfl
namespace Go.Proofs.YtencnldflnbdiaaDoor
open Go.RowKit
set_option linter.unusedVariables false

structure LiftV where
  name : ByteArray
  weight : Int
  fx : Int
  fy : Int
  tx : Int
  ty : Int
  height : Int
  deadline : Int
/-- the record and where its slice lies -/
structure Lift where
  v : LiftV
  r : Row Int
def Lift.val (p : Lift) : LiftV × List Int := (p.v, p.r.xs)
def Lift.cs (p : Lift) : List Value := [.string p.v.name, .int .i64 p.v.weight, .int .i64 p.v.fx, .int .i64 p.v.fy, .int .i64 p.v.tx, .int .i64 p.v.ty, .int .i64 p.v.height, .int .i64 p.v.deadline, .slice p.r.a p.r.n p.r.cap]
theorem Lift.cs_len (p : Lift) : p.cs.length = 9 := rfl
theorem Lift.cs_one (p : Lift) : ∀ u ∈ p.cs, u.oneCell' = true := by intro u hu; simp [Lift.cs] at hu; rcases hu with rfl | rfl | rfl | rfl | rfl | rfl | rfl | rfl | rfl <;> rfl
structure LiftV.wf (p : LiftV) : Prop where
  name : p.name.size ≤ 9223372036854775807
  weight : -9223372036854775808 ≤ p.weight ∧ p.weight ≤ 9223372036854775807
  fx : -9223372036854775808 ≤ p.fx ∧ p.fx ≤ 9223372036854775807
  fy : -9223372036854775808 ≤ p.fy ∧ p.fy ≤ 9223372036854775807
  tx : -9223372036854775808 ≤ p.tx ∧ p.tx ≤ 9223372036854775807
  ty : -9223372036854775808 ≤ p.ty ∧ p.ty ≤ 9223372036854775807
  height : -9223372036854775808 ≤ p.height ∧ p.height ≤ 9223372036854775807
  deadline : -9223372036854775808 ≤ p.deadline ∧ p.deadline ≤ 9223372036854775807
structure Lift.wf (p : Lift) : Prop where
  v : p.v.wf
  n : p.r.n ≤ 9223372036854775807
  xs : True
abbrev Lifts (w : World) (lo hi : Nat) (A : Option Addr) (n : Nat) (ps : List Lift) : Prop := NArr Lift.cs 9 ic 1 Lift.r w lo hi A n ps
abbrev LiftsOwn (w : World) (lo hi : Nat) (A : Option Addr) (n : Nat) (ps : List Lift) : Prop := NOwn Lift.cs 9 59 ic 1 2 Lift.r w lo hi A n ps
theorem Lift.at {w : World} {lo hi : Nat} {A : Option Addr} {n : Nat} {xs : List Lift} (h : Lifts w lo hi A n xs) {i : Nat} (hi' : i < n) :
    ∃ b off p, A = some ⟨b, off, none⟩ ∧ xs[i]? = some p ∧ lo ≤ b ∧ b < hi ∧ Arr ic 1 w lo hi p.r.a p.r.n p.r.xs ∧ w.cell? ⟨b, off + i * 9, none⟩ = some (.string p.v.name) ∧ w.cell? ⟨b, off + i * 9 + 1, none⟩ = some (.int .i64 p.v.weight) ∧ w.cell? ⟨b, off + i * 9 + 2, none⟩ = some (.int .i64 p.v.fx) ∧ w.cell? ⟨b, off + i * 9 + 3, none⟩ = some (.int .i64 p.v.fy) ∧ w.cell? ⟨b, off + i * 9 + 4, none⟩ = some (.int .i64 p.v.tx) ∧ w.cell? ⟨b, off + i * 9 + 5, none⟩ = some (.int .i64 p.v.ty) ∧ w.cell? ⟨b, off + i * 9 + 6, none⟩ = some (.int .i64 p.v.height) ∧ w.cell? ⟨b, off + i * 9 + 7, none⟩ = some (.int .i64 p.v.deadline) ∧ w.cell? ⟨b, off + i * 9 + 8, none⟩ = some (.slice p.r.a p.r.n p.r.cap) := by
  obtain ⟨b, off, p, h1, h2, h3, h4, hc⟩ := h.1.cells hi'
  exact ⟨b, off, p, h1, h2, h3, h4, h.2 p (List.mem_of_getElem? h2), hc 0 _ rfl, hc 1 _ rfl, hc 2 _ rfl, hc 3 _ rfl, hc 4 _ rfl, hc 5 _ rfl, hc 6 _ rfl, hc 7 _ rfl, hc 8 _ rfl⟩
theorem Lift.blk {w : World} {g : Nat} {t : TypeId} {v0 v1 v2 v3 v4 v5 v6 v7 v8 : Value} (h : Blk w g t #[v0, v1, v2, v3, v4, v5, v6, v7, v8]) : w.cell? ⟨g, 0, none⟩ = some v0 ∧ w.cell? ⟨g, 1, none⟩ = some v1 ∧ w.cell? ⟨g, 2, none⟩ = some v2 ∧ w.cell? ⟨g, 3, none⟩ = some v3 ∧ w.cell? ⟨g, 4, none⟩ = some v4 ∧ w.cell? ⟨g, 5, none⟩ = some v5 ∧ w.cell? ⟨g, 6, none⟩ = some v6 ∧ w.cell? ⟨g, 7, none⟩ = some v7 ∧ w.cell? ⟨g, 8, none⟩ = some v8 := ⟨(h.cell 0).trans rfl, (h.cell 1).trans rfl, (h.cell 2).trans rfl, (h.cell 3).trans rfl, (h.cell 4).trans rfl, (h.cell 5).trans rfl, (h.cell 6).trans rfl, (h.cell 7).trans rfl, (h.cell 8).trans rfl⟩
theorem Lift.fro {w : World} {g : Nat} {t : TypeId} {cs : Array Value} (h : Blk w g t cs) : w.frozen? ⟨g, 0, none⟩ = false ∧ w.frozen? ⟨g, 1, none⟩ = false ∧ w.frozen? ⟨g, 2, none⟩ = false ∧ w.frozen? ⟨g, 3, none⟩ = false ∧ w.frozen? ⟨g, 4, none⟩ = false ∧ w.frozen? ⟨g, 5, none⟩ = false ∧ w.frozen? ⟨g, 6, none⟩ = false ∧ w.frozen? ⟨g, 7, none⟩ = false ∧ w.frozen? ⟨g, 8, none⟩ = false := ⟨h.frozen 0, h.frozen 1, h.frozen 2, h.frozen 3, h.frozen 4, h.frozen 5, h.frozen 6, h.frozen 7, h.frozen 8⟩
def Lift.sz (p : Lift) : Nat := p.v.name.size + p.r.n
set_option maxRecDepth 100000 in
set_option maxHeartbeats 400000 in
theorem szLift_ok (p : Lift) (left : Int) (w : World) (hp : p.wf) (h0 : 0 ≤ left) (h1 : left ≤ 1048576) (h : (p.sz : Int) ≤ left) :
    Calls Tryd.prog 36 #[.agg #[.string p.v.name, .int .i64 p.v.weight, .int .i64 p.v.fx, .int .i64 p.v.fy, .int .i64 p.v.tx, .int .i64 p.v.ty, .int .i64 p.v.height, .int .i64 p.v.deadline, .slice p.r.a p.r.n p.r.cap], .int .i64 left] w fun e w' => e = .returned (.int .i64 (left - (p.sz : Int))) ∧ Below w.heap.size w w' := by
  have hn := hp.v.name
  have hr := hp.n
  have hxs := hp.xs
  unfold Lift.sz at *
  go_enter Tryd.func36, Tryd.ntmps36
  go_wp2_with (go_at_call 92; refine (szInt64S_ok _ _ _ _ _ hr (by omega) (by omega) (by omega)).mono ?_; rintro e w1 ⟨rfl, hb1⟩)
  go_ret
  exact ⟨ret_int (by omega), ((Below.refl _ _).alloc (Nat.le_refl _) _).trans (hb1.mono (by simp))⟩
set_option maxRecDepth 100000 in
set_option maxHeartbeats 400000 in
theorem szLift_no (p : Lift) (left : Int) (w : World) (hp : p.wf) (h0 : 0 ≤ left) (h1 : left ≤ 1048576) (h : left < (p.sz : Int)) :
    Calls Tryd.prog 36 #[.agg #[.string p.v.name, .int .i64 p.v.weight, .int .i64 p.v.fx, .int .i64 p.v.fy, .int .i64 p.v.tx, .int .i64 p.v.ty, .int .i64 p.v.height, .int .i64 p.v.deadline, .slice p.r.a p.r.n p.r.cap], .int .i64 left] w fun e w' => e = .returned (.int .i64 (-1)) ∧ Below w.heap.size w w' := by
  have hn := hp.v.name
  have hr := hp.n
  have hxs := hp.xs
  unfold Lift.sz at *
  by_cases hle : (p.v.name.size : Int) ≤ left
  · go_enter Tryd.func36, Tryd.ntmps36
    go_wp2_with (go_at_call 92; refine (szInt64S_no _ _ _ _ _ hr (by omega) (by omega) (by omega)).mono ?_; rintro e w1 ⟨rfl, hb1⟩)
    go_ret
    exact ⟨rfl, ((Below.refl _ _).alloc (Nat.le_refl _) _).trans (hb1.mono (by simp))⟩
  · go_enter Tryd.func36, Tryd.ntmps36
    go_wp2
    go_ret
    exact ⟨rfl, (Below.refl _ _).alloc (Nat.le_refl _) _⟩
def szLiftS (n : Nat) (ps : List Lift) : Int := (n : Int) + (tot Lift.sz ps : Nat)
/-- a call that hands back a copy with a row of its own -/
def ToLift (w : World) (p : Lift) (e : Ending) (w' : World) : Prop :=
  ∃ g, e = .returned (.agg #[.string p.v.name, .int .i64 p.v.weight, .int .i64 p.v.fx, .int .i64 p.v.fy, .int .i64 p.v.tx, .int .i64 p.v.ty, .int .i64 p.v.height, .int .i64 p.v.deadline, .slice (some ⟨g, 0, none⟩) p.r.n p.r.n]) ∧ Own ic 1 w' w.heap.size w'.heap.size 2 (some ⟨g, 0, none⟩) p.r.n p.r.xs ∧ Below w.heap.size w w'
set_option maxRecDepth 100000 in
set_option maxHeartbeats 3200000 in
theorem toLift_any (p : Lift) (w : World) (lo : Nat) (hr : Arr ic 1 w lo w.heap.size p.r.a p.r.n p.r.xs) (hn : p.r.n ≤ 1048576) :
    Calls Tryd.prog 39 #[.agg #[.string p.v.name, .int .i64 p.v.weight, .int .i64 p.v.fx, .int .i64 p.v.fy, .int .i64 p.v.tx, .int .i64 p.v.ty, .int .i64 p.v.height, .int .i64 p.v.deadline, .slice p.r.a p.r.n p.r.cap]] w (ToLift w p) := by
  go_enter Tryd.func39, Tryd.ntmps39
  go_wp2_with fail
  have A0 := (Below.refl w.heap.size w).alloc (Nat.le_refl _) (Obj.cells #[.string p.v.name, .int .i64 p.v.weight, .int .i64 p.v.fx, .int .i64 p.v.fy, .int .i64 p.v.tx, .int .i64 p.v.ty, .int .i64 p.v.height, .int .i64 p.v.deadline, .slice p.r.a p.r.n p.r.cap] 76)
  have A1 := A0.alloc (by simp) (Obj.cells #[.string ⟨#[]⟩, .int .i64 0, .int .i64 0, .int .i64 0, .int .i64 0, .int .i64 0, .int .i64 0, .int .i64 0, .slice none 0 0] 59)
  have hbX := A1.alloc (by simp; omega) (Obj.cells #[.string p.v.name, .int .i64 p.v.weight, .int .i64 0, .int .i64 0, .int .i64 0, .int .i64 0, .int .i64 0, .int .i64 0, .slice none 0 0] 59)
  have P9 := ((Blk.new w 76 #[.string p.v.name, .int .i64 p.v.weight, .int .i64 p.v.fx, .int .i64 p.v.fy, .int .i64 p.v.tx, .int .i64 p.v.ty, .int .i64 p.v.height, .int .i64 p.v.deadline, .slice p.r.a p.r.n p.r.cap]).alloc (Obj.cells #[.string ⟨#[]⟩, .int .i64 0, .int .i64 0, .int .i64 0, .int .i64 0, .int .i64 0, .int .i64 0, .int .i64 0, .slice none 0 0] 59)).alloc (Obj.cells #[.string p.v.name, .int .i64 p.v.weight, .int .i64 0, .int .i64 0, .int .i64 0, .int .i64 0, .int .i64 0, .int .i64 0, .slice none 0 0] 59)
  have R9 := (Blk.new_at (w := w.alloc (Obj.cells #[.string p.v.name, .int .i64 p.v.weight, .int .i64 p.v.fx, .int .i64 p.v.fy, .int .i64 p.v.tx, .int .i64 p.v.ty, .int .i64 p.v.height, .int .i64 p.v.deadline, .slice p.r.a p.r.n p.r.cap] 76)) (cs := #[.string ⟨#[]⟩, .int .i64 0, .int .i64 0, .int .i64 0, .int .i64 0, .int .i64 0, .int .i64 0, .int .i64 0, .slice none 0 0]) (t := 59) rfl (by simp) : Blk _ (w.heap.size + 1) _ _).alloc (Obj.cells #[.string p.v.name, .int .i64 p.v.weight, .int .i64 0, .int .i64 0, .int .i64 0, .int .i64 0, .int .i64 0, .int .i64 0, .slice none 0 0] 59)
  have O9 := (Blk.new_at (w := (w.alloc (Obj.cells #[.string p.v.name, .int .i64 p.v.weight, .int .i64 p.v.fx, .int .i64 p.v.fy, .int .i64 p.v.tx, .int .i64 p.v.ty, .int .i64 p.v.height, .int .i64 p.v.deadline, .slice p.r.a p.r.n p.r.cap] 76)).alloc (Obj.cells #[.string ⟨#[]⟩, .int .i64 0, .int .i64 0, .int .i64 0, .int .i64 0, .int .i64 0, .int .i64 0, .int .i64 0, .slice none 0 0] 59)) (cs := #[.string p.v.name, .int .i64 p.v.weight, .int .i64 0, .int .i64 0, .int .i64 0, .int .i64 0, .int .i64 0, .int .i64 0, .slice none 0 0]) (t := 59) rfl (by simp) : Blk _ (w.heap.size + 1 + 1) _ _)
  clear A0 A1
  refine (toPoint_any _ _ _).mono ?_
  rintro _ x0 ⟨rfl, hb0⟩
  have hbZ := hbX.trans (hb0.mono hbX.size)
  have P0 := P9.bel hb0
  have R0 := R9.bel hb0
  have O0 : Blk x0 (w.heap.size + 1 + 1) 59 #[.string p.v.name, .int .i64 p.v.weight, .int .i64 0, .int .i64 0, .int .i64 0, .int .i64 0, .int .i64 0, .int .i64 0, .slice none 0 0] := O9.bel hb0
  clear hbX P9 R9 O9 hb0
  have hs0 : w.heap.size + 1 + 1 < x0.heap.size := O0.lt
  obtain ⟨a0, a1, a2, a3, a4, a5, a6, a7, a8⟩ := Lift.blk P0
  obtain ⟨b0, b1, b2, b3, b4, b5, b6, b7, b8⟩ := Lift.blk R0
  obtain ⟨d0, d1, d2, d3, d4, d5, d6, d7, d8⟩ := Lift.blk O0
  obtain ⟨f0, f1, f2, f3, f4, f5, f6, f7, f8⟩ := Lift.fro R0
  obtain ⟨g0, g1, g2, g3, g4, g5, g6, g7, g8⟩ := Lift.fro O0
  go_wp2_with fail
  have hbX := ((hbZ.setCell (p := ⟨w.heap.size + 1 + 1, 2, none⟩) (by dsimp only; omega) (.int .i64 p.v.fx)).setCell (p := ⟨w.heap.size + 1 + 1, 3, none⟩) (by dsimp only; omega) (.int .i64 p.v.fy))
  have P9 := ((P0.far (p := ⟨w.heap.size + 1 + 1, 2, none⟩) (by dsimp only; omega) (.int .i64 p.v.fx)).far (p := ⟨w.heap.size + 1 + 1, 3, none⟩) (by dsimp only; omega) (.int .i64 p.v.fy))
  have R9 := ((R0.far (p := ⟨w.heap.size + 1 + 1, 2, none⟩) (by dsimp only; omega) (.int .i64 p.v.fx)).far (p := ⟨w.heap.size + 1 + 1, 3, none⟩) (by dsimp only; omega) (.int .i64 p.v.fy))
  have O9 := ((O0.set_ 2 (.int .i64 p.v.fx)).set_ 3 (.int .i64 p.v.fy))
  clear hbZ P0 R0 O0
  refine (toPoint_any _ _ _).mono ?_
  rintro _ x1 ⟨rfl, hb1⟩
  have hbZ := hbX.trans (hb1.mono hbX.size)
  have P1 := P9.bel hb1
  have R1 := R9.bel hb1
  have O1 : Blk x1 (w.heap.size + 1 + 1) 59 #[.string p.v.name, .int .i64 p.v.weight, .int .i64 p.v.fx, .int .i64 p.v.fy, .int .i64 0, .int .i64 0, .int .i64 0, .int .i64 0, .slice none 0 0] := O9.bel hb1
  clear hbX P9 R9 O9 hb1
  clear a0 a1 a2 a3 a4 a5 a6 a7 a8 b0 b1 b2 b3 b4 b5 b6 b7 b8 d0 d1 d2 d3 d4 d5 d6 d7 d8 f0 g0 f1 g1 f2 g2 f3 g3 f4 g4 f5 g5 f6 g6 f7 g7 f8 g8 hs0
  have hs1 : w.heap.size + 1 + 1 < x1.heap.size := O1.lt
  obtain ⟨a0, a1, a2, a3, a4, a5, a6, a7, a8⟩ := Lift.blk P1
  obtain ⟨b0, b1, b2, b3, b4, b5, b6, b7, b8⟩ := Lift.blk R1
  obtain ⟨d0, d1, d2, d3, d4, d5, d6, d7, d8⟩ := Lift.blk O1
  obtain ⟨f0, f1, f2, f3, f4, f5, f6, f7, f8⟩ := Lift.fro R1
  obtain ⟨g0, g1, g2, g3, g4, g5, g6, g7, g8⟩ := Lift.fro O1
  go_wp2_with fail
  have hbX := ((((hbZ.setCell (p := ⟨w.heap.size + 1 + 1, 4, none⟩) (by dsimp only; omega) (.int .i64 p.v.tx)).setCell (p := ⟨w.heap.size + 1 + 1, 5, none⟩) (by dsimp only; omega) (.int .i64 p.v.ty)).setCell (p := ⟨w.heap.size + 1 + 1, 6, none⟩) (by dsimp only; omega) (.int .i64 p.v.height)).setCell (p := ⟨w.heap.size + 1 + 1, 7, none⟩) (by dsimp only; omega) (.int .i64 p.v.deadline))
  have P9 := ((((P1.far (p := ⟨w.heap.size + 1 + 1, 4, none⟩) (by dsimp only; omega) (.int .i64 p.v.tx)).far (p := ⟨w.heap.size + 1 + 1, 5, none⟩) (by dsimp only; omega) (.int .i64 p.v.ty)).far (p := ⟨w.heap.size + 1 + 1, 6, none⟩) (by dsimp only; omega) (.int .i64 p.v.height)).far (p := ⟨w.heap.size + 1 + 1, 7, none⟩) (by dsimp only; omega) (.int .i64 p.v.deadline))
  have R9 := ((((R1.far (p := ⟨w.heap.size + 1 + 1, 4, none⟩) (by dsimp only; omega) (.int .i64 p.v.tx)).far (p := ⟨w.heap.size + 1 + 1, 5, none⟩) (by dsimp only; omega) (.int .i64 p.v.ty)).far (p := ⟨w.heap.size + 1 + 1, 6, none⟩) (by dsimp only; omega) (.int .i64 p.v.height)).far (p := ⟨w.heap.size + 1 + 1, 7, none⟩) (by dsimp only; omega) (.int .i64 p.v.deadline))
  have O9 := ((((O1.set_ 4 (.int .i64 p.v.tx)).set_ 5 (.int .i64 p.v.ty)).set_ 6 (.int .i64 p.v.height)).set_ 7 (.int .i64 p.v.deadline))
  clear hbZ P1 R1 O1
  refine (toInt64S_any _ _ _ p.r.xs _ lo ((hr.below hbX).more hbX.size) hn).mono ?_
  rintro _ x2 ⟨g, rfl, ho, hb2⟩
  have hbZ := hbX.trans (hb2.mono hbX.size)
  have P2 := P9.bel hb2
  have R2 := R9.bel hb2
  have O2 : Blk x2 (w.heap.size + 1 + 1) 59 #[.string p.v.name, .int .i64 p.v.weight, .int .i64 p.v.fx, .int .i64 p.v.fy, .int .i64 p.v.tx, .int .i64 p.v.ty, .int .i64 p.v.height, .int .i64 p.v.deadline, .slice none 0 0] := O9.bel hb2
  have hsX : w.heap.size + 1 + 1 < _ := O9.lt
  clear hbX P9 R9 O9 hb2
  clear a0 a1 a2 a3 a4 a5 a6 a7 a8 b0 b1 b2 b3 b4 b5 b6 b7 b8 d0 d1 d2 d3 d4 d5 d6 d7 d8 f0 g0 f1 g1 f2 g2 f3 g3 f4 g4 f5 g5 f6 g6 f7 g7 f8 g8 hs1
  have hs2 : w.heap.size + 1 + 1 < x2.heap.size := O2.lt
  obtain ⟨a0, a1, a2, a3, a4, a5, a6, a7, a8⟩ := Lift.blk P2
  obtain ⟨b0, b1, b2, b3, b4, b5, b6, b7, b8⟩ := Lift.blk R2
  obtain ⟨d0, d1, d2, d3, d4, d5, d6, d7, d8⟩ := Lift.blk O2
  obtain ⟨f0, f1, f2, f3, f4, f5, f6, f7, f8⟩ := Lift.fro R2
  obtain ⟨g0, g1, g2, g3, g4, g5, g6, g7, g8⟩ := Lift.fro O2
  go_wp2
  have hfin := (((((((((((Within.refl w.heap.size (w.heap.size + 3) x2).setCell (p := ⟨w.heap.size + 1 + 1, 8, none⟩) (by dsimp only; omega) (by dsimp only; omega) (.slice (some ⟨g, 0, none⟩) p.r.n p.r.n)).setCell (p := ⟨w.heap.size + 1, 0, none⟩) (by dsimp only; omega) (by dsimp only; omega) (.string p.v.name)).setCell (p := ⟨w.heap.size + 1, 1, none⟩) (by dsimp only; omega) (by dsimp only; omega) (.int .i64 p.v.weight)).setCell (p := ⟨w.heap.size + 1, 2, none⟩) (by dsimp only; omega) (by dsimp only; omega) (.int .i64 p.v.fx)).setCell (p := ⟨w.heap.size + 1, 3, none⟩) (by dsimp only; omega) (by dsimp only; omega) (.int .i64 p.v.fy)).setCell (p := ⟨w.heap.size + 1, 4, none⟩) (by dsimp only; omega) (by dsimp only; omega) (.int .i64 p.v.tx)).setCell (p := ⟨w.heap.size + 1, 5, none⟩) (by dsimp only; omega) (by dsimp only; omega) (.int .i64 p.v.ty)).setCell (p := ⟨w.heap.size + 1, 6, none⟩) (by dsimp only; omega) (by dsimp only; omega) (.int .i64 p.v.height)).setCell (p := ⟨w.heap.size + 1, 7, none⟩) (by dsimp only; omega) (by dsimp only; omega) (.int .i64 p.v.deadline)).setCell (p := ⟨w.heap.size + 1, 8, none⟩) (by dsimp only; omega) (by dsimp only; omega) (.slice (some ⟨g, 0, none⟩) p.r.n p.r.n))
  have hbf := ((((((((((hbZ.setCell (p := ⟨w.heap.size + 1 + 1, 8, none⟩) (by dsimp only; omega) (.slice (some ⟨g, 0, none⟩) p.r.n p.r.n)).setCell (p := ⟨w.heap.size + 1, 0, none⟩) (by dsimp only; omega) (.string p.v.name)).setCell (p := ⟨w.heap.size + 1, 1, none⟩) (by dsimp only; omega) (.int .i64 p.v.weight)).setCell (p := ⟨w.heap.size + 1, 2, none⟩) (by dsimp only; omega) (.int .i64 p.v.fx)).setCell (p := ⟨w.heap.size + 1, 3, none⟩) (by dsimp only; omega) (.int .i64 p.v.fy)).setCell (p := ⟨w.heap.size + 1, 4, none⟩) (by dsimp only; omega) (.int .i64 p.v.tx)).setCell (p := ⟨w.heap.size + 1, 5, none⟩) (by dsimp only; omega) (.int .i64 p.v.ty)).setCell (p := ⟨w.heap.size + 1, 6, none⟩) (by dsimp only; omega) (.int .i64 p.v.height)).setCell (p := ⟨w.heap.size + 1, 7, none⟩) (by dsimp only; omega) (.int .i64 p.v.deadline)).setCell (p := ⟨w.heap.size + 1, 8, none⟩) (by dsimp only; omega) (.slice (some ⟨g, 0, none⟩) p.r.n p.r.n))
  have RF : Blk _ (w.heap.size + 1) 59 #[.string p.v.name, .int .i64 p.v.weight, .int .i64 p.v.fx, .int .i64 p.v.fy, .int .i64 p.v.tx, .int .i64 p.v.ty, .int .i64 p.v.height, .int .i64 p.v.deadline, .slice (some ⟨g, 0, none⟩) p.r.n p.r.n] := (((((((((((R2.far (p := ⟨w.heap.size + 1 + 1, 8, none⟩) (by dsimp only; omega) (.slice (some ⟨g, 0, none⟩) p.r.n p.r.n))).set_ 0 (.string p.v.name)).set_ 1 (.int .i64 p.v.weight)).set_ 2 (.int .i64 p.v.fx)).set_ 3 (.int .i64 p.v.fy)).set_ 4 (.int .i64 p.v.tx)).set_ 5 (.int .i64 p.v.ty)).set_ 6 (.int .i64 p.v.height)).set_ 7 (.int .i64 p.v.deadline)).set_ 8 (.slice (some ⟨g, 0, none⟩) p.r.n p.r.n))
  clear a0 a1 a2 a3 a4 a5 a6 a7 a8 b0 b1 b2 b3 b4 b5 b6 b7 b8 d0 d1 d2 d3 d4 d5 d6 d7 d8 f0 g0 f1 g1 f2 g2 f3 g3 f4 g4 f5 g5 f6 g6 f7 g7 f8 g8 R2 O2 P2
  revert hfin hbf RF
  generalize ((((((((((x2.setCell ⟨w.heap.size + 1 + 1, 8, none⟩ (.slice (some ⟨g, 0, none⟩) p.r.n p.r.n)).setCell ⟨w.heap.size + 1, 0, none⟩ (.string p.v.name)).setCell ⟨w.heap.size + 1, 1, none⟩ (.int .i64 p.v.weight)).setCell ⟨w.heap.size + 1, 2, none⟩ (.int .i64 p.v.fx)).setCell ⟨w.heap.size + 1, 3, none⟩ (.int .i64 p.v.fy)).setCell ⟨w.heap.size + 1, 4, none⟩ (.int .i64 p.v.tx)).setCell ⟨w.heap.size + 1, 5, none⟩ (.int .i64 p.v.ty)).setCell ⟨w.heap.size + 1, 6, none⟩ (.int .i64 p.v.height)).setCell ⟨w.heap.size + 1, 7, none⟩ (.int .i64 p.v.deadline)).setCell ⟨w.heap.size + 1, 8, none⟩ (.slice (some ⟨g, 0, none⟩) p.r.n p.r.n)) = Wf
  intro hfin hbf RF
  obtain ⟨a0, a1, a2, a3, a4, a5, a6, a7, a8⟩ := Lift.blk RF
  refine bodyPost_ret (v := .agg #[.string p.v.name, .int .i64 p.v.weight, .int .i64 p.v.fx, .int .i64 p.v.fy, .int .i64 p.v.tx, .int .i64 p.v.ty, .int .i64 p.v.height, .int .i64 p.v.deadline, .slice (some ⟨g, 0, none⟩) p.r.n p.r.n]) (by simp [results, Tryd.results39, go_sem, a0, a1, a2, a3, a4, a5, a6, a7, a8]) rfl ⟨g, rfl, ?_, hbf⟩
  exact ((ho.within hfin (.inr (by omega))).wide (by omega) hfin.size)

theorem LiftInfo : (Tryd.prog.info? 59).map (fun i => (i.zero, i.size, i.bytes)) = some (some (.agg #[.string ⟨#[]⟩, .int .i64 0, .int .i64 0, .int .i64 0, .int .i64 0, .int .i64 0, .int .i64 0, .int .i64 0, .slice none 0 0]), 9, 96) := by kernel_rfl
def ToLiftS (w : World) (n : Nat) (ps : List Lift) (e : Ending) (w' : World) : Prop :=
  ∃ g ps', e = .returned (.slice (some ⟨g, 0, none⟩) n n) ∧ ps'.map Lift.val = ps.map Lift.val ∧ LiftsOwn w' w.heap.size w'.heap.size (some ⟨g, 0, none⟩) n ps' ∧ Below w.heap.size w w'
set_option maxRecDepth 100000 in
set_option maxHeartbeats 3200000 in
theorem eqLift_same (v : LiftV) (r r2 : Row Int) (w : World) (lo lo2 : Nat) (hx : r.xs = r2.xs) (h : Arr ic 1 w lo w.heap.size r.a r.n r.xs) (h2 : Arr ic 1 w lo2 w.heap.size r2.a r2.n r2.xs) (hn : r.n ≤ 9223372036854775807) :
    Calls Tryd.prog 41 #[.agg #[.string v.name, .int .i64 v.weight, .int .i64 v.fx, .int .i64 v.fy, .int .i64 v.tx, .int .i64 v.ty, .int .i64 v.height, .int .i64 v.deadline, .slice r.a r.n r.cap], .agg #[.string v.name, .int .i64 v.weight, .int .i64 v.fx, .int .i64 v.fy, .int .i64 v.tx, .int .i64 v.ty, .int .i64 v.height, .int .i64 v.deadline, .slice r2.a r2.n r2.cap]] w fun e w' => e = .returned (.bool true) ∧ Below w.heap.size w w' := by
  have hnn : r2.n = r.n := by rw [← h.1, ← h2.1, hx]
  rw [hnn] at h2 ⊢
  rw [← hx] at h2
  clear hx hnn
  go_enter Tryd.func41, Tryd.ntmps41
  go_wp2_with fail
  refine (eqPoint_same _ _ _).mono ?_
  rintro _ x0 ⟨rfl, hb0⟩
  have P0 : Blk x0 w.heap.size 59 #[.string v.name, .int .i64 v.weight, .int .i64 v.fx, .int .i64 v.fy, .int .i64 v.tx, .int .i64 v.ty, .int .i64 v.height, .int .i64 v.deadline, .slice r.a r.n r.cap] := ((Blk.new w 59 #[.string v.name, .int .i64 v.weight, .int .i64 v.fx, .int .i64 v.fy, .int .i64 v.tx, .int .i64 v.ty, .int .i64 v.height, .int .i64 v.deadline, .slice r.a r.n r.cap]).alloc (Obj.cells #[.string v.name, .int .i64 v.weight, .int .i64 v.fx, .int .i64 v.fy, .int .i64 v.tx, .int .i64 v.ty, .int .i64 v.height, .int .i64 v.deadline, .slice r2.a r.n r2.cap] 59)).bel hb0
  have Q0 : Blk x0 (w.heap.size + 1) 59 #[.string v.name, .int .i64 v.weight, .int .i64 v.fx, .int .i64 v.fy, .int .i64 v.tx, .int .i64 v.ty, .int .i64 v.height, .int .i64 v.deadline, .slice r2.a r.n r2.cap] := (Blk.new_at (w := w.alloc (Obj.cells #[.string v.name, .int .i64 v.weight, .int .i64 v.fx, .int .i64 v.fy, .int .i64 v.tx, .int .i64 v.ty, .int .i64 v.height, .int .i64 v.deadline, .slice r.a r.n r.cap] 59)) (cs := #[.string v.name, .int .i64 v.weight, .int .i64 v.fx, .int .i64 v.fy, .int .i64 v.tx, .int .i64 v.ty, .int .i64 v.height, .int .i64 v.deadline, .slice r2.a r.n r2.cap]) (t := 59) rfl (by simp) : Blk _ (w.heap.size + 1) _ _).bel hb0
  have hbZ : Below w.heap.size w x0 := Below.trans (by repeat (first | exact Below.refl _ _ | (refine Below.setCell ?_ (by first | (simp; done) | (simp; omega)) _) | (refine Below.alloc ?_ (by first | (simp; done) | (simp; omega)) _) | refine Below.drew ?_)) (hb0.mono (by first | (simp; done) | (simp; omega)))
  obtain ⟨a0, a1, a2, a3, a4, a5, a6, a7, a8⟩ := Lift.blk P0
  obtain ⟨b0, b1, b2, b3, b4, b5, b6, b7, b8⟩ := Lift.blk Q0
  clear hb0
  go_wp2_with fail
  refine (eqPoint_same _ _ _).mono ?_
  rintro _ x1 ⟨rfl, hb1⟩
  have P1 := P0.bel hb1
  have Q1 := Q0.bel hb1
  have hbY : Below w.heap.size w x1 := hbZ.trans (hb1.mono hbZ.size)
  clear hbZ P0 Q0 a0 a1 a2 a3 a4 a5 a6 a7 a8 b0 b1 b2 b3 b4 b5 b6 b7 b8
  have hbZ := hbY
  clear hbY
  obtain ⟨a0, a1, a2, a3, a4, a5, a6, a7, a8⟩ := Lift.blk P1
  obtain ⟨b0, b1, b2, b3, b4, b5, b6, b7, b8⟩ := Lift.blk Q1
  clear hb1
  go_wp2_with fail
  refine (eqInt64S_same _ _ _ _ _ r.xs _ lo lo2 ((h.below hbZ).more hbZ.size) ((h2.below hbZ).more hbZ.size) hn).mono ?_
  rintro _ x2 ⟨rfl, hb2⟩
  go_wp2
  go_ret
  exact ⟨rfl, hbZ.trans (hb2.mono hbZ.size)⟩

end Go.Proofs.YtencnldflnbdiaaDoor
