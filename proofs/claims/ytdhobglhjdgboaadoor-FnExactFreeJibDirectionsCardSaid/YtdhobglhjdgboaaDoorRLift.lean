/- Lift: the record (points in it, a slice at its end), and the contracts of the laws' own functions over it: size, copy, equality. -/
import Derived.Test.YtdhobglhjdgboaaDoorProg
import Derived.Test.YtdhobglhjdgboaaDoorNest2
import Derived.Test.YtdhobglhjdgboaaDoorPoint
import Derived.Test.YtdhobglhjdgboaaDoorPut
import Derived.Test.YtdhobglhjdgboaaDoorRInt64S2
import Derived.Deep.RegionHeld3
import Derived.Deep.QuietTactic
import Derived.BigQuiet
import Derived.KernelRfl
namespace Go.Proofs.YtdhobglhjdgboaaDoor
open Go.RowKit
set_option linter.unusedVariables false

structure LiftV where
  name : ByteArray
  weight : Int
  fx : Int
  fy : Int
  tx : Int
  ty : Int
  height : Int
  deadline : Int
/-- the record and where its slice lies -/
structure Lift where
  v : LiftV
  r : Row Int
def Lift.val (p : Lift) : LiftV × List Int := (p.v, p.r.xs)
def Lift.cs (p : Lift) : List Value := [.string p.v.name, .int .i64 p.v.weight, .int .i64 p.v.fx, .int .i64 p.v.fy, .int .i64 p.v.tx, .int .i64 p.v.ty, .int .i64 p.v.height, .int .i64 p.v.deadline, .slice p.r.a p.r.n p.r.cap]
theorem Lift.cs_len (p : Lift) : p.cs.length = 9 := rfl
theorem Lift.cs_one (p : Lift) : ∀ u ∈ p.cs, u.oneCell' = true := by intro u hu; simp [Lift.cs] at hu; rcases hu with rfl | rfl | rfl | rfl | rfl | rfl | rfl | rfl | rfl <;> rfl
structure LiftV.wf (p : LiftV) : Prop where
  name : p.name.size ≤ 9223372036854775807
  weight : -9223372036854775808 ≤ p.weight ∧ p.weight ≤ 9223372036854775807
  fx : -9223372036854775808 ≤ p.fx ∧ p.fx ≤ 9223372036854775807
  fy : -9223372036854775808 ≤ p.fy ∧ p.fy ≤ 9223372036854775807
  tx : -9223372036854775808 ≤ p.tx ∧ p.tx ≤ 9223372036854775807
  ty : -9223372036854775808 ≤ p.ty ∧ p.ty ≤ 9223372036854775807
  height : -9223372036854775808 ≤ p.height ∧ p.height ≤ 9223372036854775807
  deadline : -9223372036854775808 ≤ p.deadline ∧ p.deadline ≤ 9223372036854775807
structure Lift.wf (p : Lift) : Prop where
  v : p.v.wf
  n : p.r.n ≤ 9223372036854775807
  xs : True
abbrev Lifts (w : World) (lo hi : Nat) (A : Option Addr) (n : Nat) (ps : List Lift) : Prop := NArr Lift.cs 9 ic 1 Lift.r w lo hi A n ps
abbrev LiftsOwn (w : World) (lo hi : Nat) (A : Option Addr) (n : Nat) (ps : List Lift) : Prop := NOwn Lift.cs 9 68 ic 1 2 Lift.r w lo hi A n ps
theorem Lift.at {w : World} {lo hi : Nat} {A : Option Addr} {n : Nat} {xs : List Lift} (h : Lifts w lo hi A n xs) {i : Nat} (hi' : i < n) :
    ∃ b off p, A = some ⟨b, off, none⟩ ∧ xs[i]? = some p ∧ lo ≤ b ∧ b < hi ∧ Arr ic 1 w lo hi p.r.a p.r.n p.r.xs ∧ w.cell? ⟨b, off + i * 9, none⟩ = some (.string p.v.name) ∧ w.cell? ⟨b, off + i * 9 + 1, none⟩ = some (.int .i64 p.v.weight) ∧ w.cell? ⟨b, off + i * 9 + 2, none⟩ = some (.int .i64 p.v.fx) ∧ w.cell? ⟨b, off + i * 9 + 3, none⟩ = some (.int .i64 p.v.fy) ∧ w.cell? ⟨b, off + i * 9 + 4, none⟩ = some (.int .i64 p.v.tx) ∧ w.cell? ⟨b, off + i * 9 + 5, none⟩ = some (.int .i64 p.v.ty) ∧ w.cell? ⟨b, off + i * 9 + 6, none⟩ = some (.int .i64 p.v.height) ∧ w.cell? ⟨b, off + i * 9 + 7, none⟩ = some (.int .i64 p.v.deadline) ∧ w.cell? ⟨b, off + i * 9 + 8, none⟩ = some (.slice p.r.a p.r.n p.r.cap) := by
  obtain ⟨b, off, p, h1, h2, h3, h4, hc⟩ := h.1.cells hi'
  exact ⟨b, off, p, h1, h2, h3, h4, h.2 p (List.mem_of_getElem? h2), hc 0 _ rfl, hc 1 _ rfl, hc 2 _ rfl, hc 3 _ rfl, hc 4 _ rfl, hc 5 _ rfl, hc 6 _ rfl, hc 7 _ rfl, hc 8 _ rfl⟩
theorem Lift.blk {w : World} {g : Nat} {t : TypeId} {v0 v1 v2 v3 v4 v5 v6 v7 v8 : Value} (h : Blk w g t #[v0, v1, v2, v3, v4, v5, v6, v7, v8]) : w.cell? ⟨g, 0, none⟩ = some v0 ∧ w.cell? ⟨g, 1, none⟩ = some v1 ∧ w.cell? ⟨g, 2, none⟩ = some v2 ∧ w.cell? ⟨g, 3, none⟩ = some v3 ∧ w.cell? ⟨g, 4, none⟩ = some v4 ∧ w.cell? ⟨g, 5, none⟩ = some v5 ∧ w.cell? ⟨g, 6, none⟩ = some v6 ∧ w.cell? ⟨g, 7, none⟩ = some v7 ∧ w.cell? ⟨g, 8, none⟩ = some v8 := ⟨(h.cell 0).trans rfl, (h.cell 1).trans rfl, (h.cell 2).trans rfl, (h.cell 3).trans rfl, (h.cell 4).trans rfl, (h.cell 5).trans rfl, (h.cell 6).trans rfl, (h.cell 7).trans rfl, (h.cell 8).trans rfl⟩
theorem Lift.fro {w : World} {g : Nat} {t : TypeId} {cs : Array Value} (h : Blk w g t cs) : w.frozen? ⟨g, 0, none⟩ = false ∧ w.frozen? ⟨g, 1, none⟩ = false ∧ w.frozen? ⟨g, 2, none⟩ = false ∧ w.frozen? ⟨g, 3, none⟩ = false ∧ w.frozen? ⟨g, 4, none⟩ = false ∧ w.frozen? ⟨g, 5, none⟩ = false ∧ w.frozen? ⟨g, 6, none⟩ = false ∧ w.frozen? ⟨g, 7, none⟩ = false ∧ w.frozen? ⟨g, 8, none⟩ = false := ⟨h.frozen 0, h.frozen 1, h.frozen 2, h.frozen 3, h.frozen 4, h.frozen 5, h.frozen 6, h.frozen 7, h.frozen 8⟩
def Lift.sz (p : Lift) : Nat := p.v.name.size + p.r.n
set_option maxRecDepth 100000 in
set_option maxHeartbeats 400000 in
theorem szLift_ok (p : Lift) (left : Int) (w : World) (hp : p.wf) (h0 : 0 ≤ left) (h1 : left ≤ 1048576) (h : (p.sz : Int) ≤ left) :
    Calls Tryd.prog 61 #[.agg #[.string p.v.name, .int .i64 p.v.weight, .int .i64 p.v.fx, .int .i64 p.v.fy, .int .i64 p.v.tx, .int .i64 p.v.ty, .int .i64 p.v.height, .int .i64 p.v.deadline, .slice p.r.a p.r.n p.r.cap], .int .i64 left] w fun e w' => e = .returned (.int .i64 (left - (p.sz : Int))) ∧ Below w.heap.size w w' := by
  have hn := hp.v.name
  have hr := hp.n
  have hxs := hp.xs
  unfold Lift.sz at *
  go_enter Tryd.func61, Tryd.ntmps61
  go_wp2_with (go_at_call 144; refine (szInt64S_ok _ _ _ _ _ hr (by omega) (by omega) (by omega)).mono ?_; rintro e w1 ⟨rfl, hb1⟩)
  go_ret
  exact ⟨ret_int (by omega), ((Below.refl _ _).alloc (Nat.le_refl _) _).trans (hb1.mono (by simp))⟩
set_option maxRecDepth 100000 in
set_option maxHeartbeats 400000 in
theorem szLift_no (p : Lift) (left : Int) (w : World) (hp : p.wf) (h0 : 0 ≤ left) (h1 : left ≤ 1048576) (h : left < (p.sz : Int)) :
    Calls Tryd.prog 61 #[.agg #[.string p.v.name, .int .i64 p.v.weight, .int .i64 p.v.fx, .int .i64 p.v.fy, .int .i64 p.v.tx, .int .i64 p.v.ty, .int .i64 p.v.height, .int .i64 p.v.deadline, .slice p.r.a p.r.n p.r.cap], .int .i64 left] w fun e w' => e = .returned (.int .i64 (-1)) ∧ Below w.heap.size w w' := by
  have hn := hp.v.name
  have hr := hp.n
  have hxs := hp.xs
  unfold Lift.sz at *
  by_cases hle : (p.v.name.size : Int) ≤ left
  · go_enter Tryd.func61, Tryd.ntmps61
    go_wp2_with (go_at_call 144; refine (szInt64S_no _ _ _ _ _ hr (by omega) (by omega) (by omega)).mono ?_; rintro e w1 ⟨rfl, hb1⟩)
    go_ret
    exact ⟨rfl, ((Below.refl _ _).alloc (Nat.le_refl _) _).trans (hb1.mono (by simp))⟩
  · go_enter Tryd.func61, Tryd.ntmps61
    go_wp2
    go_ret
    exact ⟨rfl, (Below.refl _ _).alloc (Nat.le_refl _) _⟩
def szLiftS (n : Nat) (ps : List Lift) : Int := (n : Int) + (tot Lift.sz ps : Nat)
set_option maxRecDepth 100000 in
set_option maxHeartbeats 800000 in
theorem szLiftS_ok (A : Option Addr) (n c : Nat) (ps : List Lift) (left : Int) (w : World) (lo : Nat) (h : Lifts w lo w.heap.size A n ps) (hn : n ≤ 9223372036854775807) (hp : ∀ p ∈ ps, p.wf) (h0 : 0 ≤ left) (h1 : left ≤ 1048576) (hs : szLiftS n ps ≤ left) :
    Calls Tryd.prog 10 #[.slice A n c, .int .i64 left] w fun e w' => e = .returned (.int .i64 (left - szLiftS n ps)) ∧ Below w.heap.size w w' := by
  have HS := Lib.hid hs
  clear hs
  by_cases hl : (n : Int) ≤ left
  · go_enter Tryd.func10, Tryd.ntmps10
    go_wp2
    go_loopw [1, 5] (fun l i wr => ∃ k : Nat, k ≤ n ∧ i = .int .i64 k ∧ l = .int .i64 (left - n - (tot Lift.sz (ps.take k) : Nat)) ∧ 0 ≤ left - n - (tot Lift.sz (ps.take k) : Nat) ∧ Below w.heap.size w wr) (fun _ i _ => n - (intOf i).toNat)
    case atStart => exact ⟨0, Nat.zero_le _, rfl, by simp [tot], by simp [tot]; omega, Below.refl _ _⟩
    case round =>
      obtain ⟨k, hk, rfl, rfl, hr, hb⟩ := hrel
      by_cases hlt : k < n
      · obtain ⟨b, off, p, rfl, hx, _, hbl, hRow, c0, c1, c2, c3, c4, c5, c6, c7, c8⟩ := Lift.at (h.below hb) hlt
        have hpw := hp p (List.mem_of_getElem? hx)
        have HT := Lib.hid (tot_snoc Lift.sz ps k p hx)
        have HL := Lib.hid (tot_le Lift.sz ps (k + 1))
        generalize tot Lift.sz (ps.take k) = T at *
        by_cases hle : (p.sz : Int) ≤ left - n - T
        · go_wp2_with (go_at_call 61; refine (szLift_ok p _ _ hpw (by omega) (by omega) (by omega)).mono ?_; rintro e w1 ⟨rfl, hb1⟩)
          go_roundw
          case rel => exact ⟨k + 1, by omega, by go_num, by rw [HT.out]; go_num, by rw [HT.out]; omega, hb.trans (hb1.mono hb.size)⟩
          case measure => simp [intOf]; omega
        · go_wp2_with (go_at_call 61; refine (szLift_no p _ _ hpw (by omega) (by omega) (by omega)).mono ?_; rintro e w1 ⟨rfl, hb1⟩)
          go_ret
          exact absurd HS.out (by have h1 := HT.out; have h2 := HL.out; rw [h1] at h2; unfold szLiftS; omega)
      · obtain rfl : k = n := by omega
        go_wp2
        go_ret
        exact ⟨ret_int (by unfold szLiftS; rw [List.take_of_length_le (by rw [h.len]; exact Nat.le_refl _)]; omega), hb⟩
  · exact absurd HS.out (by unfold szLiftS; omega)
set_option maxRecDepth 100000 in
set_option maxHeartbeats 800000 in
theorem szLiftS_no (A : Option Addr) (n c : Nat) (ps : List Lift) (left : Int) (w : World) (lo : Nat) (h : Lifts w lo w.heap.size A n ps) (hn : n ≤ 9223372036854775807) (hp : ∀ p ∈ ps, p.wf) (h0 : 0 ≤ left) (h1 : left ≤ 1048576) (hs : left < szLiftS n ps) :
    Calls Tryd.prog 10 #[.slice A n c, .int .i64 left] w fun e w' => e = .returned (.int .i64 (-1)) ∧ Below w.heap.size w w' := by
  have HS := Lib.hid hs
  clear hs
  by_cases hl : (n : Int) ≤ left
  · go_enter Tryd.func10, Tryd.ntmps10
    go_wp2
    go_loopw [1, 5] (fun l i wr => ∃ k : Nat, k ≤ n ∧ i = .int .i64 k ∧ l = .int .i64 (left - n - (tot Lift.sz (ps.take k) : Nat)) ∧ 0 ≤ left - n - (tot Lift.sz (ps.take k) : Nat) ∧ Below w.heap.size w wr) (fun _ i _ => n - (intOf i).toNat)
    case atStart => exact ⟨0, Nat.zero_le _, rfl, by simp [tot], by simp [tot]; omega, Below.refl _ _⟩
    case round =>
      obtain ⟨k, hk, rfl, rfl, hr, hb⟩ := hrel
      by_cases hlt : k < n
      · obtain ⟨b, off, p, rfl, hx, _, hbl, hRow, c0, c1, c2, c3, c4, c5, c6, c7, c8⟩ := Lift.at (h.below hb) hlt
        have hpw := hp p (List.mem_of_getElem? hx)
        have HT := Lib.hid (tot_snoc Lift.sz ps k p hx)
        have HL := Lib.hid (tot_le Lift.sz ps (k + 1))
        generalize tot Lift.sz (ps.take k) = T at *
        by_cases hle : (p.sz : Int) ≤ left - n - T
        · go_wp2_with (go_at_call 61; refine (szLift_ok p _ _ hpw (by omega) (by omega) (by omega)).mono ?_; rintro e w1 ⟨rfl, hb1⟩)
          go_roundw
          case rel => exact ⟨k + 1, by omega, by go_num, by rw [HT.out]; go_num, by rw [HT.out]; omega, hb.trans (hb1.mono hb.size)⟩
          case measure => simp [intOf]; omega
        · go_wp2_with (go_at_call 61; refine (szLift_no p _ _ hpw (by omega) (by omega) (by omega)).mono ?_; rintro e w1 ⟨rfl, hb1⟩)
          go_ret
          exact ⟨rfl, hb.trans (hb1.mono hb.size)⟩
      · obtain rfl : k = n := by omega
        go_wp2
        go_ret
        exact absurd HS.out (by rw [List.take_of_length_le (by rw [h.len]; exact Nat.le_refl _)] at hr; unfold szLiftS; omega)
  · go_enter Tryd.func10, Tryd.ntmps10
    go_wp2
    go_ret
    exact ⟨rfl, Below.refl _ _⟩

/-- a call that hands back a copy with a row of its own -/
def ToLift (w : World) (p : Lift) (e : Ending) (w' : World) : Prop :=
  ∃ g, e = .returned (.agg #[.string p.v.name, .int .i64 p.v.weight, .int .i64 p.v.fx, .int .i64 p.v.fy, .int .i64 p.v.tx, .int .i64 p.v.ty, .int .i64 p.v.height, .int .i64 p.v.deadline, .slice (some ⟨g, 0, none⟩) p.r.n p.r.n]) ∧ Own ic 1 w' w.heap.size w'.heap.size 2 (some ⟨g, 0, none⟩) p.r.n p.r.xs ∧ Below w.heap.size w w'
set_option maxRecDepth 100000 in
set_option maxHeartbeats 3200000 in
theorem toLift_any (p : Lift) (w : World) (lo : Nat) (hr : Arr ic 1 w lo w.heap.size p.r.a p.r.n p.r.xs) (hn : p.r.n ≤ 1048576) :
    Calls Tryd.prog 64 #[.agg #[.string p.v.name, .int .i64 p.v.weight, .int .i64 p.v.fx, .int .i64 p.v.fy, .int .i64 p.v.tx, .int .i64 p.v.ty, .int .i64 p.v.height, .int .i64 p.v.deadline, .slice p.r.a p.r.n p.r.cap]] w (ToLift w p) := by
  go_enter Tryd.func64, Tryd.ntmps64
  go_wp2_with fail
  have A0 := (Below.refl w.heap.size w).alloc (Nat.le_refl _) (Obj.cells #[.string p.v.name, .int .i64 p.v.weight, .int .i64 p.v.fx, .int .i64 p.v.fy, .int .i64 p.v.tx, .int .i64 p.v.ty, .int .i64 p.v.height, .int .i64 p.v.deadline, .slice p.r.a p.r.n p.r.cap] 106)
  have A1 := A0.alloc (by simp) (Obj.cells #[.string ⟨#[]⟩, .int .i64 0, .int .i64 0, .int .i64 0, .int .i64 0, .int .i64 0, .int .i64 0, .int .i64 0, .slice none 0 0] 68)
  have hbX := A1.alloc (by simp; omega) (Obj.cells #[.string p.v.name, .int .i64 p.v.weight, .int .i64 0, .int .i64 0, .int .i64 0, .int .i64 0, .int .i64 0, .int .i64 0, .slice none 0 0] 68)
  have P9 := ((Blk.new w 106 #[.string p.v.name, .int .i64 p.v.weight, .int .i64 p.v.fx, .int .i64 p.v.fy, .int .i64 p.v.tx, .int .i64 p.v.ty, .int .i64 p.v.height, .int .i64 p.v.deadline, .slice p.r.a p.r.n p.r.cap]).alloc (Obj.cells #[.string ⟨#[]⟩, .int .i64 0, .int .i64 0, .int .i64 0, .int .i64 0, .int .i64 0, .int .i64 0, .int .i64 0, .slice none 0 0] 68)).alloc (Obj.cells #[.string p.v.name, .int .i64 p.v.weight, .int .i64 0, .int .i64 0, .int .i64 0, .int .i64 0, .int .i64 0, .int .i64 0, .slice none 0 0] 68)
  have R9 := (Blk.new_at (w := w.alloc (Obj.cells #[.string p.v.name, .int .i64 p.v.weight, .int .i64 p.v.fx, .int .i64 p.v.fy, .int .i64 p.v.tx, .int .i64 p.v.ty, .int .i64 p.v.height, .int .i64 p.v.deadline, .slice p.r.a p.r.n p.r.cap] 106)) (cs := #[.string ⟨#[]⟩, .int .i64 0, .int .i64 0, .int .i64 0, .int .i64 0, .int .i64 0, .int .i64 0, .int .i64 0, .slice none 0 0]) (t := 68) rfl (by simp) : Blk _ (w.heap.size + 1) _ _).alloc (Obj.cells #[.string p.v.name, .int .i64 p.v.weight, .int .i64 0, .int .i64 0, .int .i64 0, .int .i64 0, .int .i64 0, .int .i64 0, .slice none 0 0] 68)
  have O9 := (Blk.new_at (w := (w.alloc (Obj.cells #[.string p.v.name, .int .i64 p.v.weight, .int .i64 p.v.fx, .int .i64 p.v.fy, .int .i64 p.v.tx, .int .i64 p.v.ty, .int .i64 p.v.height, .int .i64 p.v.deadline, .slice p.r.a p.r.n p.r.cap] 106)).alloc (Obj.cells #[.string ⟨#[]⟩, .int .i64 0, .int .i64 0, .int .i64 0, .int .i64 0, .int .i64 0, .int .i64 0, .int .i64 0, .slice none 0 0] 68)) (cs := #[.string p.v.name, .int .i64 p.v.weight, .int .i64 0, .int .i64 0, .int .i64 0, .int .i64 0, .int .i64 0, .int .i64 0, .slice none 0 0]) (t := 68) rfl (by simp) : Blk _ (w.heap.size + 1 + 1) _ _)
  clear A0 A1
  refine (toPoint_any _ _ _).mono ?_
  rintro _ x0 ⟨rfl, hb0⟩
  have hbZ := hbX.trans (hb0.mono hbX.size)
  have P0 := P9.bel hb0
  have R0 := R9.bel hb0
  have O0 : Blk x0 (w.heap.size + 1 + 1) 68 #[.string p.v.name, .int .i64 p.v.weight, .int .i64 0, .int .i64 0, .int .i64 0, .int .i64 0, .int .i64 0, .int .i64 0, .slice none 0 0] := O9.bel hb0
  clear hbX P9 R9 O9 hb0
  have hs0 : w.heap.size + 1 + 1 < x0.heap.size := O0.lt
  obtain ⟨a0, a1, a2, a3, a4, a5, a6, a7, a8⟩ := Lift.blk P0
  obtain ⟨b0, b1, b2, b3, b4, b5, b6, b7, b8⟩ := Lift.blk R0
  obtain ⟨d0, d1, d2, d3, d4, d5, d6, d7, d8⟩ := Lift.blk O0
  obtain ⟨f0, f1, f2, f3, f4, f5, f6, f7, f8⟩ := Lift.fro R0
  obtain ⟨g0, g1, g2, g3, g4, g5, g6, g7, g8⟩ := Lift.fro O0
  go_wp2_with fail
  have hbX := ((hbZ.setCell (p := ⟨w.heap.size + 1 + 1, 2, none⟩) (by dsimp only; omega) (.int .i64 p.v.fx)).setCell (p := ⟨w.heap.size + 1 + 1, 3, none⟩) (by dsimp only; omega) (.int .i64 p.v.fy))
  have P9 := ((P0.far (p := ⟨w.heap.size + 1 + 1, 2, none⟩) (by dsimp only; omega) (.int .i64 p.v.fx)).far (p := ⟨w.heap.size + 1 + 1, 3, none⟩) (by dsimp only; omega) (.int .i64 p.v.fy))
  have R9 := ((R0.far (p := ⟨w.heap.size + 1 + 1, 2, none⟩) (by dsimp only; omega) (.int .i64 p.v.fx)).far (p := ⟨w.heap.size + 1 + 1, 3, none⟩) (by dsimp only; omega) (.int .i64 p.v.fy))
  have O9 := ((O0.set_ 2 (.int .i64 p.v.fx)).set_ 3 (.int .i64 p.v.fy))
  clear hbZ P0 R0 O0
  refine (toPoint_any _ _ _).mono ?_
  rintro _ x1 ⟨rfl, hb1⟩
  have hbZ := hbX.trans (hb1.mono hbX.size)
  have P1 := P9.bel hb1
  have R1 := R9.bel hb1
  have O1 : Blk x1 (w.heap.size + 1 + 1) 68 #[.string p.v.name, .int .i64 p.v.weight, .int .i64 p.v.fx, .int .i64 p.v.fy, .int .i64 0, .int .i64 0, .int .i64 0, .int .i64 0, .slice none 0 0] := O9.bel hb1
  clear hbX P9 R9 O9 hb1
  clear a0 a1 a2 a3 a4 a5 a6 a7 a8 b0 b1 b2 b3 b4 b5 b6 b7 b8 d0 d1 d2 d3 d4 d5 d6 d7 d8 f0 g0 f1 g1 f2 g2 f3 g3 f4 g4 f5 g5 f6 g6 f7 g7 f8 g8 hs0
  have hs1 : w.heap.size + 1 + 1 < x1.heap.size := O1.lt
  obtain ⟨a0, a1, a2, a3, a4, a5, a6, a7, a8⟩ := Lift.blk P1
  obtain ⟨b0, b1, b2, b3, b4, b5, b6, b7, b8⟩ := Lift.blk R1
  obtain ⟨d0, d1, d2, d3, d4, d5, d6, d7, d8⟩ := Lift.blk O1
  obtain ⟨f0, f1, f2, f3, f4, f5, f6, f7, f8⟩ := Lift.fro R1
  obtain ⟨g0, g1, g2, g3, g4, g5, g6, g7, g8⟩ := Lift.fro O1
  go_wp2_with fail
  have hbX := ((((hbZ.setCell (p := ⟨w.heap.size + 1 + 1, 4, none⟩) (by dsimp only; omega) (.int .i64 p.v.tx)).setCell (p := ⟨w.heap.size + 1 + 1, 5, none⟩) (by dsimp only; omega) (.int .i64 p.v.ty)).setCell (p := ⟨w.heap.size + 1 + 1, 6, none⟩) (by dsimp only; omega) (.int .i64 p.v.height)).setCell (p := ⟨w.heap.size + 1 + 1, 7, none⟩) (by dsimp only; omega) (.int .i64 p.v.deadline))
  have P9 := ((((P1.far (p := ⟨w.heap.size + 1 + 1, 4, none⟩) (by dsimp only; omega) (.int .i64 p.v.tx)).far (p := ⟨w.heap.size + 1 + 1, 5, none⟩) (by dsimp only; omega) (.int .i64 p.v.ty)).far (p := ⟨w.heap.size + 1 + 1, 6, none⟩) (by dsimp only; omega) (.int .i64 p.v.height)).far (p := ⟨w.heap.size + 1 + 1, 7, none⟩) (by dsimp only; omega) (.int .i64 p.v.deadline))
  have R9 := ((((R1.far (p := ⟨w.heap.size + 1 + 1, 4, none⟩) (by dsimp only; omega) (.int .i64 p.v.tx)).far (p := ⟨w.heap.size + 1 + 1, 5, none⟩) (by dsimp only; omega) (.int .i64 p.v.ty)).far (p := ⟨w.heap.size + 1 + 1, 6, none⟩) (by dsimp only; omega) (.int .i64 p.v.height)).far (p := ⟨w.heap.size + 1 + 1, 7, none⟩) (by dsimp only; omega) (.int .i64 p.v.deadline))
  have O9 := ((((O1.set_ 4 (.int .i64 p.v.tx)).set_ 5 (.int .i64 p.v.ty)).set_ 6 (.int .i64 p.v.height)).set_ 7 (.int .i64 p.v.deadline))
  clear hbZ P1 R1 O1
  refine (toInt64S_any _ _ _ p.r.xs _ lo ((hr.below hbX).more hbX.size) hn).mono ?_
  rintro _ x2 ⟨g, rfl, ho, hb2⟩
  have hbZ := hbX.trans (hb2.mono hbX.size)
  have P2 := P9.bel hb2
  have R2 := R9.bel hb2
  have O2 : Blk x2 (w.heap.size + 1 + 1) 68 #[.string p.v.name, .int .i64 p.v.weight, .int .i64 p.v.fx, .int .i64 p.v.fy, .int .i64 p.v.tx, .int .i64 p.v.ty, .int .i64 p.v.height, .int .i64 p.v.deadline, .slice none 0 0] := O9.bel hb2
  have hsX : w.heap.size + 1 + 1 < _ := O9.lt
  clear hbX P9 R9 O9 hb2
  clear a0 a1 a2 a3 a4 a5 a6 a7 a8 b0 b1 b2 b3 b4 b5 b6 b7 b8 d0 d1 d2 d3 d4 d5 d6 d7 d8 f0 g0 f1 g1 f2 g2 f3 g3 f4 g4 f5 g5 f6 g6 f7 g7 f8 g8 hs1
  have hs2 : w.heap.size + 1 + 1 < x2.heap.size := O2.lt
  obtain ⟨a0, a1, a2, a3, a4, a5, a6, a7, a8⟩ := Lift.blk P2
  obtain ⟨b0, b1, b2, b3, b4, b5, b6, b7, b8⟩ := Lift.blk R2
  obtain ⟨d0, d1, d2, d3, d4, d5, d6, d7, d8⟩ := Lift.blk O2
  obtain ⟨f0, f1, f2, f3, f4, f5, f6, f7, f8⟩ := Lift.fro R2
  obtain ⟨g0, g1, g2, g3, g4, g5, g6, g7, g8⟩ := Lift.fro O2
  go_wp2
  have hfin := (((((((((((Within.refl w.heap.size (w.heap.size + 3) x2).setCell (p := ⟨w.heap.size + 1 + 1, 8, none⟩) (by dsimp only; omega) (by dsimp only; omega) (.slice (some ⟨g, 0, none⟩) p.r.n p.r.n)).setCell (p := ⟨w.heap.size + 1, 0, none⟩) (by dsimp only; omega) (by dsimp only; omega) (.string p.v.name)).setCell (p := ⟨w.heap.size + 1, 1, none⟩) (by dsimp only; omega) (by dsimp only; omega) (.int .i64 p.v.weight)).setCell (p := ⟨w.heap.size + 1, 2, none⟩) (by dsimp only; omega) (by dsimp only; omega) (.int .i64 p.v.fx)).setCell (p := ⟨w.heap.size + 1, 3, none⟩) (by dsimp only; omega) (by dsimp only; omega) (.int .i64 p.v.fy)).setCell (p := ⟨w.heap.size + 1, 4, none⟩) (by dsimp only; omega) (by dsimp only; omega) (.int .i64 p.v.tx)).setCell (p := ⟨w.heap.size + 1, 5, none⟩) (by dsimp only; omega) (by dsimp only; omega) (.int .i64 p.v.ty)).setCell (p := ⟨w.heap.size + 1, 6, none⟩) (by dsimp only; omega) (by dsimp only; omega) (.int .i64 p.v.height)).setCell (p := ⟨w.heap.size + 1, 7, none⟩) (by dsimp only; omega) (by dsimp only; omega) (.int .i64 p.v.deadline)).setCell (p := ⟨w.heap.size + 1, 8, none⟩) (by dsimp only; omega) (by dsimp only; omega) (.slice (some ⟨g, 0, none⟩) p.r.n p.r.n))
  have hbf := ((((((((((hbZ.setCell (p := ⟨w.heap.size + 1 + 1, 8, none⟩) (by dsimp only; omega) (.slice (some ⟨g, 0, none⟩) p.r.n p.r.n)).setCell (p := ⟨w.heap.size + 1, 0, none⟩) (by dsimp only; omega) (.string p.v.name)).setCell (p := ⟨w.heap.size + 1, 1, none⟩) (by dsimp only; omega) (.int .i64 p.v.weight)).setCell (p := ⟨w.heap.size + 1, 2, none⟩) (by dsimp only; omega) (.int .i64 p.v.fx)).setCell (p := ⟨w.heap.size + 1, 3, none⟩) (by dsimp only; omega) (.int .i64 p.v.fy)).setCell (p := ⟨w.heap.size + 1, 4, none⟩) (by dsimp only; omega) (.int .i64 p.v.tx)).setCell (p := ⟨w.heap.size + 1, 5, none⟩) (by dsimp only; omega) (.int .i64 p.v.ty)).setCell (p := ⟨w.heap.size + 1, 6, none⟩) (by dsimp only; omega) (.int .i64 p.v.height)).setCell (p := ⟨w.heap.size + 1, 7, none⟩) (by dsimp only; omega) (.int .i64 p.v.deadline)).setCell (p := ⟨w.heap.size + 1, 8, none⟩) (by dsimp only; omega) (.slice (some ⟨g, 0, none⟩) p.r.n p.r.n))
  have RF : Blk _ (w.heap.size + 1) 68 #[.string p.v.name, .int .i64 p.v.weight, .int .i64 p.v.fx, .int .i64 p.v.fy, .int .i64 p.v.tx, .int .i64 p.v.ty, .int .i64 p.v.height, .int .i64 p.v.deadline, .slice (some ⟨g, 0, none⟩) p.r.n p.r.n] := (((((((((((R2.far (p := ⟨w.heap.size + 1 + 1, 8, none⟩) (by dsimp only; omega) (.slice (some ⟨g, 0, none⟩) p.r.n p.r.n))).set_ 0 (.string p.v.name)).set_ 1 (.int .i64 p.v.weight)).set_ 2 (.int .i64 p.v.fx)).set_ 3 (.int .i64 p.v.fy)).set_ 4 (.int .i64 p.v.tx)).set_ 5 (.int .i64 p.v.ty)).set_ 6 (.int .i64 p.v.height)).set_ 7 (.int .i64 p.v.deadline)).set_ 8 (.slice (some ⟨g, 0, none⟩) p.r.n p.r.n))
  clear a0 a1 a2 a3 a4 a5 a6 a7 a8 b0 b1 b2 b3 b4 b5 b6 b7 b8 d0 d1 d2 d3 d4 d5 d6 d7 d8 f0 g0 f1 g1 f2 g2 f3 g3 f4 g4 f5 g5 f6 g6 f7 g7 f8 g8 R2 O2 P2
  revert hfin hbf RF
  generalize ((((((((((x2.setCell ⟨w.heap.size + 1 + 1, 8, none⟩ (.slice (some ⟨g, 0, none⟩) p.r.n p.r.n)).setCell ⟨w.heap.size + 1, 0, none⟩ (.string p.v.name)).setCell ⟨w.heap.size + 1, 1, none⟩ (.int .i64 p.v.weight)).setCell ⟨w.heap.size + 1, 2, none⟩ (.int .i64 p.v.fx)).setCell ⟨w.heap.size + 1, 3, none⟩ (.int .i64 p.v.fy)).setCell ⟨w.heap.size + 1, 4, none⟩ (.int .i64 p.v.tx)).setCell ⟨w.heap.size + 1, 5, none⟩ (.int .i64 p.v.ty)).setCell ⟨w.heap.size + 1, 6, none⟩ (.int .i64 p.v.height)).setCell ⟨w.heap.size + 1, 7, none⟩ (.int .i64 p.v.deadline)).setCell ⟨w.heap.size + 1, 8, none⟩ (.slice (some ⟨g, 0, none⟩) p.r.n p.r.n)) = Wf
  intro hfin hbf RF
  obtain ⟨a0, a1, a2, a3, a4, a5, a6, a7, a8⟩ := Lift.blk RF
  refine bodyPost_ret (v := .agg #[.string p.v.name, .int .i64 p.v.weight, .int .i64 p.v.fx, .int .i64 p.v.fy, .int .i64 p.v.tx, .int .i64 p.v.ty, .int .i64 p.v.height, .int .i64 p.v.deadline, .slice (some ⟨g, 0, none⟩) p.r.n p.r.n]) (by simp [results, Tryd.results64, go_sem, a0, a1, a2, a3, a4, a5, a6, a7, a8]) rfl ⟨g, rfl, ?_, hbf⟩
  exact ((ho.within hfin (.inr (by omega))).wide (by omega) hfin.size)

theorem LiftInfo : (Tryd.prog.info? 68).map (fun i => (i.zero, i.size, i.bytes)) = some (some (.agg #[.string ⟨#[]⟩, .int .i64 0, .int .i64 0, .int .i64 0, .int .i64 0, .int .i64 0, .int .i64 0, .int .i64 0, .slice none 0 0]), 9, 96) := by kernel_rfl
def ToLiftS (w : World) (n : Nat) (ps : List Lift) (e : Ending) (w' : World) : Prop :=
  ∃ g ps', e = .returned (.slice (some ⟨g, 0, none⟩) n n) ∧ ps'.map Lift.val = ps.map Lift.val ∧ LiftsOwn w' w.heap.size w'.heap.size (some ⟨g, 0, none⟩) n ps' ∧ Below w.heap.size w w'
set_option maxHeartbeats 3200000 in
theorem toLiftS_any (A : Option Addr) (n c : Nat) (ps : List Lift) (w : World) (lo : Nat) (h : Lifts w lo w.heap.size A n ps) (hn : n ≤ 1048576) (hp : ∀ p ∈ ps, p.r.n ≤ 1048576) :
    Calls Tryd.prog 12 #[.slice A n c] w (ToLiftS w n ps) := by
  obtain ⟨i0, hi, hz0, hz1, hz2⟩ := info_parts LiftInfo
  have hmk := fun W => run_make_rowN (P := Tryd.prog) 26 68 i0 _ Tryd.underlying26 hi hz0 .i64 .i64 n n (Nat.le_refl _) (by rw [hz2]; omega) (by omega) W
  rw [hz1] at hmk
  go_enter Tryd.func12, Tryd.ntmps12
  go_wp2
  clear hmk
  go_loopw [4] (fun i wr => ∃ (k : Nat) (cs : Array Value) (out : List Lift), k ≤ n ∧ i = .int .i64 k ∧ Blk wr w.heap.size 68 cs ∧ cs.size = n * 9 ∧ Laid Lift.val Lift.cs 9 ic 1 2 Lift.r wr (w.heap.size + 1) cs ps k out ∧ w.heap.size + 1 ≤ wr.heap.size ∧ Below w.heap.size w wr) (fun i _ => n - (intOf i).toNat)
  case atStart => exact ⟨0, _, [], Nat.zero_le _, rfl, Blk.new _ _ _, by simp [size_madeCells], Laid.start _ _ _ _ (by simp), by simp, (Below.refl _ _).alloc (Nat.le_refl _) _⟩
  case round =>
    obtain ⟨k, cs, out, hk, rfl, hblk, hsz, hlaid, hws, hb⟩ := hrel
    have HZ := Lib.hid hsz
    clear hsz
    by_cases hlt : k < n
    · obtain ⟨b, off, p, rfl, hx, _, hbl, hrow, c0, c1, c2, c3, c4, c5, c6, c7, c8⟩ := Lift.at (h.below hb) hlt
      have hrn := hp p (List.mem_of_getElem? hx)
      have hg := hblk.lt
      have HX := Lib.hid hx
      have HL := Lib.hid hlaid
      have hsz2 := hb.size
      obtain ⟨u0, e0⟩ : ∃ u, wr.cell? ⟨w.heap.size, k * 9, none⟩ = some u := hblk.there (by have := HZ.out; omega)
      obtain ⟨u1, e1⟩ : ∃ u, wr.cell? ⟨w.heap.size, k * 9 + 1, none⟩ = some u := hblk.there (by have := HZ.out; omega)
      obtain ⟨u2, e2⟩ : ∃ u, wr.cell? ⟨w.heap.size, k * 9 + 2, none⟩ = some u := hblk.there (by have := HZ.out; omega)
      obtain ⟨u3, e3⟩ : ∃ u, wr.cell? ⟨w.heap.size, k * 9 + 3, none⟩ = some u := hblk.there (by have := HZ.out; omega)
      obtain ⟨u4, e4⟩ : ∃ u, wr.cell? ⟨w.heap.size, k * 9 + 4, none⟩ = some u := hblk.there (by have := HZ.out; omega)
      obtain ⟨u5, e5⟩ : ∃ u, wr.cell? ⟨w.heap.size, k * 9 + 5, none⟩ = some u := hblk.there (by have := HZ.out; omega)
      obtain ⟨u6, e6⟩ : ∃ u, wr.cell? ⟨w.heap.size, k * 9 + 6, none⟩ = some u := hblk.there (by have := HZ.out; omega)
      obtain ⟨u7, e7⟩ : ∃ u, wr.cell? ⟨w.heap.size, k * 9 + 7, none⟩ = some u := hblk.there (by have := HZ.out; omega)
      obtain ⟨u8, e8⟩ : ∃ u, wr.cell? ⟨w.heap.size, k * 9 + 8, none⟩ = some u := hblk.there (by have := HZ.out; omega)
      have f0 := hblk.frozen (k * 9)
      have f1 := hblk.frozen (k * 9 + 1)
      have f2 := hblk.frozen (k * 9 + 2)
      have f3 := hblk.frozen (k * 9 + 3)
      have f4 := hblk.frozen (k * 9 + 4)
      have f5 := hblk.frozen (k * 9 + 5)
      have f6 := hblk.frozen (k * 9 + 6)
      have f7 := hblk.frozen (k * 9 + 7)
      have f8 := hblk.frozen (k * 9 + 8)
      have HB := Lib.hid hblk
      have hk0 : (0 : Int) ≤ (k : Int) := by omega
      have hk1 : (k : Int) < (n : Int) := by omega
      clear hblk hx hlaid
      go_wp2_with (go_at_call 64; refine (toLift_any p _ _ (hrow.more hsz2) hrn).mono ?_; rintro e w1 ⟨g, rfl, ho, hb1⟩; have e01 := (hb1.cell (p := ⟨w.heap.size, k * 9, none⟩) hg).trans e0; have f01 := (hb1.frozen (p := ⟨w.heap.size, k * 9, none⟩) hg).trans f0; have e11 := (hb1.cell (p := ⟨w.heap.size, k * 9 + 1, none⟩) hg).trans e1; have f11 := (hb1.frozen (p := ⟨w.heap.size, k * 9 + 1, none⟩) hg).trans f1; have e21 := (hb1.cell (p := ⟨w.heap.size, k * 9 + 2, none⟩) hg).trans e2; have f21 := (hb1.frozen (p := ⟨w.heap.size, k * 9 + 2, none⟩) hg).trans f2; have e31 := (hb1.cell (p := ⟨w.heap.size, k * 9 + 3, none⟩) hg).trans e3; have f31 := (hb1.frozen (p := ⟨w.heap.size, k * 9 + 3, none⟩) hg).trans f3; have e41 := (hb1.cell (p := ⟨w.heap.size, k * 9 + 4, none⟩) hg).trans e4; have f41 := (hb1.frozen (p := ⟨w.heap.size, k * 9 + 4, none⟩) hg).trans f4; have e51 := (hb1.cell (p := ⟨w.heap.size, k * 9 + 5, none⟩) hg).trans e5; have f51 := (hb1.frozen (p := ⟨w.heap.size, k * 9 + 5, none⟩) hg).trans f5; have e61 := (hb1.cell (p := ⟨w.heap.size, k * 9 + 6, none⟩) hg).trans e6; have f61 := (hb1.frozen (p := ⟨w.heap.size, k * 9 + 6, none⟩) hg).trans f6; have e71 := (hb1.cell (p := ⟨w.heap.size, k * 9 + 7, none⟩) hg).trans e7; have f71 := (hb1.frozen (p := ⟨w.heap.size, k * 9 + 7, none⟩) hg).trans f7; have e81 := (hb1.cell (p := ⟨w.heap.size, k * 9 + 8, none⟩) hg).trans e8; have f81 := (hb1.frozen (p := ⟨w.heap.size, k * 9 + 8, none⟩) hg).trans f8)
      go_roundw
      case rel => exact ⟨k + 1, _, _, by omega, by go_num, (((((((((HB.out.below hb1 hg).set_ (k * 9) (.string p.v.name)).set_ (k * 9 + 1) (.int .i64 p.v.weight)).set_ (k * 9 + 2) (.int .i64 p.v.fx)).set_ (k * 9 + 3) (.int .i64 p.v.fy)).set_ (k * 9 + 4) (.int .i64 p.v.tx)).set_ (k * 9 + 5) (.int .i64 p.v.ty)).set_ (k * 9 + 6) (.int .i64 p.v.height)).set_ (k * 9 + 7) (.int .i64 p.v.deadline)).set_ (k * 9 + 8) (.slice (some ⟨g, 0, none⟩) p.r.n p.r.n), by simp [HZ.out], (HL.out.step (p' := ⟨p.v, ⟨some ⟨g, 0, none⟩, p.r.n, p.r.n, p.r.xs⟩⟩) HX.out rfl (fun hf => hf.put9 (x := ⟨p.v, ⟨some ⟨g, 0, none⟩, p.r.n, p.r.n, p.r.xs⟩⟩) (by rw [← HL.out.len]; simp) (by have := HZ.out; omega)) hb1 ho).within ((((((((((Within.refl w.heap.size (w.heap.size + 1) w1).setCell (Nat.le_refl _) (by simp) _).setCell (Nat.le_refl _) (by simp) _).setCell (Nat.le_refl _) (by simp) _).setCell (Nat.le_refl _) (by simp) _).setCell (Nat.le_refl _) (by simp) _).setCell (Nat.le_refl _) (by simp) _).setCell (Nat.le_refl _) (by simp) _).setCell (Nat.le_refl _) (by simp) _).setCell (Nat.le_refl _) (by simp) _) (by omega), by have := hb1.size; simp; omega, (((((((((hb.trans (hb1.mono hb.size)).setCell (Nat.le_refl _) _).setCell (Nat.le_refl _) _).setCell (Nat.le_refl _) _).setCell (Nat.le_refl _) _).setCell (Nat.le_refl _) _).setCell (Nat.le_refl _) _).setCell (Nat.le_refl _) _).setCell (Nat.le_refl _) _).setCell (Nat.le_refl _) _⟩
      case measure => simp [intOf]; omega
    · obtain rfl : k = n := by omega
      go_wp2
      go_ret
      exact ⟨w.heap.size, out, rfl, by rw [hlaid.val_, List.take_of_length_le (by rw [List.length_map, h.len]; exact Nat.le_refl _)], hlaid.nown hblk (by rw [HZ.out]; exact Nat.le_refl _), hb⟩

set_option maxRecDepth 100000 in
set_option maxHeartbeats 3200000 in
theorem eqLift_same (v : LiftV) (r r2 : Row Int) (w : World) (lo lo2 : Nat) (hx : r.xs = r2.xs) (h : Arr ic 1 w lo w.heap.size r.a r.n r.xs) (h2 : Arr ic 1 w lo2 w.heap.size r2.a r2.n r2.xs) (hn : r.n ≤ 9223372036854775807) :
    Calls Tryd.prog 69 #[.agg #[.string v.name, .int .i64 v.weight, .int .i64 v.fx, .int .i64 v.fy, .int .i64 v.tx, .int .i64 v.ty, .int .i64 v.height, .int .i64 v.deadline, .slice r.a r.n r.cap], .agg #[.string v.name, .int .i64 v.weight, .int .i64 v.fx, .int .i64 v.fy, .int .i64 v.tx, .int .i64 v.ty, .int .i64 v.height, .int .i64 v.deadline, .slice r2.a r2.n r2.cap]] w fun e w' => e = .returned (.bool true) ∧ Below w.heap.size w w' := by
  have hnn : r2.n = r.n := by rw [← h.1, ← h2.1, hx]
  rw [hnn] at h2 ⊢
  rw [← hx] at h2
  clear hx hnn
  go_enter Tryd.func69, Tryd.ntmps69
  go_wp2_with fail
  refine (eqPoint_same _ _ _).mono ?_
  rintro _ x0 ⟨rfl, hb0⟩
  have P0 : Blk x0 w.heap.size 68 #[.string v.name, .int .i64 v.weight, .int .i64 v.fx, .int .i64 v.fy, .int .i64 v.tx, .int .i64 v.ty, .int .i64 v.height, .int .i64 v.deadline, .slice r.a r.n r.cap] := ((Blk.new w 68 #[.string v.name, .int .i64 v.weight, .int .i64 v.fx, .int .i64 v.fy, .int .i64 v.tx, .int .i64 v.ty, .int .i64 v.height, .int .i64 v.deadline, .slice r.a r.n r.cap]).alloc (Obj.cells #[.string v.name, .int .i64 v.weight, .int .i64 v.fx, .int .i64 v.fy, .int .i64 v.tx, .int .i64 v.ty, .int .i64 v.height, .int .i64 v.deadline, .slice r2.a r.n r2.cap] 68)).bel hb0
  have Q0 : Blk x0 (w.heap.size + 1) 68 #[.string v.name, .int .i64 v.weight, .int .i64 v.fx, .int .i64 v.fy, .int .i64 v.tx, .int .i64 v.ty, .int .i64 v.height, .int .i64 v.deadline, .slice r2.a r.n r2.cap] := (Blk.new_at (w := w.alloc (Obj.cells #[.string v.name, .int .i64 v.weight, .int .i64 v.fx, .int .i64 v.fy, .int .i64 v.tx, .int .i64 v.ty, .int .i64 v.height, .int .i64 v.deadline, .slice r.a r.n r.cap] 68)) (cs := #[.string v.name, .int .i64 v.weight, .int .i64 v.fx, .int .i64 v.fy, .int .i64 v.tx, .int .i64 v.ty, .int .i64 v.height, .int .i64 v.deadline, .slice r2.a r.n r2.cap]) (t := 68) rfl (by simp) : Blk _ (w.heap.size + 1) _ _).bel hb0
  have hbZ : Below w.heap.size w x0 := Below.trans (by repeat (first | exact Below.refl _ _ | (refine Below.setCell ?_ (by first | (simp; done) | (simp; omega)) _) | (refine Below.alloc ?_ (by first | (simp; done) | (simp; omega)) _) | refine Below.drew ?_)) (hb0.mono (by first | (simp; done) | (simp; omega)))
  obtain ⟨a0, a1, a2, a3, a4, a5, a6, a7, a8⟩ := Lift.blk P0
  obtain ⟨b0, b1, b2, b3, b4, b5, b6, b7, b8⟩ := Lift.blk Q0
  clear hb0
  go_wp2_with fail
  refine (eqPoint_same _ _ _).mono ?_
  rintro _ x1 ⟨rfl, hb1⟩
  have P1 := P0.bel hb1
  have Q1 := Q0.bel hb1
  have hbY : Below w.heap.size w x1 := hbZ.trans (hb1.mono hbZ.size)
  clear hbZ P0 Q0 a0 a1 a2 a3 a4 a5 a6 a7 a8 b0 b1 b2 b3 b4 b5 b6 b7 b8
  have hbZ := hbY
  clear hbY
  obtain ⟨a0, a1, a2, a3, a4, a5, a6, a7, a8⟩ := Lift.blk P1
  obtain ⟨b0, b1, b2, b3, b4, b5, b6, b7, b8⟩ := Lift.blk Q1
  clear hb1
  go_wp2_with fail
  refine (eqInt64S_same _ _ _ _ _ r.xs _ lo lo2 ((h.below hbZ).more hbZ.size) ((h2.below hbZ).more hbZ.size) hn).mono ?_
  rintro _ x2 ⟨rfl, hb2⟩
  go_wp2
  go_ret
  exact ⟨rfl, hbZ.trans (hb2.mono hbZ.size)⟩

set_option maxRecDepth 100000 in
set_option maxHeartbeats 3200000 in
theorem eqLiftS_same (A A2 : Option Addr) (n c c2 : Nat) (ps ps2 : List Lift) (w : World) (lo lo2 : Nat) (hv : ps.map Lift.val = ps2.map Lift.val) (h : Lifts w lo w.heap.size A n ps) (h2 : Lifts w lo2 w.heap.size A2 n ps2) (hn : n ≤ 9223372036854775807) (hp : ∀ p ∈ ps, p.r.n ≤ 9223372036854775807) :
    Calls Tryd.prog 14 #[.slice A n c, .slice A2 n c2] w fun e w' => e = .returned (.bool true) ∧ Below w.heap.size w w' := by
  have HV := Lib.hid hv
  clear hv
  go_enter Tryd.func14, Tryd.ntmps14
  go_wp2
  go_loopw [5] (fun i wr => ∃ k : Nat, k ≤ n ∧ i = .int .i64 k ∧ Below w.heap.size w wr) (fun i _ => n - (intOf i).toNat)
  case atStart => exact ⟨0, Nat.zero_le _, rfl, Below.refl _ _⟩
  case round =>
    obtain ⟨k, hk, rfl, hb⟩ := hrel
    by_cases hlt : k < n
    · obtain ⟨b, off, p, rfl, hx, _, hbl, hr, c0, c1, c2, c3, c4, c5, c6, c7, c8⟩ := Lift.at (h.below hb) hlt
      obtain ⟨b2, off2, p2, rfl, hx2, _, hbl2, hr2, d0, d1, d2, d3, d4, d5, d6, d7, d8⟩ := Lift.at (h2.below hb) hlt
      have hrn := hp p (List.mem_of_getElem? hx)
      have hvv := val_same HV.out hx hx2
      obtain ⟨v, r⟩ := p
      obtain ⟨v2, r2⟩ := p2
      obtain ⟨e1, e2⟩ : v = v2 ∧ r.xs = r2.xs := by simpa [Lift.val] using hvv
      subst e1
      dsimp only at hr hr2 hrn c0 c1 c2 c3 c4 c5 c6 c7 c8 d0 d1 d2 d3 d4 d5 d6 d7 d8
      have hlt0 : (0 : Int) ≤ (k : Int) := by omega
      have hlt1 : (k : Int) < (n : Int) := by omega
      have hx1 := hbl; have hx3 := hbl2; have hx4 := hb.size
      have E2 := Lib.hid e2
      clear h h2 hx hx2 hvv e2 hp
      go_wp2_with fail
      go_region_held3 (fun w' => w'.cell? ⟨b, off + k * 9, none⟩ = some (.string v.name) ∧ w'.cell? ⟨b, off + k * 9 + 1, none⟩ = some (.int .i64 v.weight) ∧ w'.cell? ⟨b, off + k * 9 + 2, none⟩ = some (.int .i64 v.fx) ∧ w'.cell? ⟨b, off + k * 9 + 3, none⟩ = some (.int .i64 v.fy) ∧ w'.cell? ⟨b, off + k * 9 + 4, none⟩ = some (.int .i64 v.tx) ∧ w'.cell? ⟨b, off + k * 9 + 5, none⟩ = some (.int .i64 v.ty) ∧ w'.cell? ⟨b, off + k * 9 + 6, none⟩ = some (.int .i64 v.height) ∧ w'.cell? ⟨b, off + k * 9 + 7, none⟩ = some (.int .i64 v.deadline) ∧ w'.cell? ⟨b, off + k * 9 + 8, none⟩ = some (.slice r.a r.n r.cap) ∧ w'.cell? ⟨b2, off2 + k * 9, none⟩ = some (.string v.name) ∧ w'.cell? ⟨b2, off2 + k * 9 + 1, none⟩ = some (.int .i64 v.weight) ∧ w'.cell? ⟨b2, off2 + k * 9 + 2, none⟩ = some (.int .i64 v.fx) ∧ w'.cell? ⟨b2, off2 + k * 9 + 3, none⟩ = some (.int .i64 v.fy) ∧ w'.cell? ⟨b2, off2 + k * 9 + 4, none⟩ = some (.int .i64 v.tx) ∧ w'.cell? ⟨b2, off2 + k * 9 + 5, none⟩ = some (.int .i64 v.ty) ∧ w'.cell? ⟨b2, off2 + k * 9 + 6, none⟩ = some (.int .i64 v.height) ∧ w'.cell? ⟨b2, off2 + k * 9 + 7, none⟩ = some (.int .i64 v.deadline) ∧ w'.cell? ⟨b2, off2 + k * 9 + 8, none⟩ = some (.slice r2.a r2.n r2.cap)) (first | go_keep | exact ⟨(hb1.cell (by simp; omega)).trans c0, (hb1.cell (by simp; omega)).trans c1, (hb1.cell (by simp; omega)).trans c2, (hb1.cell (by simp; omega)).trans c3, (hb1.cell (by simp; omega)).trans c4, (hb1.cell (by simp; omega)).trans c5, (hb1.cell (by simp; omega)).trans c6, (hb1.cell (by simp; omega)).trans c7, (hb1.cell (by simp; omega)).trans c8, (hb1.cell (by simp; omega)).trans d0, (hb1.cell (by simp; omega)).trans d1, (hb1.cell (by simp; omega)).trans d2, (hb1.cell (by simp; omega)).trans d3, (hb1.cell (by simp; omega)).trans d4, (hb1.cell (by simp; omega)).trans d5, (hb1.cell (by simp; omega)).trans d6, (hb1.cell (by simp; omega)).trans d7, (hb1.cell (by simp; omega)).trans d8⟩) (first | (go_at_call 69; refine (eqLift_same v r r2 _ lo lo2 E2.out ((hr.below ((Below.refl _ _).drew)).more hx4) ((hr2.below ((Below.refl _ _).drew)).more hx4) hrn).mono ?_; rintro e w1 ⟨rfl, hb1⟩))
      go_wp2
      go_roundw
      case rel => exact ⟨k + 1, by omega, by go_num, hb.trans ((Below.drew (Below.refl _ _)).trans (hb1.mono hb.size))⟩
      case measure => simp [intOf]; omega
    · obtain rfl : k = n := by omega
      go_wp2
      go_ret
      exact ⟨rfl, hb⟩
end Go.Proofs.YtdhobglhjdgboaaDoor
