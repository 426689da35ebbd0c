/- Made by merge.py of XSegs, XDrawOne, XDrawLifts. -/
import Derived.Test.YtnidnmbicnhflaaSrc2
import Derived.Deep.RegionWith
import Derived.Test.YtnidnmbicnhflaaSpecAddLift
import Derived.Test.YtnidnmbicnhflaaDrawnLaw
/- XSegs: A2Segments of the reference: two valid segments. -/
namespace Go.Proofs.Ytnidnmbicnhflaa
open Go.RowKit
set_option linter.unusedVariables false

theorem l00From_any (A : Option Addr) (n c : Nat) (w : World) :
    Calls Try.prog 23 #[.slice A n c] w fun e w' => e = .returned (.pointer (some ⟨w.heap.size, 0, none⟩)) ∧ w' = w.alloc (.cells #[.slice A n c, .int .i64 0, .int .u64 0] 94) := by
  go_enter Try.func23, Try.ntmps23
  go_wp2
  go_ret
  exact ⟨rfl, rfl⟩
def TwoSegs (w : World) (e : Ending) (w' : World) : Prop :=
  ∃ s t : Seg, e = .returned (.tuple #[.agg #[.int .i64 s.ax, .int .i64 s.ay, .int .i64 s.bx, .int .i64 s.by_], .agg #[.int .i64 t.ax, .int .i64 t.ay, .int .i64 t.bx, .int .i64 t.by_]]) ∧ s.ok ∧ t.ok ∧ Below w.heap.size w w'
theorem Within.fromNew {lo hi : Nat} {a w : World} (h : Within lo hi a w) (hl : a.heap.size ≤ lo) : Below a.heap.size a w :=
  ⟨h.os, h.tape, h.output, h.size, fun k hk => h.block k hk (by omega)⟩
section
variable {V w : World} {b b2 B : Nat} {cs : Array Value}
def putSeg (V : World) (b : Nat) (s : Seg) : World := (((V.setCell ⟨b, 0, none⟩ (.int .i64 s.ax)).setCell ⟨b, 1, none⟩ (.int .i64 s.ay)).setCell ⟨b, 2, none⟩ (.int .i64 s.bx)).setCell ⟨b, 3, none⟩ (.int .i64 s.by_)
theorem seg_bel (h : Below B w V) (hb : B ≤ b) (s : Seg) : Below B w (putSeg V b s) :=
  (((h.setCell (p := ⟨b, 0, none⟩) hb _).setCell (p := ⟨b, 1, none⟩) hb _).setCell (p := ⟨b, 2, none⟩) hb _).setCell (p := ⟨b, 3, none⟩) hb _
theorem putSeg_eq (V : World) (b : Nat) (s : Seg) : (((V.setCell ⟨b, 0, none⟩ (.int .i64 s.ax)).setCell ⟨b, 1, none⟩ (.int .i64 s.ay)).setCell ⟨b, 2, none⟩ (.int .i64 s.bx)).setCell ⟨b, 3, none⟩ (.int .i64 s.by_) = putSeg V b s := rfl
end
end Go.Proofs.Ytnidnmbicnhflaa
/- XDrawOne: Made by merge.py of XAddLiftH, XDrawOne. -/
/- XAddLiftH: l08Copy and AddLift of the reference once more: rows may be nil. -/
namespace Go.Proofs.Ytnidnmbicnhflaa
open Go.RowKit
set_option linter.unusedVariables false

/-- a row has a head, or it is nil -/
def Headed (r : Row Int) : Prop := (∃ a, r.a = some a) ∨ (r.a = none ∧ r.n = 0 ∧ r.cap = 0)
end Go.Proofs.Ytnidnmbicnhflaa
/- XDrawOne: l08DrawOne of the reference: a valid lift. -/
namespace Go.Proofs.Ytnidnmbicnhflaa
open Go.RowKit
set_option linter.unusedVariables false

/-- a lift that has just been drawn, its row in memory of the call -/
structure Drawn (w w' : World) (i : Nat) (name : ByteArray) (p : Lift) : Prop where
  name : p.v.name = name
  place : -600 ≤ p.v.fx ∧ p.v.fx ≤ 600 ∧ -600 ≤ p.v.fy ∧ p.v.fy ≤ 600 ∧ -600 ≤ p.v.tx ∧ p.v.tx ≤ 600 ∧ -600 ≤ p.v.ty ∧ p.v.ty ≤ 600
  nums : 100 ≤ p.v.weight ∧ p.v.weight ≤ 3099 ∧ 0 ≤ p.v.height ∧ p.v.height ≤ 299 ∧ 100 ≤ p.v.deadline ∧ p.v.deadline ≤ 5099
  rises : risesB p.r.xs (i : Int) = true
  head : Headed p.r
  len : p.r.n ≤ i
  row : Own ic 1 w' w.heap.size w'.heap.size 2 p.r.a p.r.n p.r.xs
  grow : Grow ic 1 w' w.heap.size 2 (.slice p.r.a p.r.n p.r.cap) p.r.xs
theorem Grow.far2 {α : Type} {c : α → List Value} {k : Nat} {w w' : World} {lo : Nat} {e : TypeId} {v : Value} {xs : List α} (h : Grow c k w lo e v xs) {g : Nat} (hw : Within g (g + 1) w w') (hg : g < lo) : Grow c k w' lo e v xs := by
  refine ⟨h.1, ?_⟩
  rcases h.2 with h2 | ⟨b, cap, cur, hv, hb, hh, r⟩
  · exact .inl h2
  · exact .inr ⟨b, cap, cur, hv, hb, by rw [hw.block b (heap_lt hh) (by omega)]; exact hh, r⟩
theorem Src.grown {w w' : World} {g B : Nat} {A : Option Addr} {n : Nat} {xs : List Int} {m : Nat} {row : Option Nat} (h : Src w g B A n xs m) (hg : w.grownBy w' row) (hr : ∀ k, row = some k → g < k) : Src w' g B A n xs m := by
  obtain ⟨c, p, seed, h1, h2, h3, hk, ha, hx, hB⟩ := h
  have := hk.lt
  exact ⟨c, p, seed, h1, h2, h3, (hg.block g this (fun e => by have := hr g e.symm; omega)).trans hk, ha.grown hg (by omega) (fun k hk2 => .inr (by have := hr k hk2; omega)), hx, hB⟩
theorem Grow.sl {α : Type} {c : α → List Value} {k : Nat} {w : World} {lo : Nat} {e : TypeId} {v : Value} {xs : List α} (h : Grow c k w lo e v xs) : ∃ A n cap, v = .slice A n cap := by
  rcases h.2 with ⟨rfl, h0⟩ | ⟨g, cap, cs, rfl, h1⟩
  · exact ⟨_, _, _, rfl⟩
  · exact ⟨_, _, _, rfl⟩
theorem Headed.ofGrow {w : World} {lo : Nat} {v : Value} {xs : List Int} (h : Grow ic 1 w lo 2 v xs) : ∃ A cap, v = .slice A xs.length cap ∧ Headed ⟨A, xs.length, cap, xs⟩ ∧ Own ic 1 w lo w.heap.size 2 A xs.length xs := by
  rcases h.2 with ⟨rfl, h0⟩ | ⟨g, cap, cs, rfl, h1, h2, h3, h4, h5, h6⟩
  · have hx : xs = [] := List.length_eq_zero_iff.1 h0
    subst hx
    exact ⟨none, 0, rfl, .inr ⟨rfl, rfl, rfl⟩, Own.nil _⟩
  · obtain ⟨A, cap2, hv, ho⟩ := Grow.own h ic_len
    injection hv with e1 e2 e3
    subst e1
    exact ⟨_, cap, rfl, .inl ⟨_, rfl⟩, ho⟩
def DrawOne (g B : Nat) (A : Option Addr) (n : Nat) (xs : List Int) (m i : Nat) (name : ByteArray) (w : World) (e : Ending) (w' : World) : Prop :=
  ∃ p : Lift, e = .returned (.agg #[.string p.v.name, .int .i64 p.v.weight, .int .i64 p.v.fx, .int .i64 p.v.fy, .int .i64 p.v.tx, .int .i64 p.v.ty, .int .i64 p.v.height, .int .i64 p.v.deadline, .slice p.r.a p.r.n p.r.cap]) ∧ Drawn w w' i name p ∧ Src w' g B A n xs m ∧ Within g (g + 1) w w'
section
variable {V : World} {b : Nat}
def putL (V : World) (b : Nat) (v0 v1 v2 v3 v4 v5 v6 v7 v8 : Value) : World := ((((((((V.setCell ⟨b, 0, none⟩ v0).setCell ⟨b, 1, none⟩ v1).setCell ⟨b, 2, none⟩ v2).setCell ⟨b, 3, none⟩ v3).setCell ⟨b, 4, none⟩ v4).setCell ⟨b, 5, none⟩ v5).setCell ⟨b, 6, none⟩ v6).setCell ⟨b, 7, none⟩ v7).setCell ⟨b, 8, none⟩ v8
theorem putL_eq (V : World) (b : Nat) (v0 v1 v2 v3 v4 v5 v6 v7 v8 : Value) : ((((((((V.setCell ⟨b, 0, none⟩ v0).setCell ⟨b, 1, none⟩ v1).setCell ⟨b, 2, none⟩ v2).setCell ⟨b, 3, none⟩ v3).setCell ⟨b, 4, none⟩ v4).setCell ⟨b, 5, none⟩ v5).setCell ⟨b, 6, none⟩ v6).setCell ⟨b, 7, none⟩ v7).setCell ⟨b, 8, none⟩ v8 = putL V b v0 v1 v2 v3 v4 v5 v6 v7 v8 := rfl
theorem putL_blk {z0 z1 z2 z3 z4 z5 z6 z7 z8 : Value} (h : Blk V b 40 #[z0, z1, z2, z3, z4, z5, z6, z7, z8]) (v0 v1 v2 v3 v4 v5 v6 v7 v8 : Value) : Blk (putL V b v0 v1 v2 v3 v4 v5 v6 v7 v8) b 40 #[v0, v1, v2, v3, v4, v5, v6, v7, v8] := by
  have h0 : Blk (V.setCell ⟨b, 0, none⟩ v0) b 40 #[v0, z1, z2, z3, z4, z5, z6, z7, z8] := h.set_lit (i := 0) (u := v0) rfl
  have h1 : Blk ((V.setCell ⟨b, 0, none⟩ v0).setCell ⟨b, 1, none⟩ v1) b 40 #[v0, v1, z2, z3, z4, z5, z6, z7, z8] := h0.set_lit (i := 1) (u := v1) rfl
  have h2 : Blk (((V.setCell ⟨b, 0, none⟩ v0).setCell ⟨b, 1, none⟩ v1).setCell ⟨b, 2, none⟩ v2) b 40 #[v0, v1, v2, z3, z4, z5, z6, z7, z8] := h1.set_lit (i := 2) (u := v2) rfl
  have h3 : Blk ((((V.setCell ⟨b, 0, none⟩ v0).setCell ⟨b, 1, none⟩ v1).setCell ⟨b, 2, none⟩ v2).setCell ⟨b, 3, none⟩ v3) b 40 #[v0, v1, v2, v3, z4, z5, z6, z7, z8] := h2.set_lit (i := 3) (u := v3) rfl
  have h4 : Blk (((((V.setCell ⟨b, 0, none⟩ v0).setCell ⟨b, 1, none⟩ v1).setCell ⟨b, 2, none⟩ v2).setCell ⟨b, 3, none⟩ v3).setCell ⟨b, 4, none⟩ v4) b 40 #[v0, v1, v2, v3, v4, z5, z6, z7, z8] := h3.set_lit (i := 4) (u := v4) rfl
  have h5 : Blk ((((((V.setCell ⟨b, 0, none⟩ v0).setCell ⟨b, 1, none⟩ v1).setCell ⟨b, 2, none⟩ v2).setCell ⟨b, 3, none⟩ v3).setCell ⟨b, 4, none⟩ v4).setCell ⟨b, 5, none⟩ v5) b 40 #[v0, v1, v2, v3, v4, v5, z6, z7, z8] := h4.set_lit (i := 5) (u := v5) rfl
  have h6 : Blk (((((((V.setCell ⟨b, 0, none⟩ v0).setCell ⟨b, 1, none⟩ v1).setCell ⟨b, 2, none⟩ v2).setCell ⟨b, 3, none⟩ v3).setCell ⟨b, 4, none⟩ v4).setCell ⟨b, 5, none⟩ v5).setCell ⟨b, 6, none⟩ v6) b 40 #[v0, v1, v2, v3, v4, v5, v6, z7, z8] := h5.set_lit (i := 6) (u := v6) rfl
  have h7 : Blk ((((((((V.setCell ⟨b, 0, none⟩ v0).setCell ⟨b, 1, none⟩ v1).setCell ⟨b, 2, none⟩ v2).setCell ⟨b, 3, none⟩ v3).setCell ⟨b, 4, none⟩ v4).setCell ⟨b, 5, none⟩ v5).setCell ⟨b, 6, none⟩ v6).setCell ⟨b, 7, none⟩ v7) b 40 #[v0, v1, v2, v3, v4, v5, v6, v7, z8] := h6.set_lit (i := 7) (u := v7) rfl
  have h8 : Blk (((((((((V.setCell ⟨b, 0, none⟩ v0).setCell ⟨b, 1, none⟩ v1).setCell ⟨b, 2, none⟩ v2).setCell ⟨b, 3, none⟩ v3).setCell ⟨b, 4, none⟩ v4).setCell ⟨b, 5, none⟩ v5).setCell ⟨b, 6, none⟩ v6).setCell ⟨b, 7, none⟩ v7).setCell ⟨b, 8, none⟩ v8) b 40 #[v0, v1, v2, v3, v4, v5, v6, v7, v8] := h7.set_lit (i := 8) (u := v8) rfl
  exact h8
theorem self_set {W : World} (h : Within b (b + 1) V W) (i : Nat) (u : Value) : Within b (b + 1) V (W.setCell ⟨b, i, none⟩ u) := h.setCell (p := ⟨b, i, none⟩) (Nat.le_refl _) (Nat.lt_succ_self _) u
theorem putL_self (V : World) (b : Nat) (v0 v1 v2 v3 v4 v5 v6 v7 v8 : Value) : Within b (b + 1) V (putL V b v0 v1 v2 v3 v4 v5 v6 v7 v8) := by
  unfold putL
  exact self_set (self_set (self_set (self_set (self_set (self_set (self_set (self_set (self_set (Within.refl b (b + 1) V) 0 v0) 1 v1) 2 v2) 3 v3) 4 v4) 5 v5) 6 v6) 7 v7) 8 v8
theorem fresh_set {lo hi : Nat} {a W : World} (h : Within lo hi a W) (hb : a.heap.size ≤ b) (i : Nat) (u : Value) : Within lo hi a (W.setCell ⟨b, i, none⟩ u) := h.fresh (p := ⟨b, i, none⟩) hb u
theorem putL_within {lo hi : Nat} {a : World} (h : Within lo hi a V) (hb : a.heap.size ≤ b) (v0 v1 v2 v3 v4 v5 v6 v7 v8 : Value) : Within lo hi a (putL V b v0 v1 v2 v3 v4 v5 v6 v7 v8) := by
  unfold putL
  exact fresh_set (fresh_set (fresh_set (fresh_set (fresh_set (fresh_set (fresh_set (fresh_set (fresh_set h hb 0 v0) hb 1 v1) hb 2 v2) hb 3 v3) hb 4 v4) hb 5 v5) hb 6 v6) hb 7 v7) hb 8 v8
end
theorem lift_end (g B : Nat) (A : Option Addr) (n : Nat) (xs : List Int) (m i : Nat) (name : ByteArray) (w : World) (p : Lift) (a : Act) (W' : World) (h6 : a.tmps.getD 6 undef = .pointer (some ⟨w.heap.size, 0, none⟩)) (hd : a.defers = [])
    (hB : Blk W' w.heap.size 40 #[.string p.v.name, .int .i64 p.v.weight, .int .i64 p.v.fx, .int .i64 p.v.fy, .int .i64 p.v.tx, .int .i64 p.v.ty, .int .i64 p.v.height, .int .i64 p.v.deadline, .slice p.r.a p.r.n p.r.cap]) (h1 : Drawn w W' i name p) (h2 : Src W' g B A n xs m) (h3 : Within g (g + 1) w W') :
    bodyPost Try.prog Try.f80 (DrawOne g B A n xs m i name w) Exit.ret a W' := by
  obtain ⟨c0, c1, c2, c3, c4, c5, c6, c7, c8⟩ := Lift.blk hB
  obtain ⟨tmps, defers⟩ := a
  dsimp only at h6 hd
  subst hd
  have k6 : tmps[6]?.getD undef = .pointer (some ⟨w.heap.size, 0, none⟩) := by simpa using h6
  exact bodyPost_ret (v := .agg #[.string p.v.name, .int .i64 p.v.weight, .int .i64 p.v.fx, .int .i64 p.v.fy, .int .i64 p.v.tx, .int .i64 p.v.ty, .int .i64 p.v.height, .int .i64 p.v.deadline, .slice p.r.a p.r.n p.r.cap]) (by simp [results, Try.results80, go_sem, k6, c0, c1, c2, c3, c4, c5, c6, c7, c8]) rfl ⟨p, rfl, h1, h2, h3⟩
set_option maxRecDepth 100000 in
set_option maxHeartbeats 3200000 in
theorem l08DrawOne_any (g B : Nat) (A : Option Addr) (n : Nat) (xs : List Int) (m : Nat) (hm : m ≤ 800000) (hn : n ≤ 1000000) (i : Nat) (hi : i ≤ 6) (name : ByteArray) (hnm : name.size ≤ 1) (w : World) (h : Src w g B A n xs m) :
    Calls Try.prog 80 #[.pointer (some ⟨g, 0, none⟩), .string name, .int .i64 (i : Int)] w (DrawOne g B A n xs (m + 30) i name w) := by
  have hg := h.lt
  obtain ⟨W, hW⟩ : ∃ W : World, W = w.alloc (.cells #[.string ⟨#[]⟩, .int .i64 0, .int .i64 0, .int .i64 0, .int .i64 0, .int .i64 0, .int .i64 0, .int .i64 0, .slice none 0 0] 40) := ⟨_, rfl⟩
  have hb : Below w.heap.size w W := by rw [hW]; exact (Below.refl _ _).alloc (Nat.le_refl _) _
  have hB : Blk W w.heap.size 40 #[.string ⟨#[]⟩, .int .i64 0, .int .i64 0, .int .i64 0, .int .i64 0, .int .i64 0, .int .i64 0, .int .i64 0, .slice none 0 0] := by rw [hW]; exact Blk.new _ _ _
  have hwb : Within g (g + 1) w W := .of_below _ _ hb
  have hWs : w.heap.size < W.heap.size := hB.lt
  go_enter Try.func80, Try.ntmps80
  go_wp2_with fail
  rw [← hW]
  clear hW
  refine (l02Draw_any g B A n xs m (by omega) hn W (h.bel hb)).mono ?_
  rintro e w1 ⟨fx, fy, rfl, hfx0, hfx1, hfy0, hfy1, hs1, hw1⟩
  have hB1 := hB.after hw1 (by omega)
  have hws1 := hw1.size
  obtain ⟨W2, hW2⟩ : ∃ W2 : World, W2 = w1.alloc (.cells #[.string name, .int .i64 0, .int .i64 fx, .int .i64 fy, .int .i64 0, .int .i64 0, .int .i64 0, .int .i64 0, .slice none 0 0] 40) := ⟨_, rfl⟩
  have hb2 : Below w1.heap.size w1 W2 := by rw [hW2]; exact (Below.refl _ _).alloc (Nat.le_refl _) _
  have hP : Blk W2 w1.heap.size 40 #[.string name, .int .i64 0, .int .i64 fx, .int .i64 fy, .int .i64 0, .int .i64 0, .int .i64 0, .int .i64 0, .slice none 0 0] := by rw [hW2]; exact Blk.new _ _ _
  have hws2 : w1.heap.size < W2.heap.size := hP.lt
  have hB2 := hB1.bel hb2
  have hwt2 := (hwb.trans hw1).trans (.of_below _ _ hb2)
  obtain ⟨b, hbq⟩ : ∃ b, w1.heap.size = b := ⟨_, rfl⟩
  go_wp2_with fail
  rw [← hW2]
  clear hW2
  refine (l02Draw_any g B A n xs (m + 4) (by omega) hn W2 (hs1.bel hb2)).mono ?_
  rintro e w3 ⟨tx, ty, rfl, htx0, htx1, hty0, hty1, hs3, hw3⟩
  rw [hbq] at hP hws2 hb2
  have hgb : g ≠ b := by omega
  have hwb0 : w.heap.size ≤ b := by omega
  have hP3 := hP.after hw3 hgb
  have hB3 := hB2.after hw3 (by omega)
  have hws3 := hw3.size
  have c4 : w3.cell? ⟨b, 4, none⟩ = some (.int .i64 0) := hP3.cell 4
  have c5 : w3.cell? ⟨b, 5, none⟩ = some (.int .i64 0) := hP3.cell 5
  have f4 := hP3.frozen 4
  have f5 := hP3.frozen 5
  obtain ⟨W3, hW3⟩ : ∃ W3 : World, W3 = (w3.setCell ⟨b, 4, none⟩ (.int .i64 tx)).setCell ⟨b, 5, none⟩ (.int .i64 ty) := ⟨_, rfl⟩
  have hP3' : Blk W3 b 40 #[.string name, .int .i64 0, .int .i64 fx, .int .i64 fy, .int .i64 tx, .int .i64 ty, .int .i64 0, .int .i64 0, .slice none 0 0] := by rw [hW3]; exact (hP3.set_ 4 (.int .i64 tx)).set_lit (i := 5) (u := .int .i64 ty) rfl
  have hwi3 : Within b (b + 1) w3 W3 := by rw [hW3]; exact ((Within.refl _ _ _).setCell (p := ⟨b, 4, none⟩) (Nat.le_refl _) (Nat.lt_succ_self _) _).setCell (p := ⟨b, 5, none⟩) (Nat.le_refl _) (Nat.lt_succ_self _) _
  have hS3 : Src W3 g B A n xs (m + 4 + 4) := hs3.far hwi3 (by omega)
  have hwt3 : Within g (g + 1) w W3 := by rw [hW3]; exact ((hwt2.trans hw3).fresh (p := ⟨b, 4, none⟩) hwb0 _).fresh (p := ⟨b, 5, none⟩) hwb0 _
  have hB3' : Blk W3 w.heap.size 40 #[.string ⟨#[]⟩, .int .i64 0, .int .i64 0, .int .i64 0, .int .i64 0, .int .i64 0, .int .i64 0, .int .i64 0, .slice none 0 0] := (hwi3.block w.heap.size (by omega) (by omega)).trans hB3
  have hz3 : W3.heap.size = w3.heap.size := by rw [hW3]; simp
  go_wp2_with fail
  rw [← hW3]
  clear hW3 c4 c5 f4 f5
  refine (pick_any g B A n xs (m + 4 + 4) (by omega) hn 3000 (by omega) (by omega) W3 hS3).mono ?_
  rintro e w4 ⟨wt, rfl, hwt0, hwt1, hs4, hw4⟩
  have hP4 := hP3'.after hw4 hgb
  have hB4 := hB3'.after hw4 (by omega)
  have hz4 := hw4.size
  have c1 : w4.cell? ⟨b, 1, none⟩ = some (.int .i64 0) := hP4.cell 1
  have f1 := hP4.frozen 1
  obtain ⟨W4, hW4⟩ : ∃ W4 : World, W4 = w4.setCell ⟨b, 1, none⟩ (.int .i64 (100 + wt)) := ⟨_, rfl⟩
  have hP4' : Blk W4 b 40 #[.string name, .int .i64 (100 + wt), .int .i64 fx, .int .i64 fy, .int .i64 tx, .int .i64 ty, .int .i64 0, .int .i64 0, .slice none 0 0] := by rw [hW4]; exact hP4.set_lit (i := 1) (u := .int .i64 (100 + wt)) rfl
  have hwi4 : Within b (b + 1) w4 W4 := by rw [hW4]; exact (Within.refl _ _ _).setCell (p := ⟨b, 1, none⟩) (Nat.le_refl _) (Nat.lt_succ_self _) _
  have hS4 : Src W4 g B A n xs (m + 4 + 4 + 2) := hs4.far hwi4 (by omega)
  have hwt4 : Within g (g + 1) w W4 := by rw [hW4]; exact (hwt3.trans hw4).fresh (p := ⟨b, 1, none⟩) hwb0 _
  have hB4' : Blk W4 w.heap.size 40 #[.string ⟨#[]⟩, .int .i64 0, .int .i64 0, .int .i64 0, .int .i64 0, .int .i64 0, .int .i64 0, .int .i64 0, .slice none 0 0] := (hwi4.block w.heap.size (by omega) (by omega)).trans hB4
  have hz4' : W4.heap.size = w4.heap.size := by rw [hW4]; simp
  go_wp2_with fail
  rw [← hW4]
  clear hW4 c1 f1
  refine (pick_any g B A n xs (m + 4 + 4 + 2) (by omega) hn 300 (by omega) (by omega) W4 hS4).mono ?_
  rintro e w5 ⟨hh, rfl, hh0, hh1, hs5, hw5⟩
  have hP5 := hP4'.after hw5 hgb
  have hB5 := hB4'.after hw5 (by omega)
  have hz5 := hw5.size
  have c6 : w5.cell? ⟨b, 6, none⟩ = some (.int .i64 0) := hP5.cell 6
  have f6 := hP5.frozen 6
  obtain ⟨W5, hW5⟩ : ∃ W5 : World, W5 = w5.setCell ⟨b, 6, none⟩ (.int .i64 hh) := ⟨_, rfl⟩
  have hP5' : Blk W5 b 40 #[.string name, .int .i64 (100 + wt), .int .i64 fx, .int .i64 fy, .int .i64 tx, .int .i64 ty, .int .i64 hh, .int .i64 0, .slice none 0 0] := by rw [hW5]; exact hP5.set_lit (i := 6) (u := .int .i64 hh) rfl
  have hwi5 : Within b (b + 1) w5 W5 := by rw [hW5]; exact (Within.refl _ _ _).setCell (p := ⟨b, 6, none⟩) (Nat.le_refl _) (Nat.lt_succ_self _) _
  have hS5 : Src W5 g B A n xs (m + 4 + 4 + 2 + 2) := hs5.far hwi5 (by omega)
  have hwt5 : Within g (g + 1) w W5 := by rw [hW5]; exact (hwt4.trans hw5).fresh (p := ⟨b, 6, none⟩) hwb0 _
  have hB5' : Blk W5 w.heap.size 40 #[.string ⟨#[]⟩, .int .i64 0, .int .i64 0, .int .i64 0, .int .i64 0, .int .i64 0, .int .i64 0, .int .i64 0, .slice none 0 0] := (hwi5.block w.heap.size (by omega) (by omega)).trans hB5
  have hz5' : W5.heap.size = w5.heap.size := by rw [hW5]; simp
  go_wp2_with fail
  rw [← hW5]
  clear hW5 c6 f6
  refine (pick_any g B A n xs (m + 4 + 4 + 2 + 2) (by omega) hn 5000 (by omega) (by omega) W5 hS5).mono ?_
  rintro e w6 ⟨dl, rfl, hdl0, hdl1, hs6, hw6⟩
  have hP6 := hP5'.after hw6 hgb
  have hB6 := hB5'.after hw6 (by omega)
  have hz6 := hw6.size
  have c7 : w6.cell? ⟨b, 7, none⟩ = some (.int .i64 0) := hP6.cell 7
  have f7 := hP6.frozen 7
  obtain ⟨W6, hW6⟩ : ∃ W6 : World, W6 = w6.setCell ⟨b, 7, none⟩ (.int .i64 (100 + dl)) := ⟨_, rfl⟩
  have hP6' : Blk W6 b 40 #[.string name, .int .i64 (100 + wt), .int .i64 fx, .int .i64 fy, .int .i64 tx, .int .i64 ty, .int .i64 hh, .int .i64 (100 + dl), .slice none 0 0] := by rw [hW6]; exact hP6.set_lit (i := 7) (u := .int .i64 (100 + dl)) rfl
  have hwi6 : Within b (b + 1) w6 W6 := by rw [hW6]; exact (Within.refl _ _ _).setCell (p := ⟨b, 7, none⟩) (Nat.le_refl _) (Nat.lt_succ_self _) _
  have hS6 : Src W6 g B A n xs (m + 4 + 4 + 2 + 2 + 2) := hs6.far hwi6 (by omega)
  have hwt6 : Within g (g + 1) w W6 := by rw [hW6]; exact (hwt5.trans hw6).fresh (p := ⟨b, 7, none⟩) hwb0 _
  have hB6' : Blk W6 w.heap.size 40 #[.string ⟨#[]⟩, .int .i64 0, .int .i64 0, .int .i64 0, .int .i64 0, .int .i64 0, .int .i64 0, .int .i64 0, .slice none 0 0] := (hwi6.block w.heap.size (by omega) (by omega)).trans hB6
  have hz6' : W6.heap.size = w6.heap.size := by rw [hW6]; simp
  have hbW : b < W6.heap.size := hP6'.lt
  go_wp2_with fail
  rw [← hW6]
  obtain ⟨wt2, hwt2'⟩ : ∃ q, 100 + wt = q := ⟨_, rfl⟩
  obtain ⟨dl2, hdl2'⟩ : ∃ q, 100 + dl = q := ⟨_, rfl⟩
  rw [hwt2', hdl2'] at hP6'
  have HP6 := Lib.hid hP6'
  have HB6 := Lib.hid hB6'
  have HS6 := Lib.hid hS6
  have HW6 := Lib.hid hwt6
  have hwb2 : 100 ≤ wt2 ∧ wt2 ≤ 3099 := by omega
  have hdb2 : 100 ≤ dl2 ∧ dl2 ≤ 5099 := by omega
  clear hwt2' hdl2' hwt0 hwt1 hdl0 hdl1
  clear hW6 c7 f7 hP6' hB6' hS6 hwt6 hwt5 hwt4 hwt3 hwt2 hB5' hB4' hB3' hP5' hP4' hP3' hP hB hwi3 hwi4 hwi5 hwi6 hs3 hs4 hs5 hs6 hS3 hS4 hS5 hw3 hw4 hw5 hw6 hP3 hP4 hP5 hP6 hB3 hB4 hB5 hB6 hB2 hb2 hB1 hw1 hs1 hwb hb h
  go_loopw [8] (fun jv wr => ∃ (j : Nat) (v : Value) (out : List Int), j ≤ i ∧ jv = .int .i64 j ∧ Blk wr b 40 #[.string name, .int .i64 wt2, .int .i64 fx, .int .i64 fy, .int .i64 tx, .int .i64 ty, .int .i64 hh, .int .i64 dl2, v] ∧ Blk wr w.heap.size 40 #[.string ⟨#[]⟩, .int .i64 0, .int .i64 0, .int .i64 0, .int .i64 0, .int .i64 0, .int .i64 0, .int .i64 0, .slice none 0 0] ∧ Grow ic 1 wr W6.heap.size 2 v out ∧ risesB out (j : Int) = true ∧ out.length ≤ j ∧ Src wr g B A n xs (m + 14 + 2 * j) ∧ Within g (g + 1) w wr ∧ W6.heap.size ≤ wr.heap.size) (fun jv _ => i - (intOf jv).toNat)
  case atStart => exact ⟨0, _, [], Nat.zero_le _, rfl, HP6.out, HB6.out, Grow.nil _ _ _, rfl, Nat.le_refl _, HS6.out.more (by omega), HW6.out, Nat.le_refl _⟩
  case round =>
    obtain ⟨j, v, out, hj, rfl, hPb, hBb, hgr, hri, hol, hsr, hwr, hzr⟩ := hrel
    have HGR := Lib.hid hgr
    have HRI := Lib.hid hri
    have HPB := Lib.hid hPb
    have HBB := Lib.hid hBb
    have HWR := Lib.hid hwr
    clear HP6 HB6 HS6 HW6
    by_cases hlt : j < i
    · have hb9 := hPb.lt
      have c8 : wr.cell? ⟨b, 8, none⟩ = some v := hPb.cell 8
      have hj1 : (j : Int) < (i : Int) := by omega
      have hj0 : (0 : Int) ≤ (j : Int) := by omega
      clear hgr hri hPb hBb hwr
      go_wp2_with fail
      refine (one_any g B A n xs (m + 14 + 2 * j) (by omega) hn 4 (by omega) (by omega) wr hsr).mono ?_
      rintro e w7 ⟨r, rfl, hs7, hw7⟩
      have hz7 := hw7.size
      have hg7 : Grow ic 1 w7 W6.heap.size 2 v out := Grow.far2 HGR.out hw7 (by omega)
      have hP7 := HPB.out.after hw7 hgb
      have hB7 := HBB.out.after hw7 (by omega)
      have c87 : w7.cell? ⟨b, 8, none⟩ = some v := hP7.cell 8
      have f87 := hP7.frozen 8
      have HG7 := Lib.hid hg7
      have HP7 := Lib.hid hP7
      have HB7 := Lib.hid hB7
      have HS7 := Lib.hid hs7
      have HW7 := Lib.hid (HWR.out.trans hw7)
      clear hg7 hP7 hB7 hs7 hw7 c8
      cases r
      · go_wp2
        go_roundw
        case rel => exact ⟨j + 1, v, out, by omega, by go_num, HP7.out, HB7.out, HG7.out, rises_up HRI.out (by omega), by omega, HS7.out.more (by omega), HW7.out, by omega⟩
        case measure => simp [intOf]; omega
      · have hag : Below w7.heap.size w7 (w7.alloc (.cells #[.int .i64 (j : Int)] 2)) := (Below.refl _ _).alloc (Nat.le_refl _) _
        obtain ⟨W8, hW8⟩ : ∃ W8 : World, W8 = w7.alloc (.cells #[.int .i64 (j : Int)] 2) := ⟨_, rfl⟩
        have hb8 : Below w7.heap.size w7 W8 := by rw [hW8]; exact hag
        have HG8 := Lib.hid (HG7.out.bel hb8)
        have hz8 := hb8.size
        have HW8 := Lib.hid hW8
        have HP8 := Lib.hid (HP7.out.bel hb8)
        have HB8 := Lib.hid (HB7.out.bel hb8)
        have HS8 := Lib.hid (HS7.out.bel hb8)
        have HT8 := Lib.hid (HW7.out.trans (.of_below g (g + 1) hb8))
        clear hag hb8 hW8
        go_wp2_with (at_builtin; rw [← HW8.out]; refine wpList_snoc _ rfl _ _ 33 rfl W6.heap.size 2 (.int .i64 0) 8 Try.underlying33 infoInt rfl (by omega) v out (j : Int) rfl HG8.out _ _ rfl (by rw [HW8.out]; exact heap_alloc_new _ _) rfl rfl (ic_one _) (by omega) (by omega) (by omega) ?_; intro v9 w9 hg9 hgr9; obtain ⟨A9, n9, c9, hv9⟩ := hg9.sl; subst hv9; have hP9 : Blk w9 b 40 #[.string name, .int .i64 wt2, .int .i64 fx, .int .i64 fy, .int .i64 tx, .int .i64 ty, .int .i64 hh, .int .i64 dl2, v] := (hgr9.block b (by omega) (fun e9 => by have := HG8.out.lt b e9.symm; omega)).trans HP8.out; have c89 : w9.cell? ⟨b, 8, none⟩ = some v := hP9.cell 8; have f89 := hP9.frozen 8)
        have hz9 := hgr9.size
        have HP9 : Hid (Blk (w9.setCell ⟨b, 8, none⟩ (.slice A9 n9 c9)) b 40 #[.string name, .int .i64 wt2, .int .i64 fx, .int .i64 fy, .int .i64 tx, .int .i64 ty, .int .i64 hh, .int .i64 dl2, (.slice A9 n9 c9)]) := hP9.set_lit (i := 8) rfl
        have hB9 : Blk w9 w.heap.size 40 #[.string ⟨#[]⟩, .int .i64 0, .int .i64 0, .int .i64 0, .int .i64 0, .int .i64 0, .int .i64 0, .int .i64 0, .slice none 0 0] := (hgr9.block w.heap.size (by omega) (fun e9 => by have := HG8.out.lt _ e9.symm; omega)).trans HB8.out
        have hwi9 : Within b (b + 1) w9 (w9.setCell ⟨b, 8, none⟩ (.slice A9 n9 c9)) := (Within.refl _ _ _).setCell (p := ⟨b, 8, none⟩) (Nat.le_refl _) (Nat.lt_succ_self _) _
        have HB9 := Lib.hid ((hwi9.block w.heap.size (by omega) (by omega)).trans hB9)
        have HG9 := Lib.hid (hg9.setOther (p := ⟨b, 8, none⟩) (by show b < _; omega) (.slice A9 n9 c9))
        have hown : ∀ q, v.ownBlock = some q → W6.heap.size ≤ q := fun q e9 => (HG8.out.lt q e9).1
        have HS9 := Lib.hid ((HS8.out.grown hgr9 (fun q e9 => by have := hown q e9; omega)).far hwi9 (by omega))
        have hwt9 : Within g (g + 1) w w9 := ⟨hgr9.os.trans HT8.out.os, hgr9.tape.trans HT8.out.tape, hgr9.output.trans HT8.out.output, by have := HT8.out.size; omega, fun q hq ho => (hgr9.block q (by omega) (fun e9 => by have := hown q e9.symm; omega)).trans (HT8.out.block q hq ho)⟩
        have HT9 := Lib.hid (hwt9.fresh (p := ⟨b, 8, none⟩) hwb0 (.slice A9 n9 c9))
        have hz10 : (w9.setCell ⟨b, 8, none⟩ (.slice A9 n9 c9)).heap.size = w9.heap.size := by simp
        clear hg9 hgr9 hP9 hB9 hwi9 hwt9 hown c89 f89 c87 f87
        go_wp2
        go_roundw
        case rel => exact ⟨j + 1, (.slice A9 n9 c9), _, by omega, by go_num, HP9.out, HB9.out, HG9.out, rises_snoc HRI.out hj0, by simp; omega, HS9.out.more (by omega), HT9.out, by omega⟩
        case measure => simp [intOf]; omega
    · obtain rfl : j = i := by omega
      obtain ⟨e0, e1, e2, e3, e4, e5, e6, e7, e8⟩ := Lift.blk hPb
      obtain ⟨z0, z1, z2, z3, z4, z5, z6, z7, z8⟩ := Lift.blk hBb
      obtain ⟨y0, y1, y2, y3, y4, y5, y6, y7, y8⟩ := Lift.fro hBb
      obtain ⟨A', cap, rfl, hhd, hown⟩ := Headed.ofGrow HGR.out
      have HHD := Lib.hid hhd
      have HOWN := Lib.hid hown
      have HSR := Lib.hid hsr
      clear hgr hri hPb hBb hwr hhd hown hsr
      go_wp2
      rw [putL_eq]
      have hself := putL_self wr w.heap.size (.string name) (.int .i64 wt2) (.int .i64 fx) (.int .i64 fy) (.int .i64 tx) (.int .i64 ty) (.int .i64 hh) (.int .i64 dl2) (.slice A' out.length cap)
      refine lift_end g B A n xs (m + 30) j name w ⟨⟨name, wt2, fx, fy, tx, ty, hh, dl2⟩, ⟨A', out.length, cap, out⟩⟩ _ _ rfl rfl (putL_blk HBB.out _ _ _ _ _ _ _ _ _) ?_ ((HSR.out.far hself (by omega)).more (by omega)) (putL_within HWR.out (Nat.le_refl _) _ _ _ _ _ _ _ _ _)
      exact ⟨rfl, ⟨hfx0, hfx1, hfy0, hfy1, htx0, htx1, hty0, hty1⟩, ⟨hwb2.1, hwb2.2, hh0, by show hh ≤ 299; omega, hdb2.1, hdb2.2⟩, HRI.out, HHD.out, hol, (HOWN.out.within hself (.inr (by omega))).wide (by omega) hself.size, (HGR.out.far2 hself (by omega)).less (by omega)⟩
end Go.Proofs.Ytnidnmbicnhflaa
/- XDrawLifts: The reference's drawn lifts: at most six valid ones, with names of their own. -/
namespace Go.Proofs.Ytnidnmbicnhflaa
open Go.RowKit
set_option linter.unusedVariables false

def nmCells : Array Value := #[.string ⟨#[97]⟩, .string ⟨#[98]⟩, .string ⟨#[99]⟩, .string ⟨#[100]⟩, .string ⟨#[101]⟩, .string ⟨#[102]⟩, .string ⟨#[103]⟩, .string ⟨#[104]⟩, .string ⟨#[105]⟩, .string ⟨#[106]⟩, .string ⟨#[107]⟩]
theorem l08Names_any (w : World) :
    Calls Try.prog 53 #[] w fun e w' => e = .returned (.slice (some ⟨w.heap.size, 0, none⟩) 11 11) ∧ w' = w.alloc (.cells nmCells 9) := by
  go_enter Try.func53, Try.ntmps53
  go_wp2
  go_ret
  exact ⟨rfl, rfl⟩
theorem nm_at {w : World} {q : Nat} (h : Blk w q 9 nmCells) : ∀ i, i < 11 → ∃ s, ns[i]? = some s ∧ w.cell? ⟨q, i, none⟩ = some (.string s) := by
  intro i hi
  rw [h.cell]
  match i, hi with
  | 0, _ => exact ⟨_, rfl, rfl⟩
  | 1, _ => exact ⟨_, rfl, rfl⟩
  | 2, _ => exact ⟨_, rfl, rfl⟩
  | 3, _ => exact ⟨_, rfl, rfl⟩
  | 4, _ => exact ⟨_, rfl, rfl⟩
  | 5, _ => exact ⟨_, rfl, rfl⟩
  | 6, _ => exact ⟨_, rfl, rfl⟩
  | 7, _ => exact ⟨_, rfl, rfl⟩
  | 8, _ => exact ⟨_, rfl, rfl⟩
  | 9, _ => exact ⟨_, rfl, rfl⟩
  | 10, _ => exact ⟨_, rfl, rfl⟩
theorem Blk.kept {β : Type} {d : β → List Value} {j : Nat} {w w' : World} {base : Nat} {t e : TypeId} {g : Nat} {cs : Array Value} {v : Value} {ys : List β} (h : Blk w g t cs) (ht : t ≠ e) (hg : Grow d j w base e v ys) (hgr : w.grownBy w' v.ownBlock) : Blk w' g t cs := by
  refine (hgr.block g (heap_lt h) ?_).trans h
  rcases hg.2 with ⟨rfl, _⟩ | ⟨g', cap, cur, rfl, _, hgb, _⟩
  · simp [Value.ownBlock]
  · intro e'
    obtain rfl : g = g' := by simpa [Value.ownBlock] using e'
    have := Eq.symm h |>.trans hgb
    simp at this
    exact ht this.2
theorem Grow.within {α : Type} {c : α → List Value} {k : Nat} {a w w' : World} {l r lo : Nat} {e : TypeId} {v : Value} {xs : List α} (h : Grow c k w lo e v xs) (hb : Within l r a w) (hg : w.grownBy w' v.ownBlock) (hB : a.heap.size ≤ lo) : Within l r a w' :=
  ⟨hg.os.trans hb.os, hg.tape.trans hb.tape, hg.output.trans hb.output, Nat.le_trans hb.size hg.size, fun q hq ho => (hg.block q (by have := hb.size; omega) (fun e9 => by have := h.lt q e9.symm; omega)).trans (hb.block q hq ho)⟩
theorem Grow.slice {α : Type} {c : α → List Value} {k : Nat} {w : World} {lo : Nat} {e : TypeId} {v : Value} {xs : List α} (h : Grow c k w lo e v xs) : ∃ A cap, v = .slice A xs.length cap ∧ xs.length ≤ cap ∧ cap ≤ 9223372036854775807 := by
  rcases h.2 with ⟨rfl, h0⟩ | ⟨g, cap, cs, rfl, h1, h2, h3, h4, h5, h6⟩
  · exact ⟨none, 0, by rw [h0], by omega, by omega⟩
  · exact ⟨_, cap, rfl, h3, by unfold maxLen at h4; omega⟩
/-- a lift that has been drawn, its row in memory from W0 on -/
structure DrawnIn (w : World) (W0 : Nat) (q : Lift) : Prop where
  row : Own ic 1 w W0 w.heap.size 2 q.r.a q.r.n q.r.xs
  head : Headed q.r
  len : q.r.n ≤ 6
  wf : q.wf
theorem Drawn.wf {w w' : World} {i : Nat} {name : ByteArray} {p : Lift} (h : Drawn w w' i name p) (hn : name.size ≤ 1) (hi : i ≤ 6) : p.wf := by
  obtain ⟨h1, h2, h3, h4, h5, h6, h7⟩ := h
  exact ⟨⟨by rw [h1]; omega, by omega, by omega, by omega, by omega, by omega, by omega, by omega⟩, by omega, trivial⟩
theorem Drawn.good {w w' : World} {i : Nat} {name : ByteArray} {p : Lift} (h : Drawn w w' i name p) (hn : ns[i]? = some name) : GoodV i p.val := by
  obtain ⟨h1, h2, h3, h4, h5, h6, h7⟩ := h
  have hok : nmOk p.v.name = true := by rw [h1]; exact ns_ok _ (List.mem_of_getElem? hn)
  refine ⟨?_, h4, by show _ = some p.v.name; rw [h1]; exact hn⟩
  show plainB p.v = true
  unfold plainB plcB
  rw [hok, inB_true.2 (show 1 ≤ p.v.weight ∧ p.v.weight ≤ 50000 by omega), inB_true.2 (show -10000 ≤ p.v.fx ∧ p.v.fx ≤ 10000 by omega), inB_true.2 (show -10000 ≤ p.v.fy ∧ p.v.fy ≤ 10000 by omega), inB_true.2 (show -10000 ≤ p.v.tx ∧ p.v.tx ≤ 10000 by omega), inB_true.2 (show -10000 ≤ p.v.ty ∧ p.v.ty ≤ 10000 by omega), inB_true.2 (show 0 ≤ p.v.height ∧ p.v.height ≤ 2000 by omega), inB_true.2 (show 1 ≤ p.v.deadline ∧ p.v.deadline ≤ 1000000 by omega)]
  rfl
/-- lifts that have been drawn: a slice value, its lifts in memory from W0 on -/
def DrawnAll (w : World) (W0 : Nat) (e : Ending) (w' : World) : Prop :=
  ∃ v ps, e = .returned v ∧ Grow Lift.cs 9 w' W0 40 v ps ∧ Good (ps.map Lift.val) ∧ ps.length ≤ 6 ∧ ∀ q ∈ ps, DrawnIn w' W0 q
/-- what A2Lifts hands back -/
def LiftsA2 (w : World) (e : Ending) (w' : World) : Prop :=
  ∃ A c ps, e = .returned (.slice A ps.length c) ∧ Good (ps.map Lift.val) ∧ ps.length ≤ 6 ∧ ps.length ≤ c ∧ c ≤ 9223372036854775807 ∧ Lifts w' w.heap.size w'.heap.size A ps.length ps ∧ (∀ p ∈ ps, Headed p.r ∧ p.r.n ≤ 6 ∧ p.wf) ∧ Below w.heap.size w w'
end Go.Proofs.Ytnidnmbicnhflaa
