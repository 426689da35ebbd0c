/- Made by merge.py of XSegs, XDrawOne, XDrawLifts. -/
import Derived.Test.YtkegncanmfmmmaaDoorSrc2
import Derived.Deep.RegionWith
import Derived.Test.YtkegncanmfmmmaaDoorSpecAddLift
import Derived.Test.YtkegncanmfmmmaaDoorDrawnLaw
/- XSegs: A2Segments of the reference: two valid segments. -/
namespace Go.Proofs.YtkegncanmfmmmaaDoor
open Go.RowKit
set_option linter.unusedVariables false

theorem l00From_any (A : Option Addr) (n c : Nat) (w : World) :
    Calls Tryd.prog 31 #[.slice A n c] w fun e w' => e = .returned (.pointer (some ⟨w.heap.size, 0, none⟩)) ∧ w' = w.alloc (.cells #[.slice A n c, .int .i64 0, .int .u64 0] 114) := by
  go_enter Tryd.func31, Tryd.ntmps31
  go_wp2
  go_ret
  exact ⟨rfl, rfl⟩
def TwoSegs (w : World) (e : Ending) (w' : World) : Prop :=
  ∃ s t : Seg, e = .returned (.tuple #[.agg #[.int .i64 s.ax, .int .i64 s.ay, .int .i64 s.bx, .int .i64 s.by_], .agg #[.int .i64 t.ax, .int .i64 t.ay, .int .i64 t.bx, .int .i64 t.by_]]) ∧ s.ok ∧ t.ok ∧ Below w.heap.size w w'
theorem Within.fromNew {lo hi : Nat} {a w : World} (h : Within lo hi a w) (hl : a.heap.size ≤ lo) : Below a.heap.size a w :=
  ⟨h.os, h.tape, h.output, h.size, fun k hk => h.block k hk (by omega)⟩
section
variable {V w : World} {b b2 B : Nat} {cs : Array Value}
def putSeg (V : World) (b : Nat) (s : Seg) : World := (((V.setCell ⟨b, 0, none⟩ (.int .i64 s.ax)).setCell ⟨b, 1, none⟩ (.int .i64 s.ay)).setCell ⟨b, 2, none⟩ (.int .i64 s.bx)).setCell ⟨b, 3, none⟩ (.int .i64 s.by_)
theorem seg_bel (h : Below B w V) (hb : B ≤ b) (s : Seg) : Below B w (putSeg V b s) :=
  (((h.setCell (p := ⟨b, 0, none⟩) hb _).setCell (p := ⟨b, 1, none⟩) hb _).setCell (p := ⟨b, 2, none⟩) hb _).setCell (p := ⟨b, 3, none⟩) hb _
theorem putSeg_eq (V : World) (b : Nat) (s : Seg) : (((V.setCell ⟨b, 0, none⟩ (.int .i64 s.ax)).setCell ⟨b, 1, none⟩ (.int .i64 s.ay)).setCell ⟨b, 2, none⟩ (.int .i64 s.bx)).setCell ⟨b, 3, none⟩ (.int .i64 s.by_) = putSeg V b s := rfl
end
end Go.Proofs.YtkegncanmfmmmaaDoor
/- XDrawOne: Made by merge.py of XAddLiftH, XDrawOne. -/
/- XAddLiftH: l08Copy and AddLift of the reference once more: rows may be nil. -/
namespace Go.Proofs.YtkegncanmfmmmaaDoor
open Go.RowKit
set_option linter.unusedVariables false

/-- a row has a head, or it is nil -/
def Headed (r : Row Int) : Prop := (∃ a, r.a = some a) ∨ (r.a = none ∧ r.n = 0 ∧ r.cap = 0)
end Go.Proofs.YtkegncanmfmmmaaDoor
/- XDrawOne: l08DrawOne of the reference: a valid lift. -/
namespace Go.Proofs.YtkegncanmfmmmaaDoor
open Go.RowKit
set_option linter.unusedVariables false

/-- a lift that has just been drawn, its row in memory of the call -/
structure Drawn (w w' : World) (i : Nat) (name : ByteArray) (p : Lift) : Prop where
  name : p.v.name = name
  place : -600 ≤ p.v.fx ∧ p.v.fx ≤ 600 ∧ -600 ≤ p.v.fy ∧ p.v.fy ≤ 600 ∧ -600 ≤ p.v.tx ∧ p.v.tx ≤ 600 ∧ -600 ≤ p.v.ty ∧ p.v.ty ≤ 600
  nums : 100 ≤ p.v.weight ∧ p.v.weight ≤ 3099 ∧ 0 ≤ p.v.height ∧ p.v.height ≤ 299 ∧ 100 ≤ p.v.deadline ∧ p.v.deadline ≤ 5099
  rises : risesB p.r.xs (i : Int) = true
  head : Headed p.r
  len : p.r.n ≤ i
  row : Own ic 1 w' w.heap.size w'.heap.size 2 p.r.a p.r.n p.r.xs
  grow : Grow ic 1 w' w.heap.size 2 (.slice p.r.a p.r.n p.r.cap) p.r.xs
theorem Grow.far2 {α : Type} {c : α → List Value} {k : Nat} {w w' : World} {lo : Nat} {e : TypeId} {v : Value} {xs : List α} (h : Grow c k w lo e v xs) {g : Nat} (hw : Within g (g + 1) w w') (hg : g < lo) : Grow c k w' lo e v xs := by
  refine ⟨h.1, ?_⟩
  rcases h.2 with h2 | ⟨b, cap, cur, hv, hb, hh, r⟩
  · exact .inl h2
  · exact .inr ⟨b, cap, cur, hv, hb, by rw [hw.block b (heap_lt hh) (by omega)]; exact hh, r⟩
theorem Src.grown {w w' : World} {g B : Nat} {A : Option Addr} {n : Nat} {xs : List Int} {m : Nat} {row : Option Nat} (h : Src w g B A n xs m) (hg : w.grownBy w' row) (hr : ∀ k, row = some k → g < k) : Src w' g B A n xs m := by
  obtain ⟨c, p, seed, h1, h2, h3, hk, ha, hx, hB⟩ := h
  have := hk.lt
  exact ⟨c, p, seed, h1, h2, h3, (hg.block g this (fun e => by have := hr g e.symm; omega)).trans hk, ha.grown hg (by omega) (fun k hk2 => .inr (by have := hr k hk2; omega)), hx, hB⟩
theorem Grow.sl {α : Type} {c : α → List Value} {k : Nat} {w : World} {lo : Nat} {e : TypeId} {v : Value} {xs : List α} (h : Grow c k w lo e v xs) : ∃ A n cap, v = .slice A n cap := by
  rcases h.2 with ⟨rfl, h0⟩ | ⟨g, cap, cs, rfl, h1⟩
  · exact ⟨_, _, _, rfl⟩
  · exact ⟨_, _, _, rfl⟩
theorem Headed.ofGrow {w : World} {lo : Nat} {v : Value} {xs : List Int} (h : Grow ic 1 w lo 2 v xs) : ∃ A cap, v = .slice A xs.length cap ∧ Headed ⟨A, xs.length, cap, xs⟩ ∧ Own ic 1 w lo w.heap.size 2 A xs.length xs := by
  rcases h.2 with ⟨rfl, h0⟩ | ⟨g, cap, cs, rfl, h1, h2, h3, h4, h5, h6⟩
  · have hx : xs = [] := List.length_eq_zero_iff.1 h0
    subst hx
    exact ⟨none, 0, rfl, .inr ⟨rfl, rfl, rfl⟩, Own.nil _⟩
  · obtain ⟨A, cap2, hv, ho⟩ := Grow.own h ic_len
    injection hv with e1 e2 e3
    subst e1
    exact ⟨_, cap, rfl, .inl ⟨_, rfl⟩, ho⟩
def DrawOne (g B : Nat) (A : Option Addr) (n : Nat) (xs : List Int) (m i : Nat) (name : ByteArray) (w : World) (e : Ending) (w' : World) : Prop :=
  ∃ p : Lift, e = .returned (.agg #[.string p.v.name, .int .i64 p.v.weight, .int .i64 p.v.fx, .int .i64 p.v.fy, .int .i64 p.v.tx, .int .i64 p.v.ty, .int .i64 p.v.height, .int .i64 p.v.deadline, .slice p.r.a p.r.n p.r.cap]) ∧ Drawn w w' i name p ∧ Src w' g B A n xs m ∧ Within g (g + 1) w w'
section
variable {V : World} {b : Nat}
def putL (V : World) (b : Nat) (v0 v1 v2 v3 v4 v5 v6 v7 v8 : Value) : World := ((((((((V.setCell ⟨b, 0, none⟩ v0).setCell ⟨b, 1, none⟩ v1).setCell ⟨b, 2, none⟩ v2).setCell ⟨b, 3, none⟩ v3).setCell ⟨b, 4, none⟩ v4).setCell ⟨b, 5, none⟩ v5).setCell ⟨b, 6, none⟩ v6).setCell ⟨b, 7, none⟩ v7).setCell ⟨b, 8, none⟩ v8
theorem putL_eq (V : World) (b : Nat) (v0 v1 v2 v3 v4 v5 v6 v7 v8 : Value) : ((((((((V.setCell ⟨b, 0, none⟩ v0).setCell ⟨b, 1, none⟩ v1).setCell ⟨b, 2, none⟩ v2).setCell ⟨b, 3, none⟩ v3).setCell ⟨b, 4, none⟩ v4).setCell ⟨b, 5, none⟩ v5).setCell ⟨b, 6, none⟩ v6).setCell ⟨b, 7, none⟩ v7).setCell ⟨b, 8, none⟩ v8 = putL V b v0 v1 v2 v3 v4 v5 v6 v7 v8 := rfl
theorem putL_blk {z0 z1 z2 z3 z4 z5 z6 z7 z8 : Value} (h : Blk V b 41 #[z0, z1, z2, z3, z4, z5, z6, z7, z8]) (v0 v1 v2 v3 v4 v5 v6 v7 v8 : Value) : Blk (putL V b v0 v1 v2 v3 v4 v5 v6 v7 v8) b 41 #[v0, v1, v2, v3, v4, v5, v6, v7, v8] := by
  have h0 : Blk (V.setCell ⟨b, 0, none⟩ v0) b 41 #[v0, z1, z2, z3, z4, z5, z6, z7, z8] := h.set_lit (i := 0) (u := v0) rfl
  have h1 : Blk ((V.setCell ⟨b, 0, none⟩ v0).setCell ⟨b, 1, none⟩ v1) b 41 #[v0, v1, z2, z3, z4, z5, z6, z7, z8] := h0.set_lit (i := 1) (u := v1) rfl
  have h2 : Blk (((V.setCell ⟨b, 0, none⟩ v0).setCell ⟨b, 1, none⟩ v1).setCell ⟨b, 2, none⟩ v2) b 41 #[v0, v1, v2, z3, z4, z5, z6, z7, z8] := h1.set_lit (i := 2) (u := v2) rfl
  have h3 : Blk ((((V.setCell ⟨b, 0, none⟩ v0).setCell ⟨b, 1, none⟩ v1).setCell ⟨b, 2, none⟩ v2).setCell ⟨b, 3, none⟩ v3) b 41 #[v0, v1, v2, v3, z4, z5, z6, z7, z8] := h2.set_lit (i := 3) (u := v3) rfl
  have h4 : Blk (((((V.setCell ⟨b, 0, none⟩ v0).setCell ⟨b, 1, none⟩ v1).setCell ⟨b, 2, none⟩ v2).setCell ⟨b, 3, none⟩ v3).setCell ⟨b, 4, none⟩ v4) b 41 #[v0, v1, v2, v3, v4, z5, z6, z7, z8] := h3.set_lit (i := 4) (u := v4) rfl
  have h5 : Blk ((((((V.setCell ⟨b, 0, none⟩ v0).setCell ⟨b, 1, none⟩ v1).setCell ⟨b, 2, none⟩ v2).setCell ⟨b, 3, none⟩ v3).setCell ⟨b, 4, none⟩ v4).setCell ⟨b, 5, none⟩ v5) b 41 #[v0, v1, v2, v3, v4, v5, z6, z7, z8] := h4.set_lit (i := 5) (u := v5) rfl
  have h6 : Blk (((((((V.setCell ⟨b, 0, none⟩ v0).setCell ⟨b, 1, none⟩ v1).setCell ⟨b, 2, none⟩ v2).setCell ⟨b, 3, none⟩ v3).setCell ⟨b, 4, none⟩ v4).setCell ⟨b, 5, none⟩ v5).setCell ⟨b, 6, none⟩ v6) b 41 #[v0, v1, v2, v3, v4, v5, v6, z7, z8] := h5.set_lit (i := 6) (u := v6) rfl
  have h7 : Blk ((((((((V.setCell ⟨b, 0, none⟩ v0).setCell ⟨b, 1, none⟩ v1).setCell ⟨b, 2, none⟩ v2).setCell ⟨b, 3, none⟩ v3).setCell ⟨b, 4, none⟩ v4).setCell ⟨b, 5, none⟩ v5).setCell ⟨b, 6, none⟩ v6).setCell ⟨b, 7, none⟩ v7) b 41 #[v0, v1, v2, v3, v4, v5, v6, v7, z8] := h6.set_lit (i := 7) (u := v7) rfl
  have h8 : Blk (((((((((V.setCell ⟨b, 0, none⟩ v0).setCell ⟨b, 1, none⟩ v1).setCell ⟨b, 2, none⟩ v2).setCell ⟨b, 3, none⟩ v3).setCell ⟨b, 4, none⟩ v4).setCell ⟨b, 5, none⟩ v5).setCell ⟨b, 6, none⟩ v6).setCell ⟨b, 7, none⟩ v7).setCell ⟨b, 8, none⟩ v8) b 41 #[v0, v1, v2, v3, v4, v5, v6, v7, v8] := h7.set_lit (i := 8) (u := v8) rfl
  exact h8
theorem self_set {W : World} (h : Within b (b + 1) V W) (i : Nat) (u : Value) : Within b (b + 1) V (W.setCell ⟨b, i, none⟩ u) := h.setCell (p := ⟨b, i, none⟩) (Nat.le_refl _) (Nat.lt_succ_self _) u
theorem putL_self (V : World) (b : Nat) (v0 v1 v2 v3 v4 v5 v6 v7 v8 : Value) : Within b (b + 1) V (putL V b v0 v1 v2 v3 v4 v5 v6 v7 v8) := by
  unfold putL
  exact self_set (self_set (self_set (self_set (self_set (self_set (self_set (self_set (self_set (Within.refl b (b + 1) V) 0 v0) 1 v1) 2 v2) 3 v3) 4 v4) 5 v5) 6 v6) 7 v7) 8 v8
theorem fresh_set {lo hi : Nat} {a W : World} (h : Within lo hi a W) (hb : a.heap.size ≤ b) (i : Nat) (u : Value) : Within lo hi a (W.setCell ⟨b, i, none⟩ u) := h.fresh (p := ⟨b, i, none⟩) hb u
theorem putL_within {lo hi : Nat} {a : World} (h : Within lo hi a V) (hb : a.heap.size ≤ b) (v0 v1 v2 v3 v4 v5 v6 v7 v8 : Value) : Within lo hi a (putL V b v0 v1 v2 v3 v4 v5 v6 v7 v8) := by
  unfold putL
  exact fresh_set (fresh_set (fresh_set (fresh_set (fresh_set (fresh_set (fresh_set (fresh_set (fresh_set h hb 0 v0) hb 1 v1) hb 2 v2) hb 3 v3) hb 4 v4) hb 5 v5) hb 6 v6) hb 7 v7) hb 8 v8
end
end Go.Proofs.YtkegncanmfmmmaaDoor
/- XDrawLifts: The reference's drawn lifts: at most six valid ones, with names of their own. -/
namespace Go.Proofs.YtkegncanmfmmmaaDoor
open Go.RowKit
set_option linter.unusedVariables false

def nmCells : Array Value := #[.string ⟨#[97]⟩, .string ⟨#[98]⟩, .string ⟨#[99]⟩, .string ⟨#[100]⟩, .string ⟨#[101]⟩, .string ⟨#[102]⟩, .string ⟨#[103]⟩, .string ⟨#[104]⟩, .string ⟨#[105]⟩, .string ⟨#[106]⟩, .string ⟨#[107]⟩]
theorem nm_at {w : World} {q : Nat} (h : Blk w q 9 nmCells) : ∀ i, i < 11 → ∃ s, ns[i]? = some s ∧ w.cell? ⟨q, i, none⟩ = some (.string s) := by
  intro i hi
  rw [h.cell]
  match i, hi with
  | 0, _ => exact ⟨_, rfl, rfl⟩
  | 1, _ => exact ⟨_, rfl, rfl⟩
  | 2, _ => exact ⟨_, rfl, rfl⟩
  | 3, _ => exact ⟨_, rfl, rfl⟩
  | 4, _ => exact ⟨_, rfl, rfl⟩
  | 5, _ => exact ⟨_, rfl, rfl⟩
  | 6, _ => exact ⟨_, rfl, rfl⟩
  | 7, _ => exact ⟨_, rfl, rfl⟩
  | 8, _ => exact ⟨_, rfl, rfl⟩
  | 9, _ => exact ⟨_, rfl, rfl⟩
  | 10, _ => exact ⟨_, rfl, rfl⟩
theorem Blk.kept {β : Type} {d : β → List Value} {j : Nat} {w w' : World} {base : Nat} {t e : TypeId} {g : Nat} {cs : Array Value} {v : Value} {ys : List β} (h : Blk w g t cs) (ht : t ≠ e) (hg : Grow d j w base e v ys) (hgr : w.grownBy w' v.ownBlock) : Blk w' g t cs := by
  refine (hgr.block g (heap_lt h) ?_).trans h
  rcases hg.2 with ⟨rfl, _⟩ | ⟨g', cap, cur, rfl, _, hgb, _⟩
  · simp [Value.ownBlock]
  · intro e'
    obtain rfl : g = g' := by simpa [Value.ownBlock] using e'
    have := Eq.symm h |>.trans hgb
    simp at this
    exact ht this.2
theorem Grow.within {α : Type} {c : α → List Value} {k : Nat} {a w w' : World} {l r lo : Nat} {e : TypeId} {v : Value} {xs : List α} (h : Grow c k w lo e v xs) (hb : Within l r a w) (hg : w.grownBy w' v.ownBlock) (hB : a.heap.size ≤ lo) : Within l r a w' :=
  ⟨hg.os.trans hb.os, hg.tape.trans hb.tape, hg.output.trans hb.output, Nat.le_trans hb.size hg.size, fun q hq ho => (hg.block q (by have := hb.size; omega) (fun e9 => by have := h.lt q e9.symm; omega)).trans (hb.block q hq ho)⟩
theorem Grow.slice {α : Type} {c : α → List Value} {k : Nat} {w : World} {lo : Nat} {e : TypeId} {v : Value} {xs : List α} (h : Grow c k w lo e v xs) : ∃ A cap, v = .slice A xs.length cap ∧ xs.length ≤ cap ∧ cap ≤ 9223372036854775807 := by
  rcases h.2 with ⟨rfl, h0⟩ | ⟨g, cap, cs, rfl, h1, h2, h3, h4, h5, h6⟩
  · exact ⟨none, 0, by rw [h0], by omega, by omega⟩
  · exact ⟨_, cap, rfl, h3, by unfold maxLen at h4; omega⟩
/-- a lift that has been drawn, its row in memory from W0 on -/
structure DrawnIn (w : World) (W0 : Nat) (q : Lift) : Prop where
  row : Own ic 1 w W0 w.heap.size 2 q.r.a q.r.n q.r.xs
  head : Headed q.r
  len : q.r.n ≤ 6
  wf : q.wf
theorem Drawn.wf {w w' : World} {i : Nat} {name : ByteArray} {p : Lift} (h : Drawn w w' i name p) (hn : name.size ≤ 1) (hi : i ≤ 6) : p.wf := by
  obtain ⟨h1, h2, h3, h4, h5, h6, h7⟩ := h
  exact ⟨⟨by rw [h1]; omega, by omega, by omega, by omega, by omega, by omega, by omega, by omega⟩, by omega, trivial⟩
theorem Drawn.good {w w' : World} {i : Nat} {name : ByteArray} {p : Lift} (h : Drawn w w' i name p) (hn : ns[i]? = some name) : GoodV i p.val := by
  obtain ⟨h1, h2, h3, h4, h5, h6, h7⟩ := h
  have hok : nmOk p.v.name = true := by rw [h1]; exact ns_ok _ (List.mem_of_getElem? hn)
  refine ⟨?_, h4, by show _ = some p.v.name; rw [h1]; exact hn⟩
  show plainB p.v = true
  unfold plainB plcB
  rw [hok, inB_true.2 (show 1 ≤ p.v.weight ∧ p.v.weight ≤ 50000 by omega), inB_true.2 (show -10000 ≤ p.v.fx ∧ p.v.fx ≤ 10000 by omega), inB_true.2 (show -10000 ≤ p.v.fy ∧ p.v.fy ≤ 10000 by omega), inB_true.2 (show -10000 ≤ p.v.tx ∧ p.v.tx ≤ 10000 by omega), inB_true.2 (show -10000 ≤ p.v.ty ∧ p.v.ty ≤ 10000 by omega), inB_true.2 (show 0 ≤ p.v.height ∧ p.v.height ≤ 2000 by omega), inB_true.2 (show 1 ≤ p.v.deadline ∧ p.v.deadline ≤ 1000000 by omega)]
  rfl
/-- lifts that have been drawn: a slice value, its lifts in memory from W0 on -/
def DrawnAll (w : World) (W0 : Nat) (e : Ending) (w' : World) : Prop :=
  ∃ v ps, e = .returned v ∧ Grow Lift.cs 9 w' W0 41 v ps ∧ Good (ps.map Lift.val) ∧ ps.length ≤ 6 ∧ ∀ q ∈ ps, DrawnIn w' W0 q
/-- what A2Lifts hands back -/
def LiftsA2 (w : World) (e : Ending) (w' : World) : Prop :=
  ∃ A c ps, e = .returned (.slice A ps.length c) ∧ Good (ps.map Lift.val) ∧ ps.length ≤ 6 ∧ ps.length ≤ c ∧ c ≤ 9223372036854775807 ∧ Lifts w' w.heap.size w'.heap.size A ps.length ps ∧ (∀ p ∈ ps, Headed p.r ∧ p.r.n ≤ 6 ∧ p.wf) ∧ Below w.heap.size w w'
end Go.Proofs.YtkegncanmfmmmaaDoor
