/- A2Segments of the reference: two valid segments. -/
import Derived.Test.YtdhobglhjdgboaaDoorSrc2
import Derived.Deep.RegionWith
namespace Go.Proofs.YtdhobglhjdgboaaDoor
open Go.RowKit
set_option linter.unusedVariables false

theorem l00From_any (A : Option Addr) (n c : Nat) (w : World) :
    Calls Tryd.prog 93 #[.slice A n c] w fun e w' => e = .returned (.pointer (some ⟨w.heap.size, 0, none⟩)) ∧ w' = w.alloc (.cells #[.slice A n c, .int .i64 0, .int .u64 0] 236) := by
  go_enter Tryd.func93, Tryd.ntmps93
  go_wp2
  go_ret
  exact ⟨rfl, rfl⟩
def TwoSegs (w : World) (e : Ending) (w' : World) : Prop :=
  ∃ s t : Seg, e = .returned (.tuple #[.agg #[.int .i64 s.ax, .int .i64 s.ay, .int .i64 s.bx, .int .i64 s.by_], .agg #[.int .i64 t.ax, .int .i64 t.ay, .int .i64 t.bx, .int .i64 t.by_]]) ∧ s.ok ∧ t.ok ∧ Below w.heap.size w w'
theorem Within.fromNew {lo hi : Nat} {a w : World} (h : Within lo hi a w) (hl : a.heap.size ≤ lo) : Below a.heap.size a w :=
  ⟨h.os, h.tape, h.output, h.size, fun k hk => h.block k hk (by omega)⟩
section
variable {V w : World} {b b2 B : Nat} {cs : Array Value}
def putSeg (V : World) (b : Nat) (s : Seg) : World := (((V.setCell ⟨b, 0, none⟩ (.int .i64 s.ax)).setCell ⟨b, 1, none⟩ (.int .i64 s.ay)).setCell ⟨b, 2, none⟩ (.int .i64 s.bx)).setCell ⟨b, 3, none⟩ (.int .i64 s.by_)
theorem seg_put (h : Blk V b 72 #[.int .i64 0, .int .i64 0, .int .i64 0, .int .i64 0]) (s : Seg) : Blk (putSeg V b s) b 72 #[.int .i64 s.ax, .int .i64 s.ay, .int .i64 s.bx, .int .i64 s.by_] :=
  (((h.set_ 0 (.int .i64 s.ax)).set_ 1 (.int .i64 s.ay)).set_ 2 (.int .i64 s.bx)).set_lit (i := 3) (u := .int .i64 s.by_) rfl
theorem seg_far (h : Blk V b 72 cs) (hne : b ≠ b2) (s : Seg) : Blk (putSeg V b2 s) b 72 cs :=
  (((h.far (p := ⟨b2, 0, none⟩) hne _).far (p := ⟨b2, 1, none⟩) hne _).far (p := ⟨b2, 2, none⟩) hne _).far (p := ⟨b2, 3, none⟩) hne _
theorem seg_bel (h : Below B w V) (hb : B ≤ b) (s : Seg) : Below B w (putSeg V b s) :=
  (((h.setCell (p := ⟨b, 0, none⟩) hb _).setCell (p := ⟨b, 1, none⟩) hb _).setCell (p := ⟨b, 2, none⟩) hb _).setCell (p := ⟨b, 3, none⟩) hb _
theorem putSeg_eq (V : World) (b : Nat) (s : Seg) : (((V.setCell ⟨b, 0, none⟩ (.int .i64 s.ax)).setCell ⟨b, 1, none⟩ (.int .i64 s.ay)).setCell ⟨b, 2, none⟩ (.int .i64 s.bx)).setCell ⟨b, 3, none⟩ (.int .i64 s.by_) = putSeg V b s := rfl
end
set_option maxRecDepth 100000 in
theorem segs_end (w : World) (s t : Seg) (a : Act) (W' : World) (h2 : a.tmps.getD 2 undef = .pointer (some ⟨w.heap.size, 0, none⟩)) (h3 : a.tmps.getD 3 undef = .pointer (some ⟨w.heap.size + 1, 0, none⟩)) (hd : a.defers = [])
    (hB1 : Blk W' w.heap.size 72 #[.int .i64 s.ax, .int .i64 s.ay, .int .i64 s.bx, .int .i64 s.by_]) (hB2 : Blk W' (w.heap.size + 1) 72 #[.int .i64 t.ax, .int .i64 t.ay, .int .i64 t.bx, .int .i64 t.by_])
    (hso : s.ok) (hto : t.ok) (hb : Below w.heap.size w W') : bodyPost Tryd.prog Tryd.f36 (TwoSegs w) Exit.ret a W' := by
  have c0 : W'.cell? ⟨w.heap.size, 0, none⟩ = some (.int .i64 s.ax) := hB1.cell 0
  have c1 : W'.cell? ⟨w.heap.size, 1, none⟩ = some (.int .i64 s.ay) := hB1.cell 1
  have c2 : W'.cell? ⟨w.heap.size, 2, none⟩ = some (.int .i64 s.bx) := hB1.cell 2
  have c3 : W'.cell? ⟨w.heap.size, 3, none⟩ = some (.int .i64 s.by_) := hB1.cell 3
  have e0 : W'.cell? ⟨w.heap.size + 1, 0, none⟩ = some (.int .i64 t.ax) := hB2.cell 0
  have e1 : W'.cell? ⟨w.heap.size + 1, 1, none⟩ = some (.int .i64 t.ay) := hB2.cell 1
  have e2 : W'.cell? ⟨w.heap.size + 1, 2, none⟩ = some (.int .i64 t.bx) := hB2.cell 2
  have e3 : W'.cell? ⟨w.heap.size + 1, 3, none⟩ = some (.int .i64 t.by_) := hB2.cell 3
  obtain ⟨tmps, defers⟩ := a
  dsimp only at h2 h3 hd
  subst hd
  have k2 : tmps[2]?.getD undef = .pointer (some ⟨w.heap.size, 0, none⟩) := by simpa using h2
  have k3 : tmps[3]?.getD undef = .pointer (some ⟨w.heap.size + 1, 0, none⟩) := by simpa using h3
  exact bodyPost_ret (v := .tuple #[.agg #[.int .i64 s.ax, .int .i64 s.ay, .int .i64 s.bx, .int .i64 s.by_], .agg #[.int .i64 t.ax, .int .i64 t.ay, .int .i64 t.bx, .int .i64 t.by_]]) (by simp [results, Tryd.results36, go_sem, k2, k3, c0, c1, c2, c3, e0, e1, e2, e3]) rfl ⟨s, t, rfl, hso, hto, hb⟩
set_option maxRecDepth 100000 in
set_option maxHeartbeats 8000000 in
theorem a2Segments_any (A : Option Addr) (n c : Nat) (xs : List Int) (w : World) (h : Arr bc 1 w 0 w.heap.size A n xs) (hx : ∀ x ∈ xs, 0 ≤ x ∧ x ≤ 255) (hn : n ≤ 1000000) :
    Calls Tryd.prog 36 #[.slice A n c] w (TwoSegs w) := by
  obtain ⟨W, hW⟩ : ∃ W : World, W = (w.alloc (.cells #[.int .i64 0, .int .i64 0, .int .i64 0, .int .i64 0] 72)).alloc (.cells #[.int .i64 0, .int .i64 0, .int .i64 0, .int .i64 0] 72) := ⟨_, rfl⟩
  have hbW : Below w.heap.size w W := by rw [hW]; exact ((Below.refl _ _).alloc (Nat.le_refl _) _).alloc (by simp) _
  have hB1 : Blk W w.heap.size 72 #[.int .i64 0, .int .i64 0, .int .i64 0, .int .i64 0] := by rw [hW]; exact (Blk.new _ _ _).alloc _
  have hB2 : Blk W (w.heap.size + 1) 72 #[.int .i64 0, .int .i64 0, .int .i64 0, .int .i64 0] := by rw [hW]; have := Blk.new (w.alloc (.cells #[.int .i64 0, .int .i64 0, .int .i64 0, .int .i64 0] 72)) 72 #[.int .i64 0, .int .i64 0, .int .i64 0, .int .i64 0]; simpa using this
  have hsW : W.heap.size = w.heap.size + 2 := by rw [hW]; simp
  go_enter Tryd.func36, Tryd.ntmps36
  go_wp2_with fail
  rw [← hW]
  clear hW
  refine (l00From_any A n c W).mono ?_
  rintro e w1 ⟨rfl, hw1⟩
  have hb1 : Below W.heap.size W w1 := by rw [hw1]; exact (Below.refl _ _).alloc (Nat.le_refl _) _
  have hS : Src w1 W.heap.size w.heap.size A n xs 0 := ⟨c, 0, 0, Nat.le_refl _, by omega, by omega, by rw [hw1]; exact Blk.new _ _ _, (h.below hbW).below (hb1.mono (by omega)), hx, by omega⟩
  have hB11 := hB1.bel hb1
  have hB21 := hB2.bel hb1
  have hs1 := hS.lt
  clear hw1
  obtain ⟨g, hg⟩ : ∃ g, W.heap.size = g := ⟨_, rfl⟩
  rw [hg] at hS hs1 ⊢
  go_wp2_with fail
  refine (l14Draw_any g w.heap.size A n xs 0 (by omega) hn w1 hS).mono ?_
  rintro e w2 ⟨s, rfl, hso, hS2, hw2⟩
  have hB12 := hB11.after hw2 (by omega)
  have hB22 := hB21.after hw2 (by omega)
  have hs2 := hw2.size
  obtain ⟨W3, hW3⟩ : ∃ W3 : World, W3 = w2.alloc (.cells #[.int .i64 s.ax, .int .i64 s.ay, .int .i64 s.bx, .int .i64 s.by_] 72) := ⟨_, rfl⟩
  have hb3 : Below w2.heap.size w2 W3 := by rw [hW3]; exact (Below.refl _ _).alloc (Nat.le_refl _) _
  have hP : Blk W3 w2.heap.size 72 #[.int .i64 s.ax, .int .i64 s.ay, .int .i64 s.bx, .int .i64 s.by_] := by rw [hW3]; exact Blk.new _ _ _
  have hs3 := hP.lt
  have hb3d := hb3.drew
  have hS3 : Src W3.drew g w.heap.size A n xs (0 + 14) := hS2.bel hb3d
  have hB1d : Blk W3.drew w.heap.size 72 #[.int .i64 0, .int .i64 0, .int .i64 0, .int .i64 0] := hB12.bel hb3d
  have hB2d : Blk W3.drew (w.heap.size + 1) 72 #[.int .i64 0, .int .i64 0, .int .i64 0, .int .i64 0] := hB22.bel hb3d
  have hPd : Blk W3.drew w2.heap.size 72 #[.int .i64 s.ax, .int .i64 s.ay, .int .i64 s.bx, .int .i64 s.by_] := hP
  have d0 : W3.drew.cell? ⟨w2.heap.size, 0, none⟩ = some (.int .i64 s.ax) := hPd.cell 0
  have d1 : W3.drew.cell? ⟨w2.heap.size, 1, none⟩ = some (.int .i64 s.ay) := hPd.cell 1
  have d2 : W3.drew.cell? ⟨w2.heap.size, 2, none⟩ = some (.int .i64 s.bx) := hPd.cell 2
  have d3 : W3.drew.cell? ⟨w2.heap.size, 3, none⟩ = some (.int .i64 s.by_) := hPd.cell 3
  have hwt : Below w.heap.size w W3.drew := ((Below.within (hbW.trans (hb1.mono (by omega))) hw2 (by omega) (by omega)).trans (hb3.mono (by omega))).drew
  have hne1 : w.heap.size ≠ w2.heap.size := by omega
  have hne2 : w.heap.size + 1 ≠ w2.heap.size := by omega
  have hne3 : w2.heap.size ≠ w.heap.size := by omega
  have hne4 : w2.heap.size ≠ w.heap.size + 1 := by omega
  go_wp2_with fail
  rw [← hW3]
  clear hW3
  have hg1 : g ≠ w.heap.size := by omega
  have hg2 : g ≠ w.heap.size + 1 := by omega
  have hg3 : g ≠ w2.heap.size := by omega
  have hgl : w.heap.size < g := by omega
  have hgl2 : w.heap.size + 1 < g := by omega
  have HS3 := Lib.hid hS3
  have HB1 := Lib.hid hB1d
  have HB2 := Lib.hid hB2d
  have HPD := Lib.hid hPd
  have HWT := Lib.hid hwt
  have HSO := Lib.hid hso
  have hlt : w.heap.size ≤ W3.drew.heap.size := by have := hwt.size; exact this
  clear hS3 hB1d hB2d hPd hwt hb3d hP hb3 hs3 hB12 hB22 hs2 hS2 hw2 hso hB11 hB21 hs1 hS hg hb1 hB1 hB2 hbW hsW h hx
  go_region_with ((first | (go_at_call 105; refine (l14Draw_any g w.heap.size A n xs (0 + 14) (by omega) hn W3.drew HS3.out).mono ?_; rintro e w4 ⟨t, rfl, hto, hS4, hw4⟩; have HTO := Lib.hid hto; have HW4 := Lib.hid hw4; have HB14 := Lib.hid (HB1.out.after hw4 hg1); have HB24 := Lib.hid (HB2.out.after hw4 hg2); have hP4 := HPD.out.after hw4 hg3; have d04 : w4.cell? ⟨w2.heap.size, 0, none⟩ = some (.int .i64 s.ax) := hP4.cell 0; have d14 : w4.cell? ⟨w2.heap.size, 1, none⟩ = some (.int .i64 s.ay) := hP4.cell 1; have d24 : w4.cell? ⟨w2.heap.size, 2, none⟩ = some (.int .i64 s.bx) := hP4.cell 2; have d34 : w4.cell? ⟨w2.heap.size, 3, none⟩ = some (.int .i64 s.by_) := hP4.cell 3; have c0 : w4.cell? ⟨w.heap.size, 0, none⟩ = some (.int .i64 0) := HB14.out.cell 0; have c1 : w4.cell? ⟨w.heap.size, 1, none⟩ = some (.int .i64 0) := HB14.out.cell 1; have c2 : w4.cell? ⟨w.heap.size, 2, none⟩ = some (.int .i64 0) := HB14.out.cell 2; have c3 : w4.cell? ⟨w.heap.size, 3, none⟩ = some (.int .i64 0) := HB14.out.cell 3; have f0 := HB14.out.frozen 0; have f1 := HB14.out.frozen 1; have f2 := HB14.out.frozen 2; have f3 := HB14.out.frozen 3; have e0 : w4.cell? ⟨w.heap.size + 1, 0, none⟩ = some (.int .i64 0) := HB24.out.cell 0; have e1 : w4.cell? ⟨w.heap.size + 1, 1, none⟩ = some (.int .i64 0) := HB24.out.cell 1; have e2 : w4.cell? ⟨w.heap.size + 1, 2, none⟩ = some (.int .i64 0) := HB24.out.cell 2; have e3 : w4.cell? ⟨w.heap.size + 1, 3, none⟩ = some (.int .i64 0) := HB24.out.cell 3; have p0 := HB24.out.frozen 0; have p1 := HB24.out.frozen 1; have p2 := HB24.out.frozen 2; have p3 := HB24.out.frozen 3; clear hto hS4 hw4 hP4)))
  all_goals go_wp2
  all_goals rw [putSeg_eq, putSeg_eq]
  all_goals refine segs_end w s t _ _ rfl rfl rfl ?_ ?_ HSO.out HTO.out ?_
  all_goals first
    | with_reducible exact seg_far (seg_put HB14.out s) (Nat.ne_of_lt (Nat.lt_succ_self _)) t
    | with_reducible exact seg_put (seg_far HB14.out (Nat.ne_of_lt (Nat.lt_succ_self _)) t) s
    | with_reducible exact seg_far (seg_put HB24.out t) (Nat.ne_of_gt (Nat.lt_succ_self _)) s
    | with_reducible exact seg_put (seg_far HB24.out (Nat.ne_of_gt (Nat.lt_succ_self _)) s) t
    | with_reducible exact seg_bel (seg_bel (Below.within HWT.out HW4.out (Nat.le_of_lt hgl) hlt) (Nat.le_refl _) s) (Nat.le_succ _) t
    | with_reducible exact seg_bel (seg_bel (Below.within HWT.out HW4.out (Nat.le_of_lt hgl) hlt) (Nat.le_succ _) t) (Nat.le_refl _) s
end Go.Proofs.YtdhobglhjdgboaaDoor
