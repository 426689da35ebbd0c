/- The source of choices: pick, one; places and segments that are drawn: valid ones. -/
import Derived.Test.YtdhobglhjdgboaaDoorSrc
namespace Go.Proofs.YtdhobglhjdgboaaDoor
open Go.RowKit
set_option linter.unusedVariables false

theorem Within.fresh {lo hi : Nat} {a w : World} (h : Within lo hi a w) {p : Addr} (hp : a.heap.size ≤ p.block) (u : Value) : Within lo hi a (w.setCell p u) :=
  ⟨h.os, h.tape, h.output, by have := h.size; simpa using this, fun k hk ho => (Below.heap_setCell _ _ _ _ (by omega)).trans (h.block k hk ho)⟩
theorem Src.set {w : World} {g B : Nat} {A : Option Addr} {n : Nat} {xs : List Int} {m : Nat} (h : Src w g B A n xs m) {p : Addr} (hp : g < p.block) (u : Value) : Src (w.setCell p u) g B A n xs m :=
  h.far ((Within.refl p.block (p.block + 1) w).setCell (Nat.le_refl _) (Nat.lt_succ_self _) u) hp
theorem Blk.after {w w' : World} {g b : Nat} {t : TypeId} {cs : Array Value} (h : Blk w b t cs) (hw : Within g (g + 1) w w') (hne : g ≠ b) : Blk w' b t cs := (hw.block b h.lt (by omega)).trans h
set_option maxHeartbeats 1600000 in
theorem pick_any (g B : Nat) (A : Option Addr) (n : Nat) (xs : List Int) (m : Nat) (hm : m ≤ 999000) (hn : n ≤ 1000000) (k : Int) (hk1 : 1 < k) (hk2 : k ≤ 60000) (w : World) (h : Src w g B A n xs m) :
    Calls Tryd.prog 179 #[.pointer (some ⟨g, 0, none⟩), .int .i64 k] w (Asks g B A n xs (m + 2) 0 (k - 1) w) := by
  by_cases hbig : 200 < k
  · go_enter Tryd.func179, Tryd.ntmps179
    go_wp2_with fail
    refine (next_any g B A n xs m (by omega) hn w h).mono ?_
    rintro e w1 ⟨x, rfl, hx0, hx1, hs1, hw1⟩
    go_wp2_with fail
    refine (next_any g B A n xs (m + 1) (by omega) hn w1 hs1).mono ?_
    rintro e w2 ⟨y, rfl, hy0, hy1, hs2, hw2⟩
    have hz : 0 ≤ x * 256 + y ∧ x * 256 + y ≤ 65535 := by omega
    have hm0 := Int.emod_nonneg (x * 256 + y) (show k ≠ 0 by omega)
    have hm1 := Int.emod_lt_of_pos (x * 256 + y) (show 0 < k by omega)
    have hk0 : ¬ k = 0 := by omega
    have htm : Int.tmod (x * 256 + y) k = (x * 256 + y) % k := Int.tmod_eq_emod_of_nonneg hz.1
    go_wp2
    go_ret
    exact ⟨_, rfl, by omega, by omega, hs2, hw1.trans hw2⟩
  · go_enter Tryd.func179, Tryd.ntmps179
    go_wp2_with fail
    refine (next_any g B A n xs m (by omega) hn w h).mono ?_
    rintro e w1 ⟨x, rfl, hx0, hx1, hs1, hw1⟩
    have hm0 := Int.emod_nonneg x (show k ≠ 0 by omega)
    have hm1 := Int.emod_lt_of_pos x (show 0 < k by omega)
    have hk0 : ¬ k = 0 := by omega
    have htm : Int.tmod x k = x % k := Int.tmod_eq_emod_of_nonneg hx0
    go_wp2
    go_ret
    exact ⟨_, rfl, by omega, by omega, hs1.more (by omega), hw1⟩
/-- a call that asks a source: yes or no -/
def AsksB (g B : Nat) (A : Option Addr) (n : Nat) (xs : List Int) (m : Nat) (w : World) (e : Ending) (w' : World) : Prop :=
  ∃ r : Bool, e = .returned (.bool r) ∧ Src w' g B A n xs m ∧ Within g (g + 1) w w'
set_option maxHeartbeats 1600000 in
theorem one_any (g B : Nat) (A : Option Addr) (n : Nat) (xs : List Int) (m : Nat) (hm : m ≤ 999000) (hn : n ≤ 1000000) (k : Int) (hk1 : 1 < k) (hk2 : k ≤ 60000) (w : World) (h : Src w g B A n xs m) :
    Calls Tryd.prog 191 #[.pointer (some ⟨g, 0, none⟩), .int .i64 k] w (AsksB g B A n xs (m + 2) w) := by
  go_enter Tryd.func191, Tryd.ntmps191
  go_wp2_with fail
  refine (pick_any g B A n xs m hm hn k hk1 hk2 w h).mono ?_
  rintro e w1 ⟨x, rfl, hx0, hx1, hs1, hw1⟩
  go_wp2
  go_ret
  exact ⟨_, rfl, hs1, hw1⟩
/-- a call that asks a source: a place in a square -/
def AsksP (g B : Nat) (A : Option Addr) (n : Nat) (xs : List Int) (m : Nat) (w : World) (e : Ending) (w' : World) : Prop :=
  ∃ x y : Int, e = .returned (.agg #[.int .i64 x, .int .i64 y]) ∧ -600 ≤ x ∧ x ≤ 600 ∧ -600 ≤ y ∧ y ≤ 600 ∧ Src w' g B A n xs m ∧ Within g (g + 1) w w'
set_option maxHeartbeats 1600000 in
theorem l02Draw_any (g B : Nat) (A : Option Addr) (n : Nat) (xs : List Int) (m : Nat) (hm : m ≤ 900000) (hn : n ≤ 1000000) (w : World) (h : Src w g B A n xs m) :
    Calls Tryd.prog 94 #[.pointer (some ⟨g, 0, none⟩)] w (AsksP g B A n xs (m + 4) w) := by
  have hg := h.lt
  obtain ⟨W, hW⟩ : ∃ W : World, W = w.alloc (.cells #[.int .i64 0, .int .i64 0] 41) := ⟨_, rfl⟩
  have hb : Below w.heap.size w W := by rw [hW]; exact (Below.refl _ _).alloc (Nat.le_refl _) _
  have hB : Blk W w.heap.size 41 #[.int .i64 0, .int .i64 0] := by rw [hW]; exact Blk.new _ _ _
  have hwb : Within g (g + 1) w W := .of_below _ _ hb
  go_enter Tryd.func94, Tryd.ntmps94
  go_wp2_with fail
  rw [← hW]
  clear hW
  refine (pick_any g B A n xs m (by omega) hn 1201 (by omega) (by omega) W (h.bel hb)).mono ?_
  rintro e w1 ⟨x, rfl, hx0, hx1, hs1, hw1⟩
  go_wp2_with fail
  refine (pick_any g B A n xs (m + 2) (by omega) hn 1201 (by omega) (by omega) w1 hs1).mono ?_
  rintro e w2 ⟨y, rfl, hy0, hy1, hs2, hw2⟩
  have hWs : w.heap.size < W.heap.size := hB.lt
  have hB2 := (hB.after hw1 (by omega)).after hw2 (by omega)
  have c0 := (hB2.cell 0).trans rfl
  have c1 := (hB2.cell 1).trans rfl
  have f0 := hB2.frozen 0
  have f1 := hB2.frozen 1
  go_wp2
  exact bodyPost_ret (v := .agg #[.int .i64 (x - 600), .int .i64 (y - 600)]) (by simp [results, Tryd.results94, go_sem, c0, c1]) rfl
    ⟨_, _, rfl, by omega, by omega, by omega, by omega, (hs2.set (p := ⟨w.heap.size, 0, none⟩) hg _).set (p := ⟨w.heap.size, 1, none⟩) hg _, (((hwb.trans hw1).trans hw2).fresh (p := ⟨w.heap.size, 0, none⟩) (Nat.le_refl _) _).fresh (p := ⟨w.heap.size, 1, none⟩) (Nat.le_refl _) _⟩
set_option maxHeartbeats 1600000 in
theorem l14DrawPoint_any (g B : Nat) (A : Option Addr) (n : Nat) (xs : List Int) (m : Nat) (hm : m ≤ 890000) (hn : n ≤ 1000000) (w : World) (h : Src w g B A n xs m) :
    Calls Tryd.prog 190 #[.pointer (some ⟨g, 0, none⟩)] w (AsksP g B A n xs (m + 6) w) := by
  have hg := h.lt
  obtain ⟨W, hW⟩ : ∃ W : World, W = w.alloc (.cells #[.int .i64 0, .int .i64 0] 41) := ⟨_, rfl⟩
  have hb : Below w.heap.size w W := by rw [hW]; exact (Below.refl _ _).alloc (Nat.le_refl _) _
  have hB : Blk W w.heap.size 41 #[.int .i64 0, .int .i64 0] := by rw [hW]; exact Blk.new _ _ _
  have hwb : Within g (g + 1) w W := .of_below _ _ hb
  have hWs : w.heap.size < W.heap.size := hB.lt
  go_enter Tryd.func190, Tryd.ntmps190
  go_wp2_with fail
  rw [← hW]
  clear hW
  refine (one_any g B A n xs m (by omega) hn 3 (by omega) (by omega) W (h.bel hb)).mono ?_
  rintro e w1 ⟨r, rfl, hs1, hw1⟩
  have hB1 := hB.after hw1 (by omega)
  cases r
  · go_wp2_with fail
    refine (pick_any g B A n xs (m + 2) (by omega) hn 13 (by omega) (by omega) w1 hs1).mono ?_
    rintro e w2 ⟨x, rfl, hx0, hx1, hs2, hw2⟩
    go_wp2_with fail
    refine (pick_any g B A n xs (m + 2 + 2) (by omega) hn 13 (by omega) (by omega) w2 hs2).mono ?_
    rintro e w3 ⟨y, rfl, hy0, hy1, hs3, hw3⟩
    have hB2 := (hB1.after hw2 (by omega)).after hw3 (by omega)
    have c0 := (hB2.cell 0).trans rfl
    have c1 := (hB2.cell 1).trans rfl
    have f0 := hB2.frozen 0
    have f1 := hB2.frozen 1
    go_wp2
    exact bodyPost_ret (v := .agg #[.int .i64 (x - 6), .int .i64 (y - 6)]) (by simp [results, Tryd.results190, go_sem, c0, c1]) rfl
      ⟨_, _, rfl, by omega, by omega, by omega, by omega, (hs3.set (p := ⟨w.heap.size, 0, none⟩) hg _).set (p := ⟨w.heap.size, 1, none⟩) hg _, ((((hwb.trans hw1).trans hw2).trans hw3).fresh (p := ⟨w.heap.size, 0, none⟩) (Nat.le_refl _) _).fresh (p := ⟨w.heap.size, 1, none⟩) (Nat.le_refl _) _⟩
  · go_wp2_with fail
    refine (l02Draw_any g B A n xs (m + 2) (by omega) hn w1 hs1).mono ?_
    rintro e w2 ⟨x, y, rfl, hx0, hx1, hy0, hy1, hs2, hw2⟩
    have hB2 := hB1.after hw2 (by omega)
    have c0 := (hB2.cell 0).trans rfl
    have c1 := (hB2.cell 1).trans rfl
    have f0 := hB2.frozen 0
    have f1 := hB2.frozen 1
    go_wp2
    exact bodyPost_ret (v := .agg #[.int .i64 x, .int .i64 y]) (by simp [results, Tryd.results190, go_sem, c0, c1]) rfl
      ⟨_, _, rfl, by omega, by omega, by omega, by omega, (hs2.set (p := ⟨w.heap.size, 0, none⟩) hg _).set (p := ⟨w.heap.size, 1, none⟩) hg _, (((hwb.trans hw1).trans hw2).fresh (p := ⟨w.heap.size, 0, none⟩) (Nat.le_refl _) _).fresh (p := ⟨w.heap.size, 1, none⟩) (Nat.le_refl _) _⟩

/-- a segment's four numbers -/
structure Seg where
  ax : Int
  ay : Int
  bx : Int
  by_ : Int
def Seg.val (s : Seg) : Value := .agg #[.agg #[.int .i64 s.ax, .int .i64 s.ay], .agg #[.int .i64 s.bx, .int .i64 s.by_]]
structure Seg.ok (s : Seg) : Prop where
  ax : -600 ≤ s.ax ∧ s.ax ≤ 600
  ay : -600 ≤ s.ay ∧ s.ay ≤ 600
  bx : -600 ≤ s.bx ∧ s.bx ≤ 600
  by_ : -600 ≤ s.by_ ∧ s.by_ ≤ 600
def AsksS (g B : Nat) (A : Option Addr) (n : Nat) (xs : List Int) (m : Nat) (w : World) (e : Ending) (w' : World) : Prop :=
  ∃ s : Seg, e = .returned (.agg #[.int .i64 s.ax, .int .i64 s.ay, .int .i64 s.bx, .int .i64 s.by_]) ∧ s.ok ∧ Src w' g B A n xs m ∧ Within g (g + 1) w w'
set_option maxHeartbeats 1600000 in
theorem l14Draw_any (g B : Nat) (A : Option Addr) (n : Nat) (xs : List Int) (m : Nat) (hm : m ≤ 800000) (hn : n ≤ 1000000) (w : World) (h : Src w g B A n xs m) :
    Calls Tryd.prog 105 #[.pointer (some ⟨g, 0, none⟩)] w (AsksS g B A n xs (m + 14) w) := by
  have hg := h.lt
  obtain ⟨W, hW⟩ : ∃ W : World, W = w.alloc (.cells #[.int .i64 0, .int .i64 0, .int .i64 0, .int .i64 0] 72) := ⟨_, rfl⟩
  have hb : Below w.heap.size w W := by rw [hW]; exact (Below.refl _ _).alloc (Nat.le_refl _) _
  have hB : Blk W w.heap.size 72 #[.int .i64 0, .int .i64 0, .int .i64 0, .int .i64 0] := by rw [hW]; exact Blk.new _ _ _
  have hwb : Within g (g + 1) w W := .of_below _ _ hb
  have hWs : w.heap.size < W.heap.size := hB.lt
  go_enter Tryd.func105, Tryd.ntmps105
  go_wp2_with fail
  rw [← hW]
  clear hW
  refine (l14DrawPoint_any g B A n xs m (by omega) hn W (h.bel hb)).mono ?_
  rintro e w1 ⟨x, y, rfl, hx0, hx1, hy0, hy1, hs1, hw1⟩
  have hB1 := hB.after hw1 (by omega)
  have hws1 := hw1.size
  obtain ⟨W2, hW2⟩ : ∃ W2 : World, W2 = w1.alloc (.cells #[.int .i64 x, .int .i64 y] 41) := ⟨_, rfl⟩
  have hb2 : Below w1.heap.size w1 W2 := by rw [hW2]; exact (Below.refl _ _).alloc (Nat.le_refl _) _
  have hP : Blk W2 w1.heap.size 41 #[.int .i64 x, .int .i64 y] := by rw [hW2]; exact Blk.new _ _ _
  have hws2 : w1.heap.size < W2.heap.size := hP.lt
  go_wp2_with fail
  rw [← hW2]
  refine (one_any g B A n xs (m + 6) (by omega) hn 8 (by omega) (by omega) W2 (hs1.bel hb2)).mono ?_
  rintro e w3 ⟨r, rfl, hs3, hw3⟩
  have hB3 := (hB1.bel hb2).after hw3 (by omega)
  have hP3 := hP.after hw3 (by omega)
  have hwt := ((hwb.trans hw1).trans (.of_below _ _ hb2)).trans hw3
  have c0 := (hB3.cell 0).trans rfl
  have c1 := (hB3.cell 1).trans rfl
  have c2 := (hB3.cell 2).trans rfl
  have c3 := (hB3.cell 3).trans rfl
  have f0 := hB3.frozen 0
  have f1 := hB3.frozen 1
  have f2 := hB3.frozen 2
  have f3 := hB3.frozen 3
  have d0 : w3.cell? ⟨w1.heap.size, 0, none⟩ = some (.int .i64 x) := hP3.cell 0
  have d1 : w3.cell? ⟨w1.heap.size, 1, none⟩ = some (.int .i64 y) := hP3.cell 1
  cases r
  · clear c0 c1 c2 c3 f0 f1 f2 f3
    have hne : w.heap.size ≠ w1.heap.size := by omega
    have hne2 : w1.heap.size ≠ w.heap.size := by omega
    have hs3d : Src w3.drew g B A n xs (m + 6 + 2) := hs3
    have hB3d : Blk w3.drew w.heap.size 72 #[.int .i64 0, .int .i64 0, .int .i64 0, .int .i64 0] := hB3
    have hP3d : Blk w3.drew w1.heap.size 41 #[.int .i64 x, .int .i64 y] := hP3
    have hwtd : Within g (g + 1) w w3.drew := hwt.drew
    have d0d : w3.drew.cell? ⟨w1.heap.size, 0, none⟩ = some (.int .i64 x) := d0
    have d1d : w3.drew.cell? ⟨w1.heap.size, 1, none⟩ = some (.int .i64 y) := d1
    go_wp2_with fail
    go_region_held3 (fun w' => w'.cell? ⟨w1.heap.size, 0, none⟩ = some (.int .i64 x) ∧ w'.cell? ⟨w1.heap.size, 1, none⟩ = some (.int .i64 y)) (first | exact ⟨d0d, d1d⟩ | exact ⟨d04, d14⟩ | go_keep) ((first | (go_at_call 190; refine (l14DrawPoint_any g B A n xs (m + 6 + 2) (by omega) hn w3.drew hs3d).mono ?_; rintro e w4 ⟨x2, y2, rfl, hx20, hx21, hy20, hy21, hs4, hw4⟩; have hB4 := hB3d.after hw4 (by omega); have hP4 := hP3d.after hw4 (by omega); have d04 : w4.cell? ⟨w1.heap.size, 0, none⟩ = some (.int .i64 x) := hP4.cell 0; have d14 : w4.cell? ⟨w1.heap.size, 1, none⟩ = some (.int .i64 y) := hP4.cell 1; have c0 := (hB4.cell 0).trans rfl; have c1 := (hB4.cell 1).trans rfl; have c2 := (hB4.cell 2).trans rfl; have c3 := (hB4.cell 3).trans rfl; have f0 := hB4.frozen 0; have f1 := hB4.frozen 1; have f2 := hB4.frozen 2; have f3 := hB4.frozen 3)))
    go_wp2
    exact bodyPost_ret (v := .agg #[.int .i64 x, .int .i64 y, .int .i64 x2, .int .i64 y2]) (by simp [results, Tryd.results105, go_sem, c0, c1, c2, c3]) rfl
      ⟨⟨x, y, x2, y2⟩, rfl, ⟨⟨hx0, hx1⟩, ⟨hy0, hy1⟩, ⟨hx20, hx21⟩, ⟨hy20, hy21⟩⟩, (((hs4.set (p := ⟨w.heap.size, 0, none⟩) hg _).set (p := ⟨w.heap.size, 1, none⟩) hg _).set (p := ⟨w.heap.size, 2, none⟩) hg _).set (p := ⟨w.heap.size, 3, none⟩) hg _, ((((hwtd.trans hw4).fresh (p := ⟨w.heap.size, 0, none⟩) (Nat.le_refl _) _).fresh (p := ⟨w.heap.size, 1, none⟩) (Nat.le_refl _) _).fresh (p := ⟨w.heap.size, 2, none⟩) (Nat.le_refl _) _).fresh (p := ⟨w.heap.size, 3, none⟩) (Nat.le_refl _) _⟩
  · go_wp2
    exact bodyPost_ret (v := .agg #[.int .i64 x, .int .i64 y, .int .i64 x, .int .i64 y]) (by simp [results, Tryd.results105, go_sem, c0, c1, c2, c3]) rfl
      ⟨⟨x, y, x, y⟩, rfl, ⟨⟨hx0, hx1⟩, ⟨hy0, hy1⟩, ⟨hx0, hx1⟩, ⟨hy0, hy1⟩⟩, ((((hs3.more (by omega)).set (p := ⟨w.heap.size, 0, none⟩) hg _).set (p := ⟨w.heap.size, 1, none⟩) hg _).set (p := ⟨w.heap.size, 2, none⟩) hg _).set (p := ⟨w.heap.size, 3, none⟩) hg _, (((hwt.fresh (p := ⟨w.heap.size, 0, none⟩) (Nat.le_refl _) _).fresh (p := ⟨w.heap.size, 1, none⟩) (Nat.le_refl _) _).fresh (p := ⟨w.heap.size, 2, none⟩) (Nat.le_refl _) _).fresh (p := ⟨w.heap.size, 3, none⟩) (Nat.le_refl _) _⟩
end Go.Proofs.YtdhobglhjdgboaaDoor
