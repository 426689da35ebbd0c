/- The source of choices: pick, one; places and segments that are drawn: valid ones. -/
import Derived.Test.YtnidnmbicnhflaaDoorSrc
namespace Go.Proofs.YtnidnmbicnhflaaDoor
open Go.RowKit
set_option linter.unusedVariables false

theorem Within.fresh {lo hi : Nat} {a w : World} (h : Within lo hi a w) {p : Addr} (hp : a.heap.size ≤ p.block) (u : Value) : Within lo hi a (w.setCell p u) :=
  ⟨h.os, h.tape, h.output, by have := h.size; simpa using this, fun k hk ho => (Below.heap_setCell _ _ _ _ (by omega)).trans (h.block k hk ho)⟩
theorem Src.set {w : World} {g B : Nat} {A : Option Addr} {n : Nat} {xs : List Int} {m : Nat} (h : Src w g B A n xs m) {p : Addr} (hp : g < p.block) (u : Value) : Src (w.setCell p u) g B A n xs m :=
  h.far ((Within.refl p.block (p.block + 1) w).setCell (Nat.le_refl _) (Nat.lt_succ_self _) u) hp
theorem Blk.after {w w' : World} {g b : Nat} {t : TypeId} {cs : Array Value} (h : Blk w b t cs) (hw : Within g (g + 1) w w') (hne : g ≠ b) : Blk w' b t cs := (hw.block b h.lt (by omega)).trans h
set_option maxHeartbeats 1600000 in
theorem pick_any (g B : Nat) (A : Option Addr) (n : Nat) (xs : List Int) (m : Nat) (hm : m ≤ 999000) (hn : n ≤ 1000000) (k : Int) (hk1 : 1 < k) (hk2 : k ≤ 60000) (w : World) (h : Src w g B A n xs m) :
    Calls Tryd.prog 71 #[.pointer (some ⟨g, 0, none⟩), .int .i64 k] w (Asks g B A n xs (m + 2) 0 (k - 1) w) := by
  by_cases hbig : 200 < k
  · go_enter Tryd.func71, Tryd.ntmps71
    go_wp2_with fail
    refine (next_any g B A n xs m (by omega) hn w h).mono ?_
    rintro e w1 ⟨x, rfl, hx0, hx1, hs1, hw1⟩
    go_wp2_with fail
    refine (next_any g B A n xs (m + 1) (by omega) hn w1 hs1).mono ?_
    rintro e w2 ⟨y, rfl, hy0, hy1, hs2, hw2⟩
    have hz : 0 ≤ x * 256 + y ∧ x * 256 + y ≤ 65535 := by omega
    have hm0 := Int.emod_nonneg (x * 256 + y) (show k ≠ 0 by omega)
    have hm1 := Int.emod_lt_of_pos (x * 256 + y) (show 0 < k by omega)
    have hk0 : ¬ k = 0 := by omega
    have htm : Int.tmod (x * 256 + y) k = (x * 256 + y) % k := Int.tmod_eq_emod_of_nonneg hz.1
    go_wp2
    go_ret
    exact ⟨_, rfl, by omega, by omega, hs2, hw1.trans hw2⟩
  · go_enter Tryd.func71, Tryd.ntmps71
    go_wp2_with fail
    refine (next_any g B A n xs m (by omega) hn w h).mono ?_
    rintro e w1 ⟨x, rfl, hx0, hx1, hs1, hw1⟩
    have hm0 := Int.emod_nonneg x (show k ≠ 0 by omega)
    have hm1 := Int.emod_lt_of_pos x (show 0 < k by omega)
    have hk0 : ¬ k = 0 := by omega
    have htm : Int.tmod x k = x % k := Int.tmod_eq_emod_of_nonneg hx0
    go_wp2
    go_ret
    exact ⟨_, rfl, by omega, by omega, hs1.more (by omega), hw1⟩
/-- a call that asks a source: yes or no -/
def AsksB (g B : Nat) (A : Option Addr) (n : Nat) (xs : List Int) (m : Nat) (w : World) (e : Ending) (w' : World) : Prop :=
  ∃ r : Bool, e = .returned (.bool r) ∧ Src w' g B A n xs m ∧ Within g (g + 1) w w'
/-- a call that asks a source: a place in a square -/
def AsksP (g B : Nat) (A : Option Addr) (n : Nat) (xs : List Int) (m : Nat) (w : World) (e : Ending) (w' : World) : Prop :=
  ∃ x y : Int, e = .returned (.agg #[.int .i64 x, .int .i64 y]) ∧ -600 ≤ x ∧ x ≤ 600 ∧ -600 ≤ y ∧ y ≤ 600 ∧ Src w' g B A n xs m ∧ Within g (g + 1) w w'
set_option maxHeartbeats 1600000 in
theorem l02Draw_any (g B : Nat) (A : Option Addr) (n : Nat) (xs : List Int) (m : Nat) (hm : m ≤ 900000) (hn : n ≤ 1000000) (w : World) (h : Src w g B A n xs m) :
    Calls Tryd.prog 32 #[.pointer (some ⟨g, 0, none⟩)] w (AsksP g B A n xs (m + 4) w) := by
  have hg := h.lt
  obtain ⟨W, hW⟩ : ∃ W : World, W = w.alloc (.cells #[.int .i64 0, .int .i64 0] 29) := ⟨_, rfl⟩
  have hb : Below w.heap.size w W := by rw [hW]; exact (Below.refl _ _).alloc (Nat.le_refl _) _
  have hB : Blk W w.heap.size 29 #[.int .i64 0, .int .i64 0] := by rw [hW]; exact Blk.new _ _ _
  have hwb : Within g (g + 1) w W := .of_below _ _ hb
  go_enter Tryd.func32, Tryd.ntmps32
  go_wp2_with fail
  rw [← hW]
  clear hW
  refine (pick_any g B A n xs m (by omega) hn 1201 (by omega) (by omega) W (h.bel hb)).mono ?_
  rintro e w1 ⟨x, rfl, hx0, hx1, hs1, hw1⟩
  go_wp2_with fail
  refine (pick_any g B A n xs (m + 2) (by omega) hn 1201 (by omega) (by omega) w1 hs1).mono ?_
  rintro e w2 ⟨y, rfl, hy0, hy1, hs2, hw2⟩
  have hWs : w.heap.size < W.heap.size := hB.lt
  have hB2 := (hB.after hw1 (by omega)).after hw2 (by omega)
  have c0 := (hB2.cell 0).trans rfl
  have c1 := (hB2.cell 1).trans rfl
  have f0 := hB2.frozen 0
  have f1 := hB2.frozen 1
  go_wp2
  exact bodyPost_ret (v := .agg #[.int .i64 (x - 600), .int .i64 (y - 600)]) (by simp [results, Tryd.results32, go_sem, c0, c1]) rfl
    ⟨_, _, rfl, by omega, by omega, by omega, by omega, (hs2.set (p := ⟨w.heap.size, 0, none⟩) hg _).set (p := ⟨w.heap.size, 1, none⟩) hg _, (((hwb.trans hw1).trans hw2).fresh (p := ⟨w.heap.size, 0, none⟩) (Nat.le_refl _) _).fresh (p := ⟨w.heap.size, 1, none⟩) (Nat.le_refl _) _⟩
/-- a segment's four numbers -/
structure Seg where
  ax : Int
  ay : Int
  bx : Int
  by_ : Int
def Seg.val (s : Seg) : Value := .agg #[.agg #[.int .i64 s.ax, .int .i64 s.ay], .agg #[.int .i64 s.bx, .int .i64 s.by_]]
structure Seg.ok (s : Seg) : Prop where
  ax : -600 ≤ s.ax ∧ s.ax ≤ 600
  ay : -600 ≤ s.ay ∧ s.ay ≤ 600
  bx : -600 ≤ s.bx ∧ s.bx ≤ 600
  by_ : -600 ≤ s.by_ ∧ s.by_ ≤ 600
def AsksS (g B : Nat) (A : Option Addr) (n : Nat) (xs : List Int) (m : Nat) (w : World) (e : Ending) (w' : World) : Prop :=
  ∃ s : Seg, e = .returned (.agg #[.int .i64 s.ax, .int .i64 s.ay, .int .i64 s.bx, .int .i64 s.by_]) ∧ s.ok ∧ Src w' g B A n xs m ∧ Within g (g + 1) w w'
end Go.Proofs.YtnidnmbicnhflaaDoor
