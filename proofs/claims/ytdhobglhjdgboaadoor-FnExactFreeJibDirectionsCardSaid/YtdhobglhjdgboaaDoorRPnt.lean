/- Pnt: the record, and the contracts of the laws' own functions over it: size, copy, equality, marks. The copies are of lists of at most 1048576. -/
import Derived.Test.YtdhobglhjdgboaaDoorProg
import Derived.Test.YtdhobglhjdgboaaDoorWords2
import Derived.Deep.RegionHeld3
import Derived.Deep.QuietTactic
import Derived.BigQuiet
import Derived.KernelRfl
namespace Go.Proofs.YtdhobglhjdgboaaDoor
open Go.RowKit
set_option linter.unusedVariables false

structure Pnt where
  x : Int
  y : Int

def Pnt.cs (p : Pnt) : List Value := [.int .i64 p.x, .int .i64 p.y]
theorem Pnt.cs_len (p : Pnt) : p.cs.length = 2 := rfl
theorem Pnt.cs_one (p : Pnt) : ∀ u ∈ p.cs, u.oneCell' = true := by intro u hu; simp [Pnt.cs] at hu; rcases hu with rfl | rfl <;> rfl
structure Pnt.wf (p : Pnt) : Prop where
  x : -9223372036854775808 ≤ p.x ∧ p.x ≤ 9223372036854775807
  y : -9223372036854775808 ≤ p.y ∧ p.y ≤ 9223372036854775807

theorem Pnt.at {w : World} {lo hi : Nat} {A : Option Addr} {n : Nat} {xs : List Pnt} (h : Arr Pnt.cs 2 w lo hi A n xs) {i : Nat} (hi' : i < n) :
    ∃ b off p, A = some ⟨b, off, none⟩ ∧ xs[i]? = some p ∧ lo ≤ b ∧ b < hi ∧ w.cell? ⟨b, off + i * 2, none⟩ = some (.int .i64 p.x) ∧ w.cell? ⟨b, off + i * 2 + 1, none⟩ = some (.int .i64 p.y) := by
  obtain ⟨b, off, p, h1, h2, h3, h4, hc⟩ := h.cells hi'
  exact ⟨b, off, p, h1, h2, h3, h4, hc 0 _ rfl, hc 1 _ rfl⟩

def szPntS (n : Nat) (_ps : List Pnt) : Int := n
set_option maxHeartbeats 800000 in
theorem szPntS_ok (A : Option Addr) (n c : Nat) (ps : List Pnt) (left : Int) (w : World) (lo : Nat) (h : Arr Pnt.cs 2 w lo w.heap.size A n ps) (hn : n ≤ 9223372036854775807) (hp : ∀ p ∈ ps, p.wf) (h0 : 0 ≤ left) (h1 : left ≤ 1048576) (hs : szPntS n ps ≤ left) :
    Calls Tryd.prog 156 #[.slice A n c, .int .i64 left] w fun e w' => e = .returned (.int .i64 (left - szPntS n ps)) ∧ Below w.heap.size w w' := by
  unfold szPntS at *
  go_enter Tryd.func156, Tryd.ntmps156
  go_wp2
  go_ret
  exact ⟨rfl, Below.refl _ _⟩

set_option maxHeartbeats 800000 in
theorem szPntS_no (A : Option Addr) (n c : Nat) (ps : List Pnt) (left : Int) (w : World) (lo : Nat) (h : Arr Pnt.cs 2 w lo w.heap.size A n ps) (hn : n ≤ 9223372036854775807) (hp : ∀ p ∈ ps, p.wf) (h0 : 0 ≤ left) (h1 : left ≤ 1048576) (hs : left < szPntS n ps) :
    Calls Tryd.prog 156 #[.slice A n c, .int .i64 left] w fun e w' => e = .returned (.int .i64 (-1)) ∧ Below w.heap.size w w' := by
  unfold szPntS at *
  go_enter Tryd.func156, Tryd.ntmps156
  go_wp2
  go_ret
  exact ⟨rfl, Below.refl _ _⟩

set_option maxHeartbeats 400000 in
theorem toPnt_any (p : Pnt) (w : World) :
    Calls Tryd.prog 77 #[.agg #[.int .i64 p.x, .int .i64 p.y]] w fun e w' => e = .returned (.agg #[.int .i64 p.x, .int .i64 p.y]) ∧ Below w.heap.size w w' := by
  go_enter Tryd.func77, Tryd.ntmps77
  go_wp2
  exact bodyPost_ret (v := .agg #[.int .i64 p.x, .int .i64 p.y]) (by simp [results, Tryd.results77, go_sem]) rfl ⟨rfl, by repeat (first | exact Below.refl _ _ | (refine Below.setCell ?_ (by first | (simp; done) | (simp; omega)) _) | (refine Below.alloc ?_ (by first | (simp; done) | (simp; omega)) _) | refine Below.drew ?_)⟩

theorem PntInfo : (Tryd.prog.info? 41).map (fun i => (i.zero, i.size, i.bytes)) = some (some (.agg #[.int .i64 0, .int .i64 0]), 2, 16) := by kernel_rfl
def ToPntS (w : World) (n : Nat) (ps : List Pnt) (e : Ending) (w' : World) : Prop :=
  ∃ g, e = .returned (.slice (some ⟨g, 0, none⟩) n n) ∧ Own Pnt.cs 2 w' w.heap.size w'.heap.size 41 (some ⟨g, 0, none⟩) n ps ∧ Below w.heap.size w w'
set_option maxHeartbeats 1600000 in
theorem toPntS_any (A : Option Addr) (n c : Nat) (ps : List Pnt) (w : World) (lo : Nat) (h : Arr Pnt.cs 2 w lo w.heap.size A n ps) (hn : n ≤ 1048576) :
    Calls Tryd.prog 166 #[.slice A n c] w (ToPntS w n ps) := by
  obtain ⟨i0, hi, hz0, hz1, hz2⟩ := info_parts PntInfo
  have hmk := fun W => run_make_rowN (P := Tryd.prog) 125 41 i0 _ Tryd.underlying125 hi hz0 .i64 .i64 n n (Nat.le_refl _) (by rw [hz2]; omega) (by omega) W
  rw [hz1] at hmk
  go_enter Tryd.func166, Tryd.ntmps166
  go_wp2
  clear hmk
  go_loopw [4] (fun i wr => ∃ (k : Nat) (cs : Array Value), k ≤ n ∧ i = .int .i64 k ∧ Blk wr w.heap.size 41 cs ∧ cs.size = n * 2 ∧ Filled Pnt.cs 2 cs ps k ∧ Below w.heap.size w wr) (fun i _ => n - (intOf i).toNat)
  case atStart => exact ⟨0, _, Nat.zero_le _, rfl, Blk.new _ _ _, by simp [size_madeCells], Filled.start _ _, (Below.refl _ _).alloc (Nat.le_refl _) _⟩
  case round =>
    obtain ⟨k, cs, hk, rfl, hblk, hsz, hfill, hb⟩ := hrel
    have HZ := Lib.hid hsz
    clear hsz
    by_cases hlt : k < n
    · obtain ⟨b, off, p, rfl, hx, _, hbl, c0, c1⟩ := Pnt.at (h.below hb) hlt
      have hg := hblk.lt
      obtain ⟨u0, e0⟩ : ∃ u, wr.cell? ⟨w.heap.size, k * 2, none⟩ = some u := hblk.there (by have := HZ.out; omega)
      obtain ⟨u1, e1⟩ : ∃ u, wr.cell? ⟨w.heap.size, k * 2 + 1, none⟩ = some u := hblk.there (by have := HZ.out; omega)
      have f0 := hblk.frozen (k * 2)
      have f1 := hblk.frozen (k * 2 + 1)
      have HB := Lib.hid hblk
      clear hblk
      go_wp2_with (go_at_call 77; refine (toPnt_any p _).mono ?_; rintro e w1 ⟨rfl, hb1⟩; have e01 := (hb1.cell (p := ⟨w.heap.size, k * 2, none⟩) hg).trans e0; have f01 := (hb1.frozen (p := ⟨w.heap.size, k * 2, none⟩) hg).trans f0; have e11 := (hb1.cell (p := ⟨w.heap.size, k * 2 + 1, none⟩) hg).trans e1; have f11 := (hb1.frozen (p := ⟨w.heap.size, k * 2 + 1, none⟩) hg).trans f1)
      go_roundw
      case rel => exact ⟨k + 1, _, by omega, by go_num, ((HB.out.below hb1 hg).set_ (k * 2) (.int .i64 p.x)).set_ (k * 2 + 1) (.int .i64 p.y), by simp [HZ.out], hfill.put2 hx (by have := HZ.out; omega), ((hb.trans (hb1.mono hb.size)).setCell (Nat.le_refl _) _).setCell (Nat.le_refl _) _⟩
      case measure => simp [intOf]; omega
    · obtain rfl : k = n := by omega
      go_wp2
      go_ret
      exact ⟨w.heap.size, rfl, hfill.own h.1 (by rw [HZ.out]; exact Nat.le_refl _) hblk (Nat.le_refl _), hb⟩

set_option maxHeartbeats 400000 in
theorem eqPnt_same (p : Pnt) (w : World) :
    Calls Tryd.prog 87 #[.agg #[.int .i64 p.x, .int .i64 p.y], .agg #[.int .i64 p.x, .int .i64 p.y]] w fun e w' => e = .returned (.bool true) ∧ Below w.heap.size w w' := by
  go_enter Tryd.func87, Tryd.ntmps87
  go_wp2
  go_ret
  exact ⟨rfl, by repeat (first | exact Below.refl _ _ | (refine Below.setCell ?_ (by first | (simp; done) | (simp; omega)) _) | (refine Below.alloc ?_ (by first | (simp; done) | (simp; omega)) _) | refine Below.drew ?_)⟩

set_option maxHeartbeats 1600000 in
theorem eqPntS_same (A A2 : Option Addr) (n c c2 : Nat) (ps : List Pnt) (w : World) (lo lo2 : Nat) (h : Arr Pnt.cs 2 w lo w.heap.size A n ps) (h2 : Arr Pnt.cs 2 w lo2 w.heap.size A2 n ps) (hn : n ≤ 9223372036854775807) :
    Calls Tryd.prog 178 #[.slice A n c, .slice A2 n c2] w fun e w' => e = .returned (.bool true) ∧ Below w.heap.size w w' := by
  go_enter Tryd.func178, Tryd.ntmps178
  go_wp2
  go_loopw [5] (fun i wr => ∃ k : Nat, k ≤ n ∧ i = .int .i64 k ∧ Below w.heap.size w wr) (fun i _ => n - (intOf i).toNat)
  case atStart => exact ⟨0, Nat.zero_le _, rfl, Below.refl _ _⟩
  case round =>
    obtain ⟨k, hk, rfl, hb⟩ := hrel
    by_cases hlt : k < n
    · obtain ⟨b, off, p, rfl, hx, _, hbl, c0, c1⟩ := Pnt.at (h.below hb) hlt
      obtain ⟨b2, off2, p2, rfl, hx2, _, hbl2, d0, d1⟩ := Pnt.at (h2.below hb) hlt
      obtain rfl : p = p2 := by rw [hx] at hx2; exact Option.some.inj hx2
      have hlt0 : (0 : Int) ≤ (k : Int) := by omega
      have hlt1 : (k : Int) < (n : Int) := by omega
      have hx1 := hbl; have hx3 := hbl2; have hx4 := hb.size
      clear h h2 hx hx2
      go_wp2_with fail
      go_region_held3 (fun w' => w'.cell? ⟨b, off + k * 2, none⟩ = some (.int .i64 p.x) ∧ w'.cell? ⟨b, off + k * 2 + 1, none⟩ = some (.int .i64 p.y) ∧ w'.cell? ⟨b2, off2 + k * 2, none⟩ = some (.int .i64 p.x) ∧ w'.cell? ⟨b2, off2 + k * 2 + 1, none⟩ = some (.int .i64 p.y)) (first | go_keep | exact ⟨(hb1.cell (by simp; omega)).trans c0, (hb1.cell (by simp; omega)).trans c1, (hb1.cell (by simp; omega)).trans d0, (hb1.cell (by simp; omega)).trans d1⟩) (first | (go_at_call 87; refine (eqPnt_same p _).mono ?_; rintro e w1 ⟨rfl, hb1⟩))
      go_wp2
      go_roundw
      case rel => exact ⟨k + 1, by omega, by go_num, hb.trans ((Below.drew (Below.refl _ _)).trans (hb1.mono hb.size))⟩
      case measure => simp [intOf]; omega
    · obtain rfl : k = n := by omega
      go_wp2
      go_ret
      exact ⟨rfl, hb⟩
end Go.Proofs.YtdhobglhjdgboaaDoor
