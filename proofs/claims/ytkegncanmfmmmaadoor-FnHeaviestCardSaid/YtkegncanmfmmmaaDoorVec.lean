/- The vectors of the directions: impl's vector (over the package's table), the reference's l02Vector: both hand back vecN. -/
import Derived.Test.YtkegncanmfmmmaaDoorRPnt
import Derived.Test.YtkegncanmfmmmaaDoorWords3
namespace Go.Proofs.YtkegncanmfmmmaaDoor
open Go.RowKit
set_option linter.unusedVariables false

def qtab : List Int := [1000, 0, 966, 259, 866, 500, 707, 707, 500, 866, 259, 966]
structure V2 where
  x : Int
  y : Int
def qv (q : Nat) : V2 := ⟨qtab.getD (q * 2) 0, qtab.getD (q * 2 + 1) 0⟩
def rotv : Nat → V2 → V2
  | 0, p => p
  | k + 1, p => rotv k ⟨-p.y, p.x⟩
def vecN (d : Nat) : V2 := rotv (d / 6) (qv (d % 6))
def V2.small (p : V2) : Prop := -1000 ≤ p.x ∧ p.x ≤ 1000 ∧ -1000 ≤ p.y ∧ p.y ≤ 1000
theorem rotv_small : ∀ (k : Nat) {p : V2}, p.small → (rotv k p).small
  | 0, _, h => h
  | k + 1, p, h => rotv_small k (p := ⟨-p.y, p.x⟩) ⟨by have := h.2.2; show -1000 ≤ -p.y; omega, by have := h.2.2; show -p.y ≤ 1000; omega, h.1, h.2.1⟩
theorem qv_small {q : Nat} (h : q < 6) : (qv q).small := by
  rcases (by omega : q = 0 ∨ q = 1 ∨ q = 2 ∨ q = 3 ∨ q = 4 ∨ q = 5) with rfl | rfl | rfl | rfl | rfl | rfl <;> exact ⟨by decide, by decide, by decide, by decide⟩
theorem vecN_small (d : Nat) : (vecN d).small := rotv_small _ (qv_small (Nat.mod_lt _ (by decide)))
theorem Blk.two {w : World} {g : Nat} {t : TypeId} {x y : Value} (h : Blk w g t #[x, y]) (u v : Value) : Blk ((w.setCell ⟨g, 0, none⟩ u).setCell ⟨g, 1, none⟩ v) g t #[u, v] := (h.set_ 0 u).set_ 1 v
/-- the package's table stands in its block -/
def QtrW (w : World) : Prop := 0 < w.heap.size ∧ ∀ j, j < 12 → w.cell? ⟨0, j, none⟩ = some (.int .i64 (qtab.getD j 0))
theorem QtrW.bel {w w' : World} (h : QtrW w) (hb : Below w.heap.size w w') : QtrW w' := ⟨by have := hb.size; have := h.1; omega, fun j hj => (hb.cell (p := ⟨_, j, none⟩) h.1).trans (h.2 j hj)⟩

set_option maxRecDepth 100000 in
set_option maxHeartbeats 1600000 in
theorem vector_any (d : Nat) (hd : d < 24) (w : World) (hq : QtrW w) :
    Calls Tryd.prog 129 #[.int .i64 (d : Int)] w fun e w' => e = .returned (.agg #[.int .i64 (vecN d).x, .int .i64 (vecN d).y]) ∧ Below w.heap.size w w' := by
  have HQ : Hid (d % 6 < 6) := Nat.mod_lt _ (by decide)
  have hrem : (d : Int) % 6 = ((d % 6 : Nat) : Int) := by omega
  have HV : Hid (rotv (d / 6) (qv (d % 6)) = vecN d) := rfl
  have HS := Lib.hid (qv_small HQ.out)
  have hq6 := HQ.out
  have c0 := hq.2 (d % 6 * 2) (by omega)
  have c1 := hq.2 (d % 6 * 2 + 1) (by omega)
  obtain ⟨x, hx⟩ : ∃ x, x = qtab.getD (d % 6 * 2) 0 := ⟨_, rfl⟩
  obtain ⟨y, hy⟩ : ∃ y, y = qtab.getD (d % 6 * 2 + 1) 0 := ⟨_, rfl⟩
  have HXY : Hid (qv (d % 6) = ⟨x, y⟩) := by show _ = _; unfold qv; rw [hx, hy]
  rw [← hx] at c0
  rw [← hy] at c1
  rw [HXY.out] at HS HV
  clear hx hy HXY HQ
  have h0 := hq.1
  obtain ⟨q, hqq⟩ : ∃ q, q = d % 6 := ⟨_, rfl⟩
  rw [← hqq] at hrem hq6 c0 c1
  clear hqq hq
  obtain ⟨W, hW⟩ : ∃ W : World, W = (w.alloc (.cells #[.int .i64 0, .int .i64 0] 29)).alloc (.cells #[.int .i64 x, .int .i64 y] 29) := ⟨_, rfl⟩
  have HB0 : Hid (Below w.heap.size w W) := by show _; rw [hW]; exact ((Below.refl _ _).alloc (Nat.le_refl _) _).alloc (by simp) _
  have HP2 : Hid (Blk W w.heap.size 29 #[.int .i64 0, .int .i64 0]) := by show _; rw [hW]; exact (Blk.new w _ _).alloc _
  have HP3 : Hid (Blk W (w.heap.size + 1) 29 #[.int .i64 x, .int .i64 y]) := by
    have := Blk.new (w.alloc (.cells #[.int .i64 0, .int .i64 0] 29)) 29 #[.int .i64 x, .int .i64 y]
    rw [← hW, show (w.alloc (.cells #[.int .i64 0, .int .i64 0] 29)).heap.size = w.heap.size + 1 by simp] at this
    exact this
  go_enter Tryd.func129, Tryd.ntmps129
  go_wp2
  rw [← hW]
  clear hW c0 c1 hrem hq6
  go_loopw [0] (fun v wr => ∃ (m : Nat) (x y : Int), m < 24 ∧ v = .int .i64 (m : Int) ∧ rotv (m / 6) ⟨x, y⟩ = vecN d ∧ V2.small ⟨x, y⟩ ∧ Blk wr w.heap.size 29 #[.int .i64 0, .int .i64 0] ∧ Blk wr (w.heap.size + 1) 29 #[.int .i64 x, .int .i64 y] ∧ Below w.heap.size w wr) (fun v _ => (intOf v).toNat)
  case atStart => exact ⟨d, x, y, hd, rfl, HV.out, HS.out, HP2.out, HP3.out, HB0.out⟩
  case round =>
    obtain ⟨m, x, y, hm, rfl, hv, ⟨s1, s2, s3, s4⟩, hp2, hp3, hb⟩ := hrel
    dsimp only at s1 s2 s3 s4
    have HV2 := Lib.hid hv
    have HP2 := Lib.hid hp2
    have HP3 := Lib.hid hp3
    have HB := Lib.hid hb
    have hsz := hb.size
    have hl3 := hp3.lt
    have e0 : wr.cell? ⟨w.heap.size + 1, 0, none⟩ = some (.int .i64 x) := (hp3.cell 0).trans rfl
    have e1 : wr.cell? ⟨w.heap.size + 1, 1, none⟩ = some (.int .i64 y) := (hp3.cell 1).trans rfl
    have f0 := hp3.frozen 0
    have f1 := hp3.frozen 1
    have r0 : wr.cell? ⟨w.heap.size, 0, none⟩ = some (.int .i64 0) := (hp2.cell 0).trans rfl
    have r1 : wr.cell? ⟨w.heap.size, 1, none⟩ = some (.int .i64 0) := (hp2.cell 1).trans rfl
    have g0 := hp2.frozen 0
    have g1 := hp2.frozen 1
    clear hv hp2 hp3 hb
    by_cases h6 : 6 ≤ m
    · have h6i : (6 : Int) ≤ (m : Int) := by omega
      have hsub : (m : Int) - 6 = ((m - 6 : Nat) : Int) := by omega
      have HM : Hid (m / 6 = (m - 6) / 6 + 1) := by show _ = _; omega
      go_wp2
      go_roundw
      case rel => exact ⟨m - 6, -y, x, by omega, rfl, by have := HV2.out; rw [HM.out] at this; exact this, ⟨by show -1000 ≤ -y; omega, by show -y ≤ 1000; omega, s1, s2⟩, (HP2.out.far (by simp) _).far (by simp) _, Blk.two HP3.out _ _, (HB.out.setCell (by simp) _).setCell (by simp) _⟩
      case measure => simp [intOf]; omega
    · have h6i : ¬ (6 : Int) ≤ (m : Int) := by omega
      have HM : Hid (m / 6 = 0) := by show _ = _; omega
      go_wp2
      obtain ⟨W5, hW5⟩ : ∃ W5 : World, W5 = (wr.setCell ⟨w.heap.size, 0, none⟩ (.int .i64 x)).setCell ⟨w.heap.size, 1, none⟩ (.int .i64 y) := ⟨_, rfl⟩
      have P5 : Blk W5 w.heap.size 29 #[.int .i64 x, .int .i64 y] := by rw [hW5]; exact Blk.two HP2.out _ _
      have B5 : Below w.heap.size w W5 := by rw [hW5]; exact (HB.out.setCell (by simp) _).setCell (by simp) _
      have q0 : W5.cell? ⟨w.heap.size, 0, none⟩ = some (.int .i64 x) := (P5.cell 0).trans rfl
      have q1 : W5.cell? ⟨w.heap.size, 1, none⟩ = some (.int .i64 y) := (P5.cell 1).trans rfl
      have HE : Hid (vecN d = ⟨x, y⟩) := by
        have := HV2.out
        rw [HM.out] at this
        exact this.symm
      rw [← hW5]
      clear hW5
      exact bodyPost_ret (v := .agg #[.int .i64 x, .int .i64 y]) (by simp [results, Tryd.results129, go_sem, q0, q1]) rfl ⟨by rw [HE.out], B5⟩
end Go.Proofs.YtkegncanmfmmmaaDoor
