/- The vectors of the directions: impl's vector (over the package's table), the reference's l02Vector: both hand back vecN. -/
import Derived.Test.YtnidnmbicnhflaaRPnt
import Derived.Test.YtnidnmbicnhflaaWords3
namespace Go.Proofs.Ytnidnmbicnhflaa
open Go.RowKit
set_option linter.unusedVariables false

def qtab : List Int := [1000, 0, 966, 259, 866, 500, 707, 707, 500, 866, 259, 966]
structure V2 where
  x : Int
  y : Int
def qv (q : Nat) : V2 := ⟨qtab.getD (q * 2) 0, qtab.getD (q * 2 + 1) 0⟩
def rotv : Nat → V2 → V2
  | 0, p => p
  | k + 1, p => rotv k ⟨-p.y, p.x⟩
def vecN (d : Nat) : V2 := rotv (d / 6) (qv (d % 6))
def V2.small (p : V2) : Prop := -1000 ≤ p.x ∧ p.x ≤ 1000 ∧ -1000 ≤ p.y ∧ p.y ≤ 1000
theorem rotv_small : ∀ (k : Nat) {p : V2}, p.small → (rotv k p).small
  | 0, _, h => h
  | k + 1, p, h => rotv_small k (p := ⟨-p.y, p.x⟩) ⟨by have := h.2.2; show -1000 ≤ -p.y; omega, by have := h.2.2; show -p.y ≤ 1000; omega, h.1, h.2.1⟩
theorem qv_small {q : Nat} (h : q < 6) : (qv q).small := by
  rcases (by omega : q = 0 ∨ q = 1 ∨ q = 2 ∨ q = 3 ∨ q = 4 ∨ q = 5) with rfl | rfl | rfl | rfl | rfl | rfl <;> exact ⟨by decide, by decide, by decide, by decide⟩
theorem vecN_small (d : Nat) : (vecN d).small := rotv_small _ (qv_small (Nat.mod_lt _ (by decide)))
theorem Blk.two {w : World} {g : Nat} {t : TypeId} {x y : Value} (h : Blk w g t #[x, y]) (u v : Value) : Blk ((w.setCell ⟨g, 0, none⟩ u).setCell ⟨g, 1, none⟩ v) g t #[u, v] := (h.set_ 0 u).set_ 1 v
set_option maxRecDepth 100000 in
set_option maxHeartbeats 6400000 in
theorem l02Vector_any (d : Nat) (hd : d < 24) (w : World) :
    Calls Try.prog 101 #[.int .i64 (d : Int)] w fun e w' => e = .returned (.agg #[.int .i64 (vecN d).x, .int .i64 (vecN d).y]) ∧ Below w.heap.size w w' := by
  have hq6 : d % 6 < 6 := Nat.mod_lt _ (by decide)
  have HV : Hid (rotv (d / 6) (qv (d % 6)) = vecN d) := rfl
  have HS := Lib.hid (qv_small hq6)
  obtain ⟨q, hqq⟩ : ∃ q, q = d % 6 := ⟨_, rfl⟩
  have hrem : (d : Int) % 6 = (q : Int) := by omega
  rw [← hqq] at hq6 HV HS
  clear hqq
  rcases (by omega : q = 0 ∨ q = 1 ∨ q = 2 ∨ q = 3 ∨ q = 4 ∨ q = 5) with rfl | rfl | rfl | rfl | rfl | rfl
  · obtain ⟨W, hW⟩ : ∃ W : World, W = ((w.alloc (.cells #[.int .i64 0, .int .i64 0] 38)).alloc (.cells #[.int .i64 1000, .int .i64 0, .int .i64 966, .int .i64 259, .int .i64 866, .int .i64 500, .int .i64 707, .int .i64 707, .int .i64 500, .int .i64 866, .int .i64 259, .int .i64 966] 38)).alloc (.cells #[.int .i64 1000, .int .i64 0] 38) := ⟨_, rfl⟩
    have HB0 : Hid (Below w.heap.size w W) := by show _; rw [hW]; exact (((Below.refl _ _).alloc (Nat.le_refl _) _).alloc (by simp) _).alloc (by simp; omega) _
    have HP2 : Hid (Blk W w.heap.size 38 #[.int .i64 0, .int .i64 0]) := by show _; rw [hW]; exact ((Blk.new w _ _).alloc _).alloc _
    have HP3 : Hid (Blk W (w.heap.size + 2) 38 #[.int .i64 1000, .int .i64 0]) := by
      have := Blk.new ((w.alloc (.cells #[.int .i64 0, .int .i64 0] 38)).alloc (.cells #[.int .i64 1000, .int .i64 0, .int .i64 966, .int .i64 259, .int .i64 866, .int .i64 500, .int .i64 707, .int .i64 707, .int .i64 500, .int .i64 866, .int .i64 259, .int .i64 966] 38)) 38 #[.int .i64 1000, .int .i64 0]
      rw [← hW, show ((w.alloc (.cells #[.int .i64 0, .int .i64 0] 38)).alloc (.cells #[.int .i64 1000, .int .i64 0, .int .i64 966, .int .i64 259, .int .i64 866, .int .i64 500, .int .i64 707, .int .i64 707, .int .i64 500, .int .i64 866, .int .i64 259, .int .i64 966] 38)).heap.size = w.heap.size + 2 by simp] at this
      exact this
    have HV1 : Hid (rotv (d / 6) ⟨1000, 0⟩ = vecN d) := HV.out
    have HS1 : Hid (V2.small ⟨1000, 0⟩) := HS.out
    go_enter Try.func101, Try.ntmps101
    go_wp2
    rw [← hW]
    clear hW hrem HV HS
    go_loopw [0] (fun v wr => ∃ (m : Nat) (x y : Int), m < 24 ∧ v = .int .i64 (m : Int) ∧ rotv (m / 6) ⟨x, y⟩ = vecN d ∧ V2.small ⟨x, y⟩ ∧ Blk wr w.heap.size 38 #[.int .i64 0, .int .i64 0] ∧ Blk wr (w.heap.size + 2) 38 #[.int .i64 x, .int .i64 y] ∧ Below w.heap.size w wr) (fun v _ => (intOf v).toNat)
    case atStart => exact ⟨d, _, _, hd, rfl, HV1.out, HS1.out, HP2.out, HP3.out, HB0.out⟩
    case round =>
      obtain ⟨m, x, y, hm, rfl, hv, ⟨s1, s2, s3, s4⟩, hp2, hp3, hb⟩ := hrel
      dsimp only at s1 s2 s3 s4
      have HV2 := Lib.hid hv
      have HP2 := Lib.hid hp2
      have HP3 := Lib.hid hp3
      have HB := Lib.hid hb
      have hsz := hb.size
      have hl3 := hp3.lt
      have e0 : wr.cell? ⟨w.heap.size + 2, 0, none⟩ = some (.int .i64 x) := (hp3.cell 0).trans rfl
      have e1 : wr.cell? ⟨w.heap.size + 2, 1, none⟩ = some (.int .i64 y) := (hp3.cell 1).trans rfl
      have f0 := hp3.frozen 0
      have f1 := hp3.frozen 1
      have r0 : wr.cell? ⟨w.heap.size, 0, none⟩ = some (.int .i64 0) := (hp2.cell 0).trans rfl
      have r1 : wr.cell? ⟨w.heap.size, 1, none⟩ = some (.int .i64 0) := (hp2.cell 1).trans rfl
      have g0 := hp2.frozen 0
      have g1 := hp2.frozen 1
      clear hv hp2 hp3 hb
      by_cases h6 : 6 ≤ m
      · have h6i : (6 : Int) ≤ (m : Int) := by omega
        have hsub : (m : Int) - 6 = ((m - 6 : Nat) : Int) := by omega
        have HM : Hid (m / 6 = (m - 6) / 6 + 1) := by show _ = _; omega
        go_wp2
        go_roundw
        case rel => exact ⟨m - 6, -y, x, by omega, rfl, by have := HV2.out; rw [HM.out] at this; exact this, ⟨by show -1000 ≤ -y; omega, by show -y ≤ 1000; omega, s1, s2⟩, (HP2.out.far (by simp <;> omega) _).far (by simp <;> omega) _, Blk.two HP3.out _ _, (HB.out.setCell (by simp <;> omega) _).setCell (by simp <;> omega) _⟩
        case measure => simp [intOf]; omega
      · have h6i : ¬ (6 : Int) ≤ (m : Int) := by omega
        have HM : Hid (m / 6 = 0) := by show _ = _; omega
        go_wp2
        obtain ⟨W5, hW5⟩ : ∃ W5 : World, W5 = (wr.setCell ⟨w.heap.size, 0, none⟩ (.int .i64 x)).setCell ⟨w.heap.size, 1, none⟩ (.int .i64 y) := ⟨_, rfl⟩
        have P5 : Blk W5 w.heap.size 38 #[.int .i64 x, .int .i64 y] := by rw [hW5]; exact Blk.two HP2.out _ _
        have B5 : Below w.heap.size w W5 := by rw [hW5]; exact (HB.out.setCell (by simp <;> omega) _).setCell (by simp <;> omega) _
        have q0 : W5.cell? ⟨w.heap.size, 0, none⟩ = some (.int .i64 x) := (P5.cell 0).trans rfl
        have q1 : W5.cell? ⟨w.heap.size, 1, none⟩ = some (.int .i64 y) := (P5.cell 1).trans rfl
        have HE : Hid (vecN d = ⟨x, y⟩) := by
          have := HV2.out
          rw [HM.out] at this
          exact this.symm
        rw [← hW5]
        clear hW5
        exact bodyPost_ret (v := .agg #[.int .i64 x, .int .i64 y]) (by simp [results, Try.results101, go_sem, q0, q1]) rfl ⟨by rw [HE.out], B5⟩
  · obtain ⟨W, hW⟩ : ∃ W : World, W = ((w.alloc (.cells #[.int .i64 0, .int .i64 0] 38)).alloc (.cells #[.int .i64 1000, .int .i64 0, .int .i64 966, .int .i64 259, .int .i64 866, .int .i64 500, .int .i64 707, .int .i64 707, .int .i64 500, .int .i64 866, .int .i64 259, .int .i64 966] 38)).alloc (.cells #[.int .i64 966, .int .i64 259] 38) := ⟨_, rfl⟩
    have HB0 : Hid (Below w.heap.size w W) := by show _; rw [hW]; exact (((Below.refl _ _).alloc (Nat.le_refl _) _).alloc (by simp) _).alloc (by simp; omega) _
    have HP2 : Hid (Blk W w.heap.size 38 #[.int .i64 0, .int .i64 0]) := by show _; rw [hW]; exact ((Blk.new w _ _).alloc _).alloc _
    have HP3 : Hid (Blk W (w.heap.size + 2) 38 #[.int .i64 966, .int .i64 259]) := by
      have := Blk.new ((w.alloc (.cells #[.int .i64 0, .int .i64 0] 38)).alloc (.cells #[.int .i64 1000, .int .i64 0, .int .i64 966, .int .i64 259, .int .i64 866, .int .i64 500, .int .i64 707, .int .i64 707, .int .i64 500, .int .i64 866, .int .i64 259, .int .i64 966] 38)) 38 #[.int .i64 966, .int .i64 259]
      rw [← hW, show ((w.alloc (.cells #[.int .i64 0, .int .i64 0] 38)).alloc (.cells #[.int .i64 1000, .int .i64 0, .int .i64 966, .int .i64 259, .int .i64 866, .int .i64 500, .int .i64 707, .int .i64 707, .int .i64 500, .int .i64 866, .int .i64 259, .int .i64 966] 38)).heap.size = w.heap.size + 2 by simp] at this
      exact this
    have HV1 : Hid (rotv (d / 6) ⟨966, 259⟩ = vecN d) := HV.out
    have HS1 : Hid (V2.small ⟨966, 259⟩) := HS.out
    go_enter Try.func101, Try.ntmps101
    go_wp2
    rw [← hW]
    clear hW hrem HV HS
    go_loopw [0] (fun v wr => ∃ (m : Nat) (x y : Int), m < 24 ∧ v = .int .i64 (m : Int) ∧ rotv (m / 6) ⟨x, y⟩ = vecN d ∧ V2.small ⟨x, y⟩ ∧ Blk wr w.heap.size 38 #[.int .i64 0, .int .i64 0] ∧ Blk wr (w.heap.size + 2) 38 #[.int .i64 x, .int .i64 y] ∧ Below w.heap.size w wr) (fun v _ => (intOf v).toNat)
    case atStart => exact ⟨d, _, _, hd, rfl, HV1.out, HS1.out, HP2.out, HP3.out, HB0.out⟩
    case round =>
      obtain ⟨m, x, y, hm, rfl, hv, ⟨s1, s2, s3, s4⟩, hp2, hp3, hb⟩ := hrel
      dsimp only at s1 s2 s3 s4
      have HV2 := Lib.hid hv
      have HP2 := Lib.hid hp2
      have HP3 := Lib.hid hp3
      have HB := Lib.hid hb
      have hsz := hb.size
      have hl3 := hp3.lt
      have e0 : wr.cell? ⟨w.heap.size + 2, 0, none⟩ = some (.int .i64 x) := (hp3.cell 0).trans rfl
      have e1 : wr.cell? ⟨w.heap.size + 2, 1, none⟩ = some (.int .i64 y) := (hp3.cell 1).trans rfl
      have f0 := hp3.frozen 0
      have f1 := hp3.frozen 1
      have r0 : wr.cell? ⟨w.heap.size, 0, none⟩ = some (.int .i64 0) := (hp2.cell 0).trans rfl
      have r1 : wr.cell? ⟨w.heap.size, 1, none⟩ = some (.int .i64 0) := (hp2.cell 1).trans rfl
      have g0 := hp2.frozen 0
      have g1 := hp2.frozen 1
      clear hv hp2 hp3 hb
      by_cases h6 : 6 ≤ m
      · have h6i : (6 : Int) ≤ (m : Int) := by omega
        have hsub : (m : Int) - 6 = ((m - 6 : Nat) : Int) := by omega
        have HM : Hid (m / 6 = (m - 6) / 6 + 1) := by show _ = _; omega
        go_wp2
        go_roundw
        case rel => exact ⟨m - 6, -y, x, by omega, rfl, by have := HV2.out; rw [HM.out] at this; exact this, ⟨by show -1000 ≤ -y; omega, by show -y ≤ 1000; omega, s1, s2⟩, (HP2.out.far (by simp <;> omega) _).far (by simp <;> omega) _, Blk.two HP3.out _ _, (HB.out.setCell (by simp <;> omega) _).setCell (by simp <;> omega) _⟩
        case measure => simp [intOf]; omega
      · have h6i : ¬ (6 : Int) ≤ (m : Int) := by omega
        have HM : Hid (m / 6 = 0) := by show _ = _; omega
        go_wp2
        obtain ⟨W5, hW5⟩ : ∃ W5 : World, W5 = (wr.setCell ⟨w.heap.size, 0, none⟩ (.int .i64 x)).setCell ⟨w.heap.size, 1, none⟩ (.int .i64 y) := ⟨_, rfl⟩
        have P5 : Blk W5 w.heap.size 38 #[.int .i64 x, .int .i64 y] := by rw [hW5]; exact Blk.two HP2.out _ _
        have B5 : Below w.heap.size w W5 := by rw [hW5]; exact (HB.out.setCell (by simp <;> omega) _).setCell (by simp <;> omega) _
        have q0 : W5.cell? ⟨w.heap.size, 0, none⟩ = some (.int .i64 x) := (P5.cell 0).trans rfl
        have q1 : W5.cell? ⟨w.heap.size, 1, none⟩ = some (.int .i64 y) := (P5.cell 1).trans rfl
        have HE : Hid (vecN d = ⟨x, y⟩) := by
          have := HV2.out
          rw [HM.out] at this
          exact this.symm
        rw [← hW5]
        clear hW5
        exact bodyPost_ret (v := .agg #[.int .i64 x, .int .i64 y]) (by simp [results, Try.results101, go_sem, q0, q1]) rfl ⟨by rw [HE.out], B5⟩
  · obtain ⟨W, hW⟩ : ∃ W : World, W = ((w.alloc (.cells #[.int .i64 0, .int .i64 0] 38)).alloc (.cells #[.int .i64 1000, .int .i64 0, .int .i64 966, .int .i64 259, .int .i64 866, .int .i64 500, .int .i64 707, .int .i64 707, .int .i64 500, .int .i64 866, .int .i64 259, .int .i64 966] 38)).alloc (.cells #[.int .i64 866, .int .i64 500] 38) := ⟨_, rfl⟩
    have HB0 : Hid (Below w.heap.size w W) := by show _; rw [hW]; exact (((Below.refl _ _).alloc (Nat.le_refl _) _).alloc (by simp) _).alloc (by simp; omega) _
    have HP2 : Hid (Blk W w.heap.size 38 #[.int .i64 0, .int .i64 0]) := by show _; rw [hW]; exact ((Blk.new w _ _).alloc _).alloc _
    have HP3 : Hid (Blk W (w.heap.size + 2) 38 #[.int .i64 866, .int .i64 500]) := by
      have := Blk.new ((w.alloc (.cells #[.int .i64 0, .int .i64 0] 38)).alloc (.cells #[.int .i64 1000, .int .i64 0, .int .i64 966, .int .i64 259, .int .i64 866, .int .i64 500, .int .i64 707, .int .i64 707, .int .i64 500, .int .i64 866, .int .i64 259, .int .i64 966] 38)) 38 #[.int .i64 866, .int .i64 500]
      rw [← hW, show ((w.alloc (.cells #[.int .i64 0, .int .i64 0] 38)).alloc (.cells #[.int .i64 1000, .int .i64 0, .int .i64 966, .int .i64 259, .int .i64 866, .int .i64 500, .int .i64 707, .int .i64 707, .int .i64 500, .int .i64 866, .int .i64 259, .int .i64 966] 38)).heap.size = w.heap.size + 2 by simp] at this
      exact this
    have HV1 : Hid (rotv (d / 6) ⟨866, 500⟩ = vecN d) := HV.out
    have HS1 : Hid (V2.small ⟨866, 500⟩) := HS.out
    go_enter Try.func101, Try.ntmps101
    go_wp2
    rw [← hW]
    clear hW hrem HV HS
    go_loopw [0] (fun v wr => ∃ (m : Nat) (x y : Int), m < 24 ∧ v = .int .i64 (m : Int) ∧ rotv (m / 6) ⟨x, y⟩ = vecN d ∧ V2.small ⟨x, y⟩ ∧ Blk wr w.heap.size 38 #[.int .i64 0, .int .i64 0] ∧ Blk wr (w.heap.size + 2) 38 #[.int .i64 x, .int .i64 y] ∧ Below w.heap.size w wr) (fun v _ => (intOf v).toNat)
    case atStart => exact ⟨d, _, _, hd, rfl, HV1.out, HS1.out, HP2.out, HP3.out, HB0.out⟩
    case round =>
      obtain ⟨m, x, y, hm, rfl, hv, ⟨s1, s2, s3, s4⟩, hp2, hp3, hb⟩ := hrel
      dsimp only at s1 s2 s3 s4
      have HV2 := Lib.hid hv
      have HP2 := Lib.hid hp2
      have HP3 := Lib.hid hp3
      have HB := Lib.hid hb
      have hsz := hb.size
      have hl3 := hp3.lt
      have e0 : wr.cell? ⟨w.heap.size + 2, 0, none⟩ = some (.int .i64 x) := (hp3.cell 0).trans rfl
      have e1 : wr.cell? ⟨w.heap.size + 2, 1, none⟩ = some (.int .i64 y) := (hp3.cell 1).trans rfl
      have f0 := hp3.frozen 0
      have f1 := hp3.frozen 1
      have r0 : wr.cell? ⟨w.heap.size, 0, none⟩ = some (.int .i64 0) := (hp2.cell 0).trans rfl
      have r1 : wr.cell? ⟨w.heap.size, 1, none⟩ = some (.int .i64 0) := (hp2.cell 1).trans rfl
      have g0 := hp2.frozen 0
      have g1 := hp2.frozen 1
      clear hv hp2 hp3 hb
      by_cases h6 : 6 ≤ m
      · have h6i : (6 : Int) ≤ (m : Int) := by omega
        have hsub : (m : Int) - 6 = ((m - 6 : Nat) : Int) := by omega
        have HM : Hid (m / 6 = (m - 6) / 6 + 1) := by show _ = _; omega
        go_wp2
        go_roundw
        case rel => exact ⟨m - 6, -y, x, by omega, rfl, by have := HV2.out; rw [HM.out] at this; exact this, ⟨by show -1000 ≤ -y; omega, by show -y ≤ 1000; omega, s1, s2⟩, (HP2.out.far (by simp <;> omega) _).far (by simp <;> omega) _, Blk.two HP3.out _ _, (HB.out.setCell (by simp <;> omega) _).setCell (by simp <;> omega) _⟩
        case measure => simp [intOf]; omega
      · have h6i : ¬ (6 : Int) ≤ (m : Int) := by omega
        have HM : Hid (m / 6 = 0) := by show _ = _; omega
        go_wp2
        obtain ⟨W5, hW5⟩ : ∃ W5 : World, W5 = (wr.setCell ⟨w.heap.size, 0, none⟩ (.int .i64 x)).setCell ⟨w.heap.size, 1, none⟩ (.int .i64 y) := ⟨_, rfl⟩
        have P5 : Blk W5 w.heap.size 38 #[.int .i64 x, .int .i64 y] := by rw [hW5]; exact Blk.two HP2.out _ _
        have B5 : Below w.heap.size w W5 := by rw [hW5]; exact (HB.out.setCell (by simp <;> omega) _).setCell (by simp <;> omega) _
        have q0 : W5.cell? ⟨w.heap.size, 0, none⟩ = some (.int .i64 x) := (P5.cell 0).trans rfl
        have q1 : W5.cell? ⟨w.heap.size, 1, none⟩ = some (.int .i64 y) := (P5.cell 1).trans rfl
        have HE : Hid (vecN d = ⟨x, y⟩) := by
          have := HV2.out
          rw [HM.out] at this
          exact this.symm
        rw [← hW5]
        clear hW5
        exact bodyPost_ret (v := .agg #[.int .i64 x, .int .i64 y]) (by simp [results, Try.results101, go_sem, q0, q1]) rfl ⟨by rw [HE.out], B5⟩
  · obtain ⟨W, hW⟩ : ∃ W : World, W = ((w.alloc (.cells #[.int .i64 0, .int .i64 0] 38)).alloc (.cells #[.int .i64 1000, .int .i64 0, .int .i64 966, .int .i64 259, .int .i64 866, .int .i64 500, .int .i64 707, .int .i64 707, .int .i64 500, .int .i64 866, .int .i64 259, .int .i64 966] 38)).alloc (.cells #[.int .i64 707, .int .i64 707] 38) := ⟨_, rfl⟩
    have HB0 : Hid (Below w.heap.size w W) := by show _; rw [hW]; exact (((Below.refl _ _).alloc (Nat.le_refl _) _).alloc (by simp) _).alloc (by simp; omega) _
    have HP2 : Hid (Blk W w.heap.size 38 #[.int .i64 0, .int .i64 0]) := by show _; rw [hW]; exact ((Blk.new w _ _).alloc _).alloc _
    have HP3 : Hid (Blk W (w.heap.size + 2) 38 #[.int .i64 707, .int .i64 707]) := by
      have := Blk.new ((w.alloc (.cells #[.int .i64 0, .int .i64 0] 38)).alloc (.cells #[.int .i64 1000, .int .i64 0, .int .i64 966, .int .i64 259, .int .i64 866, .int .i64 500, .int .i64 707, .int .i64 707, .int .i64 500, .int .i64 866, .int .i64 259, .int .i64 966] 38)) 38 #[.int .i64 707, .int .i64 707]
      rw [← hW, show ((w.alloc (.cells #[.int .i64 0, .int .i64 0] 38)).alloc (.cells #[.int .i64 1000, .int .i64 0, .int .i64 966, .int .i64 259, .int .i64 866, .int .i64 500, .int .i64 707, .int .i64 707, .int .i64 500, .int .i64 866, .int .i64 259, .int .i64 966] 38)).heap.size = w.heap.size + 2 by simp] at this
      exact this
    have HV1 : Hid (rotv (d / 6) ⟨707, 707⟩ = vecN d) := HV.out
    have HS1 : Hid (V2.small ⟨707, 707⟩) := HS.out
    go_enter Try.func101, Try.ntmps101
    go_wp2
    rw [← hW]
    clear hW hrem HV HS
    go_loopw [0] (fun v wr => ∃ (m : Nat) (x y : Int), m < 24 ∧ v = .int .i64 (m : Int) ∧ rotv (m / 6) ⟨x, y⟩ = vecN d ∧ V2.small ⟨x, y⟩ ∧ Blk wr w.heap.size 38 #[.int .i64 0, .int .i64 0] ∧ Blk wr (w.heap.size + 2) 38 #[.int .i64 x, .int .i64 y] ∧ Below w.heap.size w wr) (fun v _ => (intOf v).toNat)
    case atStart => exact ⟨d, _, _, hd, rfl, HV1.out, HS1.out, HP2.out, HP3.out, HB0.out⟩
    case round =>
      obtain ⟨m, x, y, hm, rfl, hv, ⟨s1, s2, s3, s4⟩, hp2, hp3, hb⟩ := hrel
      dsimp only at s1 s2 s3 s4
      have HV2 := Lib.hid hv
      have HP2 := Lib.hid hp2
      have HP3 := Lib.hid hp3
      have HB := Lib.hid hb
      have hsz := hb.size
      have hl3 := hp3.lt
      have e0 : wr.cell? ⟨w.heap.size + 2, 0, none⟩ = some (.int .i64 x) := (hp3.cell 0).trans rfl
      have e1 : wr.cell? ⟨w.heap.size + 2, 1, none⟩ = some (.int .i64 y) := (hp3.cell 1).trans rfl
      have f0 := hp3.frozen 0
      have f1 := hp3.frozen 1
      have r0 : wr.cell? ⟨w.heap.size, 0, none⟩ = some (.int .i64 0) := (hp2.cell 0).trans rfl
      have r1 : wr.cell? ⟨w.heap.size, 1, none⟩ = some (.int .i64 0) := (hp2.cell 1).trans rfl
      have g0 := hp2.frozen 0
      have g1 := hp2.frozen 1
      clear hv hp2 hp3 hb
      by_cases h6 : 6 ≤ m
      · have h6i : (6 : Int) ≤ (m : Int) := by omega
        have hsub : (m : Int) - 6 = ((m - 6 : Nat) : Int) := by omega
        have HM : Hid (m / 6 = (m - 6) / 6 + 1) := by show _ = _; omega
        go_wp2
        go_roundw
        case rel => exact ⟨m - 6, -y, x, by omega, rfl, by have := HV2.out; rw [HM.out] at this; exact this, ⟨by show -1000 ≤ -y; omega, by show -y ≤ 1000; omega, s1, s2⟩, (HP2.out.far (by simp <;> omega) _).far (by simp <;> omega) _, Blk.two HP3.out _ _, (HB.out.setCell (by simp <;> omega) _).setCell (by simp <;> omega) _⟩
        case measure => simp [intOf]; omega
      · have h6i : ¬ (6 : Int) ≤ (m : Int) := by omega
        have HM : Hid (m / 6 = 0) := by show _ = _; omega
        go_wp2
        obtain ⟨W5, hW5⟩ : ∃ W5 : World, W5 = (wr.setCell ⟨w.heap.size, 0, none⟩ (.int .i64 x)).setCell ⟨w.heap.size, 1, none⟩ (.int .i64 y) := ⟨_, rfl⟩
        have P5 : Blk W5 w.heap.size 38 #[.int .i64 x, .int .i64 y] := by rw [hW5]; exact Blk.two HP2.out _ _
        have B5 : Below w.heap.size w W5 := by rw [hW5]; exact (HB.out.setCell (by simp <;> omega) _).setCell (by simp <;> omega) _
        have q0 : W5.cell? ⟨w.heap.size, 0, none⟩ = some (.int .i64 x) := (P5.cell 0).trans rfl
        have q1 : W5.cell? ⟨w.heap.size, 1, none⟩ = some (.int .i64 y) := (P5.cell 1).trans rfl
        have HE : Hid (vecN d = ⟨x, y⟩) := by
          have := HV2.out
          rw [HM.out] at this
          exact this.symm
        rw [← hW5]
        clear hW5
        exact bodyPost_ret (v := .agg #[.int .i64 x, .int .i64 y]) (by simp [results, Try.results101, go_sem, q0, q1]) rfl ⟨by rw [HE.out], B5⟩
  · obtain ⟨W, hW⟩ : ∃ W : World, W = ((w.alloc (.cells #[.int .i64 0, .int .i64 0] 38)).alloc (.cells #[.int .i64 1000, .int .i64 0, .int .i64 966, .int .i64 259, .int .i64 866, .int .i64 500, .int .i64 707, .int .i64 707, .int .i64 500, .int .i64 866, .int .i64 259, .int .i64 966] 38)).alloc (.cells #[.int .i64 500, .int .i64 866] 38) := ⟨_, rfl⟩
    have HB0 : Hid (Below w.heap.size w W) := by show _; rw [hW]; exact (((Below.refl _ _).alloc (Nat.le_refl _) _).alloc (by simp) _).alloc (by simp; omega) _
    have HP2 : Hid (Blk W w.heap.size 38 #[.int .i64 0, .int .i64 0]) := by show _; rw [hW]; exact ((Blk.new w _ _).alloc _).alloc _
    have HP3 : Hid (Blk W (w.heap.size + 2) 38 #[.int .i64 500, .int .i64 866]) := by
      have := Blk.new ((w.alloc (.cells #[.int .i64 0, .int .i64 0] 38)).alloc (.cells #[.int .i64 1000, .int .i64 0, .int .i64 966, .int .i64 259, .int .i64 866, .int .i64 500, .int .i64 707, .int .i64 707, .int .i64 500, .int .i64 866, .int .i64 259, .int .i64 966] 38)) 38 #[.int .i64 500, .int .i64 866]
      rw [← hW, show ((w.alloc (.cells #[.int .i64 0, .int .i64 0] 38)).alloc (.cells #[.int .i64 1000, .int .i64 0, .int .i64 966, .int .i64 259, .int .i64 866, .int .i64 500, .int .i64 707, .int .i64 707, .int .i64 500, .int .i64 866, .int .i64 259, .int .i64 966] 38)).heap.size = w.heap.size + 2 by simp] at this
      exact this
    have HV1 : Hid (rotv (d / 6) ⟨500, 866⟩ = vecN d) := HV.out
    have HS1 : Hid (V2.small ⟨500, 866⟩) := HS.out
    go_enter Try.func101, Try.ntmps101
    go_wp2
    rw [← hW]
    clear hW hrem HV HS
    go_loopw [0] (fun v wr => ∃ (m : Nat) (x y : Int), m < 24 ∧ v = .int .i64 (m : Int) ∧ rotv (m / 6) ⟨x, y⟩ = vecN d ∧ V2.small ⟨x, y⟩ ∧ Blk wr w.heap.size 38 #[.int .i64 0, .int .i64 0] ∧ Blk wr (w.heap.size + 2) 38 #[.int .i64 x, .int .i64 y] ∧ Below w.heap.size w wr) (fun v _ => (intOf v).toNat)
    case atStart => exact ⟨d, _, _, hd, rfl, HV1.out, HS1.out, HP2.out, HP3.out, HB0.out⟩
    case round =>
      obtain ⟨m, x, y, hm, rfl, hv, ⟨s1, s2, s3, s4⟩, hp2, hp3, hb⟩ := hrel
      dsimp only at s1 s2 s3 s4
      have HV2 := Lib.hid hv
      have HP2 := Lib.hid hp2
      have HP3 := Lib.hid hp3
      have HB := Lib.hid hb
      have hsz := hb.size
      have hl3 := hp3.lt
      have e0 : wr.cell? ⟨w.heap.size + 2, 0, none⟩ = some (.int .i64 x) := (hp3.cell 0).trans rfl
      have e1 : wr.cell? ⟨w.heap.size + 2, 1, none⟩ = some (.int .i64 y) := (hp3.cell 1).trans rfl
      have f0 := hp3.frozen 0
      have f1 := hp3.frozen 1
      have r0 : wr.cell? ⟨w.heap.size, 0, none⟩ = some (.int .i64 0) := (hp2.cell 0).trans rfl
      have r1 : wr.cell? ⟨w.heap.size, 1, none⟩ = some (.int .i64 0) := (hp2.cell 1).trans rfl
      have g0 := hp2.frozen 0
      have g1 := hp2.frozen 1
      clear hv hp2 hp3 hb
      by_cases h6 : 6 ≤ m
      · have h6i : (6 : Int) ≤ (m : Int) := by omega
        have hsub : (m : Int) - 6 = ((m - 6 : Nat) : Int) := by omega
        have HM : Hid (m / 6 = (m - 6) / 6 + 1) := by show _ = _; omega
        go_wp2
        go_roundw
        case rel => exact ⟨m - 6, -y, x, by omega, rfl, by have := HV2.out; rw [HM.out] at this; exact this, ⟨by show -1000 ≤ -y; omega, by show -y ≤ 1000; omega, s1, s2⟩, (HP2.out.far (by simp <;> omega) _).far (by simp <;> omega) _, Blk.two HP3.out _ _, (HB.out.setCell (by simp <;> omega) _).setCell (by simp <;> omega) _⟩
        case measure => simp [intOf]; omega
      · have h6i : ¬ (6 : Int) ≤ (m : Int) := by omega
        have HM : Hid (m / 6 = 0) := by show _ = _; omega
        go_wp2
        obtain ⟨W5, hW5⟩ : ∃ W5 : World, W5 = (wr.setCell ⟨w.heap.size, 0, none⟩ (.int .i64 x)).setCell ⟨w.heap.size, 1, none⟩ (.int .i64 y) := ⟨_, rfl⟩
        have P5 : Blk W5 w.heap.size 38 #[.int .i64 x, .int .i64 y] := by rw [hW5]; exact Blk.two HP2.out _ _
        have B5 : Below w.heap.size w W5 := by rw [hW5]; exact (HB.out.setCell (by simp <;> omega) _).setCell (by simp <;> omega) _
        have q0 : W5.cell? ⟨w.heap.size, 0, none⟩ = some (.int .i64 x) := (P5.cell 0).trans rfl
        have q1 : W5.cell? ⟨w.heap.size, 1, none⟩ = some (.int .i64 y) := (P5.cell 1).trans rfl
        have HE : Hid (vecN d = ⟨x, y⟩) := by
          have := HV2.out
          rw [HM.out] at this
          exact this.symm
        rw [← hW5]
        clear hW5
        exact bodyPost_ret (v := .agg #[.int .i64 x, .int .i64 y]) (by simp [results, Try.results101, go_sem, q0, q1]) rfl ⟨by rw [HE.out], B5⟩
  · obtain ⟨W, hW⟩ : ∃ W : World, W = ((w.alloc (.cells #[.int .i64 0, .int .i64 0] 38)).alloc (.cells #[.int .i64 1000, .int .i64 0, .int .i64 966, .int .i64 259, .int .i64 866, .int .i64 500, .int .i64 707, .int .i64 707, .int .i64 500, .int .i64 866, .int .i64 259, .int .i64 966] 38)).alloc (.cells #[.int .i64 259, .int .i64 966] 38) := ⟨_, rfl⟩
    have HB0 : Hid (Below w.heap.size w W) := by show _; rw [hW]; exact (((Below.refl _ _).alloc (Nat.le_refl _) _).alloc (by simp) _).alloc (by simp; omega) _
    have HP2 : Hid (Blk W w.heap.size 38 #[.int .i64 0, .int .i64 0]) := by show _; rw [hW]; exact ((Blk.new w _ _).alloc _).alloc _
    have HP3 : Hid (Blk W (w.heap.size + 2) 38 #[.int .i64 259, .int .i64 966]) := by
      have := Blk.new ((w.alloc (.cells #[.int .i64 0, .int .i64 0] 38)).alloc (.cells #[.int .i64 1000, .int .i64 0, .int .i64 966, .int .i64 259, .int .i64 866, .int .i64 500, .int .i64 707, .int .i64 707, .int .i64 500, .int .i64 866, .int .i64 259, .int .i64 966] 38)) 38 #[.int .i64 259, .int .i64 966]
      rw [← hW, show ((w.alloc (.cells #[.int .i64 0, .int .i64 0] 38)).alloc (.cells #[.int .i64 1000, .int .i64 0, .int .i64 966, .int .i64 259, .int .i64 866, .int .i64 500, .int .i64 707, .int .i64 707, .int .i64 500, .int .i64 866, .int .i64 259, .int .i64 966] 38)).heap.size = w.heap.size + 2 by simp] at this
      exact this
    have HV1 : Hid (rotv (d / 6) ⟨259, 966⟩ = vecN d) := HV.out
    have HS1 : Hid (V2.small ⟨259, 966⟩) := HS.out
    go_enter Try.func101, Try.ntmps101
    go_wp2
    rw [← hW]
    clear hW hrem HV HS
    go_loopw [0] (fun v wr => ∃ (m : Nat) (x y : Int), m < 24 ∧ v = .int .i64 (m : Int) ∧ rotv (m / 6) ⟨x, y⟩ = vecN d ∧ V2.small ⟨x, y⟩ ∧ Blk wr w.heap.size 38 #[.int .i64 0, .int .i64 0] ∧ Blk wr (w.heap.size + 2) 38 #[.int .i64 x, .int .i64 y] ∧ Below w.heap.size w wr) (fun v _ => (intOf v).toNat)
    case atStart => exact ⟨d, _, _, hd, rfl, HV1.out, HS1.out, HP2.out, HP3.out, HB0.out⟩
    case round =>
      obtain ⟨m, x, y, hm, rfl, hv, ⟨s1, s2, s3, s4⟩, hp2, hp3, hb⟩ := hrel
      dsimp only at s1 s2 s3 s4
      have HV2 := Lib.hid hv
      have HP2 := Lib.hid hp2
      have HP3 := Lib.hid hp3
      have HB := Lib.hid hb
      have hsz := hb.size
      have hl3 := hp3.lt
      have e0 : wr.cell? ⟨w.heap.size + 2, 0, none⟩ = some (.int .i64 x) := (hp3.cell 0).trans rfl
      have e1 : wr.cell? ⟨w.heap.size + 2, 1, none⟩ = some (.int .i64 y) := (hp3.cell 1).trans rfl
      have f0 := hp3.frozen 0
      have f1 := hp3.frozen 1
      have r0 : wr.cell? ⟨w.heap.size, 0, none⟩ = some (.int .i64 0) := (hp2.cell 0).trans rfl
      have r1 : wr.cell? ⟨w.heap.size, 1, none⟩ = some (.int .i64 0) := (hp2.cell 1).trans rfl
      have g0 := hp2.frozen 0
      have g1 := hp2.frozen 1
      clear hv hp2 hp3 hb
      by_cases h6 : 6 ≤ m
      · have h6i : (6 : Int) ≤ (m : Int) := by omega
        have hsub : (m : Int) - 6 = ((m - 6 : Nat) : Int) := by omega
        have HM : Hid (m / 6 = (m - 6) / 6 + 1) := by show _ = _; omega
        go_wp2
        go_roundw
        case rel => exact ⟨m - 6, -y, x, by omega, rfl, by have := HV2.out; rw [HM.out] at this; exact this, ⟨by show -1000 ≤ -y; omega, by show -y ≤ 1000; omega, s1, s2⟩, (HP2.out.far (by simp <;> omega) _).far (by simp <;> omega) _, Blk.two HP3.out _ _, (HB.out.setCell (by simp <;> omega) _).setCell (by simp <;> omega) _⟩
        case measure => simp [intOf]; omega
      · have h6i : ¬ (6 : Int) ≤ (m : Int) := by omega
        have HM : Hid (m / 6 = 0) := by show _ = _; omega
        go_wp2
        obtain ⟨W5, hW5⟩ : ∃ W5 : World, W5 = (wr.setCell ⟨w.heap.size, 0, none⟩ (.int .i64 x)).setCell ⟨w.heap.size, 1, none⟩ (.int .i64 y) := ⟨_, rfl⟩
        have P5 : Blk W5 w.heap.size 38 #[.int .i64 x, .int .i64 y] := by rw [hW5]; exact Blk.two HP2.out _ _
        have B5 : Below w.heap.size w W5 := by rw [hW5]; exact (HB.out.setCell (by simp <;> omega) _).setCell (by simp <;> omega) _
        have q0 : W5.cell? ⟨w.heap.size, 0, none⟩ = some (.int .i64 x) := (P5.cell 0).trans rfl
        have q1 : W5.cell? ⟨w.heap.size, 1, none⟩ = some (.int .i64 y) := (P5.cell 1).trans rfl
        have HE : Hid (vecN d = ⟨x, y⟩) := by
          have := HV2.out
          rw [HM.out] at this
          exact this.symm
        rw [← hW5]
        clear hW5
        exact bodyPost_ret (v := .agg #[.int .i64 x, .int .i64 y]) (by simp [results, Try.results101, go_sem, q0, q1]) rfl ⟨by rw [HE.out], B5⟩
end Go.Proofs.Ytnidnmbicnhflaa
