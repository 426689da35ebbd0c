/- Distances: the program's pointSquare and meet. -/
import Derived.Test.YtdhobglhjdgboaaDoorDist1
import Derived.Test.YtdhobglhjdgboaaDoorGcd
namespace Go.Proofs.YtdhobglhjdgboaaDoor
open Go.RowKit
set_option linter.unusedVariables false

theorem box_spf (w : World) (a : Seg) (p : Pt) {W : World} (hW : W = ((w.alloc (.cells #[.int .i64 a.ax, .int .i64 a.ay, .int .i64 a.bx, .int .i64 a.by_] 72)).alloc (.cells #[.int .i64 p.x, .int .i64 p.y] 41)).alloc (.cells #[.int .i64 0, .int .i64 0] 76)) :
    SgB W w.heap.size a ∧ PtB W (w.heap.size + 1) p ∧ FrB W (w.heap.size + 1 + 1) ⟨0, 0⟩ ∧ Below w.heap.size w W := by
  obtain ⟨h1, h2, h3⟩ := box_sp w a p rfl
  subst hW
  refine ⟨Blk.alloc h1 _, Blk.alloc h2 _, Blk.new_at rfl (by simp), h3.alloc (by simp; omega) _⟩
theorem box_ssf (w : World) (a b : Seg) {W : World} (hW : W = ((w.alloc (.cells #[.int .i64 a.ax, .int .i64 a.ay, .int .i64 a.bx, .int .i64 a.by_] 72)).alloc (.cells #[.int .i64 b.ax, .int .i64 b.ay, .int .i64 b.bx, .int .i64 b.by_] 72)).alloc (.cells #[.int .i64 0, .int .i64 0] 76)) :
    SgB W w.heap.size a ∧ SgB W (w.heap.size + 1) b ∧ FrB W (w.heap.size + 1 + 1) ⟨0, 0⟩ ∧ Below w.heap.size w W := by
  obtain ⟨h1, h2, h3⟩ := box_ss w a b rfl
  subst hW
  refine ⟨Blk.alloc h1 _, Blk.alloc h2 _, Blk.new_at rfl (by simp), h3.alloc (by simp; omega) _⟩
theorem mul_wrap {a b : Int} (ha : -1200 ≤ a ∧ a ≤ 1200) (hb : -1200 ≤ b ∧ b ≤ 1200) : IntKind.i64.wrap (a * b) = a * b ∧ (-1440000 ≤ a * b ∧ a * b ≤ 1440000) := by
  have := mul_bd (M := 1200) (N := 1200) ha hb (by omega) (by omega)
  exact ⟨wrapI (by omega), by omega⟩

set_option maxRecDepth 100000 in
set_option maxHeartbeats 2000000 in
theorem pointSquareS_any (s : Seg) (p : Pt) (w : World) (hs : s.ok) (hp : p.ok) :
    Calls Tryd.prog 109 #[.agg #[.int .i64 s.ax, .int .i64 s.ay, .int .i64 s.bx, .int .i64 s.by_], .agg #[.int .i64 p.x, .int .i64 p.y]] w fun e w' => e = .returned (.agg #[.int .i64 (psF s p).num, .int .i64 (psF s p).den]) ∧ Below w.heap.size w w' := by
  obtain ⟨a1, a2, a3, a4⟩ := id hs
  obtain ⟨b1, b2⟩ := id hp
  obtain ⟨W, hW⟩ : ∃ W : World, W = ((w.alloc (.cells #[.int .i64 s.ax, .int .i64 s.ay, .int .i64 s.bx, .int .i64 s.by_] 72)).alloc (.cells #[.int .i64 p.x, .int .i64 p.y] 41)).alloc (.cells #[.int .i64 0, .int .i64 0] 76) := ⟨_, rfl⟩
  obtain ⟨S, T, F, B⟩ := box_spf w s p hW
  have k1 : IntKind.i64.wrap (s.bx - s.ax) = s.bx - s.ax := wrapI (by omega)
  have k2 : IntKind.i64.wrap (p.y - s.ay) = p.y - s.ay := wrapI (by omega)
  have k3 : IntKind.i64.wrap (s.by_ - s.ay) = s.by_ - s.ay := wrapI (by omega)
  have k4 : IntKind.i64.wrap (p.x - s.ax) = p.x - s.ax := wrapI (by omega)
  obtain ⟨m1, n1⟩ := mul_wrap (a := p.x - s.ax) (b := s.bx - s.ax) (by omega) (by omega)
  obtain ⟨m2, n2⟩ := mul_wrap (a := p.y - s.ay) (b := s.by_ - s.ay) (by omega) (by omega)
  obtain ⟨m3, n3⟩ := mul_wrap (a := s.bx - s.ax) (b := s.bx - s.ax) (by omega) (by omega)
  obtain ⟨m4, n4⟩ := mul_wrap (a := s.by_ - s.ay) (b := s.by_ - s.ay) (by omega) (by omega)
  have k5 : IntKind.i64.wrap ((p.x - s.ax) * (s.bx - s.ax) + (p.y - s.ay) * (s.by_ - s.ay)) = (p.x - s.ax) * (s.bx - s.ax) + (p.y - s.ay) * (s.by_ - s.ay) := wrapI (by omega)
  have k6 : IntKind.i64.wrap ((s.bx - s.ax) * (s.bx - s.ax) + (s.by_ - s.ay) * (s.by_ - s.ay)) = (s.bx - s.ax) * (s.bx - s.ax) + (s.by_ - s.ay) * (s.by_ - s.ay) := wrapI (by omega)
  have HS := Lib.hid S
  have HT := Lib.hid T
  have HF := Lib.hid F
  have HB := Lib.hid B
  have hlen := lenS_bd hs
  have HLEN := Lib.hid hlen
  have HCC := Lib.hid (cross_bd2 hs hp)
  clear B F hlen
  obtain ⟨c0, c1, c2, c3⟩ := S.cells
  obtain ⟨d0, d1⟩ := T.cells
  clear S T
  by_cases h1 : alS s p ≤ 0
  · have HP : Hid (psF s p = ⟨sqP p (ptA s), 1⟩) := by show _ = _; unfold psF; rw [if_pos h1]
    have h1' : (p.x - s.ax) * (s.bx - s.ax) + (p.y - s.ay) * (s.by_ - s.ay) ≤ 0 := h1
    clear h1
    go_enter Tryd.func109, Tryd.ntmps109
    go_wp2_with fail
    rw [← hW]
    clear hW
    go_quiet (fail)
    have hbV : Below W.heap.size W (W.drewN nq) := bel_drewN (Below.refl _ _) nq
    obtain ⟨V, hV⟩ : ∃ V, W.drewN nq = V := ⟨_, rfl⟩
    rw [hV] at hbV ⊢
    clear hV
    have HFV := Lib.hid (HF.out.bel hbV)
    clear c0 c1 c2 c3 d0 d1
    obtain ⟨c0, c1, c2, c3⟩ := (HS.out.bel hbV).cells
    obtain ⟨d0, d1⟩ := (HT.out.bel hbV).cells
    have HBV := Lib.hid (HB.out.trans (hbV.mono HB.out.size))
    clear hbV
    go_wp2_with fail
    refine (squareS_any p (ptA s) V hp (ptA_ok hs)).mono ?_
    rintro e w3 ⟨rfl, hb3⟩
    have F3 := HFV.out.bel hb3
    have HB3 := Lib.hid (HBV.out.trans (hb3.mono HBV.out.size))
    obtain ⟨c0', c1'⟩ := F3.cells
    obtain ⟨f0, f1⟩ := F3.fro
    clear hb3 F3 c0 c1 c2 c3 d0 d1
    go_wp2
    exact bodyPost_ret (v := .agg #[.int .i64 (sqP p (ptA s)), .int .i64 1]) (by simp [results, Tryd.results109, go_sem, c0', c1']) rfl ⟨by rw [HP.out], (HB3.out.setCell (p := ⟨w.heap.size + 1 + 1, 0, none⟩) (by show _ ≤ w.heap.size + 1 + 1; omega) _).setCell (p := ⟨w.heap.size + 1 + 1, 1, none⟩) (by show _ ≤ w.heap.size + 1 + 1; omega) _⟩
  · have h1' : ¬ (p.x - s.ax) * (s.bx - s.ax) + (p.y - s.ay) * (s.by_ - s.ay) ≤ 0 := h1
    by_cases h2 : lenS s ≤ alS s p
    · have HP : Hid (psF s p = ⟨sqP p (ptB s), 1⟩) := by show _ = _; unfold psF; rw [if_neg h1, if_pos h2]
      have h2' : (s.bx - s.ax) * (s.bx - s.ax) + (s.by_ - s.ay) * (s.by_ - s.ay) ≤ (p.x - s.ax) * (s.bx - s.ax) + (p.y - s.ay) * (s.by_ - s.ay) := h2
      clear h1 h2
      go_enter Tryd.func109, Tryd.ntmps109
      go_wp2_with fail
      rw [← hW]
      clear hW
      go_quiet (fail)
      have hbV : Below W.heap.size W (W.drewN nq) := bel_drewN (Below.refl _ _) nq
      obtain ⟨V, hV⟩ : ∃ V, W.drewN nq = V := ⟨_, rfl⟩
      rw [hV] at hbV ⊢
      clear hV
      have HFV := Lib.hid (HF.out.bel hbV)
      clear c0 c1 c2 c3 d0 d1
      obtain ⟨c0, c1, c2, c3⟩ := (HS.out.bel hbV).cells
      obtain ⟨d0, d1⟩ := (HT.out.bel hbV).cells
      have HBV := Lib.hid (HB.out.trans (hbV.mono HB.out.size))
      clear hbV
      go_wp2_with fail
      refine (squareS_any p (ptB s) V hp (ptB_ok hs)).mono ?_
      rintro e w3 ⟨rfl, hb3⟩
      have F3 := HFV.out.bel hb3
      have HB3 := Lib.hid (HBV.out.trans (hb3.mono HBV.out.size))
      obtain ⟨c0', c1'⟩ := F3.cells
      obtain ⟨f0, f1⟩ := F3.fro
      clear hb3 F3 c0 c1 c2 c3 d0 d1
      go_wp2
      exact bodyPost_ret (v := .agg #[.int .i64 (sqP p (ptB s)), .int .i64 1]) (by simp [results, Tryd.results109, go_sem, c0', c1']) rfl ⟨by rw [HP.out], (HB3.out.setCell (p := ⟨w.heap.size + 1 + 1, 0, none⟩) (by show _ ≤ w.heap.size + 1 + 1; omega) _).setCell (p := ⟨w.heap.size + 1 + 1, 1, none⟩) (by show _ ≤ w.heap.size + 1 + 1; omega) _⟩
    · have HP : Hid (psF s p = redF (crossS s p * crossS s p).toNat (lenS s).toNat) := by show _ = _; unfold psF; rw [if_neg h1, if_neg h2]
      have h2' : ¬ (s.bx - s.ax) * (s.bx - s.ax) + (s.by_ - s.ay) * (s.by_ - s.ay) ≤ (p.x - s.ax) * (s.bx - s.ax) + (p.y - s.ay) * (s.by_ - s.ay) := h2
      obtain ⟨q, hq⟩ := Int.eq_ofNat_of_zero_le (sq_nn (crossS s p))
      obtain ⟨l, hl⟩ := Int.eq_ofNat_of_zero_le HLEN.out.1
      have HCR : Hid (IntKind.i64.wrap (crossS s p * crossS s p) = (q : Int)) := by show _ = _; rw [hq]; exact wrapI (by have := HCC.out; omega)
      have HL : Hid ((s.bx - s.ax) * (s.bx - s.ax) + (s.by_ - s.ay) * (s.by_ - s.ay) = (l : Int)) := hl
      have hq2 : q ≤ 8294400000000 := by have := HCC.out; omega
      have hl2 : l ≤ 2880000 := by have := HLEN.out; omega
      have hl0 : 0 < l := by have := HLEN.out; omega
      rw [hq, hl] at HP
      simp only [Int.toNat_natCast] at HP
      clear h1 h2 hq hl
      go_enter Tryd.func109, Tryd.ntmps109
      go_wp2_with fail
      rw [← hW]
      clear hW
      go_quiet (fail)
      have hbV : Below W.heap.size W (W.drewN nq) := bel_drewN (Below.refl _ _) nq
      obtain ⟨V, hV⟩ : ∃ V, W.drewN nq = V := ⟨_, rfl⟩
      rw [hV] at hbV ⊢
      clear hV
      have HFV := Lib.hid (HF.out.bel hbV)
      clear c0 c1 c2 c3 d0 d1
      obtain ⟨c0, c1, c2, c3⟩ := (HS.out.bel hbV).cells
      obtain ⟨d0, d1⟩ := (HT.out.bel hbV).cells
      have HBV := Lib.hid (HB.out.trans (hbV.mono HB.out.size))
      clear hbV
      go_wp2_with fail
      refine (sideS_any s p V hs hp).mono ?_
      rintro e w3 ⟨rfl, hb3⟩
      have HF3 := Lib.hid (HFV.out.bel hb3)
      have HB3 := Lib.hid (HBV.out.trans (hb3.mono HBV.out.size))
      have hcr := HCR.out
      rw [HL.out]
      clear hb3 c0 c1 c2 c3 d0 d1 k1 k2 k3 k4 k5 k6 m1 m2 m3 m4 h1' h2'
      go_wp2_with fail
      refine (reduced_any q l (by omega) (by omega) hl0 w3).mono ?_
      rintro e w4 ⟨rfl, hb4⟩
      have F4 := HF3.out.bel hb4
      have HB4 := Lib.hid (HB3.out.trans (hb4.mono HB3.out.size))
      obtain ⟨c0', c1'⟩ := F4.cells
      obtain ⟨f0, f1⟩ := F4.fro
      clear hb4 F4
      go_wp2
      exact bodyPost_ret (v := .agg #[.int .i64 (q / Nat.gcd q l : Nat), .int .i64 (l / Nat.gcd q l : Nat)]) (by simp [results, Tryd.results109, go_sem, c0', c1']) rfl ⟨by rw [HP.out]; rfl, (HB4.out.setCell (p := ⟨w.heap.size + 1 + 1, 0, none⟩) (by show _ ≤ w.heap.size + 1 + 1; omega) _).setCell (p := ⟨w.heap.size + 1 + 1, 1, none⟩) (by show _ ≤ w.heap.size + 1 + 1; omega) _⟩
end Go.Proofs.YtdhobglhjdgboaaDoor
