/- DismantleOrder of the program: its closures, and the searches at them. -/
import Derived.Test.YtencnldflnbdiaaDisLaw
import Derived.Test.YtencnldflnbdiaaSites
import Derived.Test.YtencnldflnbdiaaAbles2
import Derived.Test.YtencnldflnbdiaaRInt64
import Derived.RegionTactic
import Derived.BigRegion
namespace Go.Proofs.Ytencnldflnbdiaa
open Go.RowKit Go.Sort
set_option linter.unusedVariables false

set_option maxHeartbeats 400000 in
theorem nearM_any (ax ay bx by_ m : Int) (w : World) (h1 : Plc ax ay) (h2 : Plc bx by_) (hm : 0 ≤ m ∧ m ≤ 1000) :
    Calls Try.prog 43 #[.agg #[.int .i64 ax, .int .i64 ay], .agg #[.int .i64 bx, .int .i64 by_], .int .i64 m] w fun e w' => e = .returned (.bool (decide (sqD ax ay bx by_ ≤ m * m))) ∧ Below w.heap.size w w' := by
  have hmm : 0 ≤ m * m ∧ m * m ≤ 1000000 := ⟨Int.mul_nonneg hm.1 hm.1, Int.mul_le_mul hm.2 hm.2 hm.1 (by omega)⟩
  go_enter Try.func43, Try.ntmps43
  go_wp2_with fail
  refine (square_any _ _ _ _ h1 h2 _).mono ?_
  rintro e w1 ⟨rfl, hb⟩
  go_wp2
  go_ret
  exact ⟨rfl, (((Below.refl _ _).alloc (Nat.le_refl _) _).alloc (by simp) _).trans (hb.mono (by simp; omega))⟩

/-- the site's box -/
def SiteAt (w : World) (b : Nat) (s : Row Crane) : Prop := w.cell? ⟨b, 0, none⟩ = some (.slice s.a s.n s.cap)
/-- does crane k, which is left, take crane i -/
def tk (cs : List CV) (i : Nat) (k : Int) : Bool := !decide (k = (i : Int)) && takesAt cs k.toNat i
set_option maxRecDepth 100000 in
set_option maxHeartbeats 1600000 in
theorem disTake_any (b9 b2 i k : Nat) (s : Row Crane) (cs : List CV) (hv : s.xs.map Crane.val = cs) (w : World) (lo : Nat) (hs : SiteAt w b9 s) (hb9 : b9 < w.heap.size) (hi9 : w.cell? ⟨b2, 0, none⟩ = some (.int .i64 (i : Int))) (hb2 : b2 < w.heap.size) (h : Cranes w lo w.heap.size s.a s.n s.xs) (hn : s.n ≤ 1048576) (hok : siteOk cs = true) (hi : i < s.n) (hk : k < s.n) :
    Calls Try.prog 42 #[.int .i64 (k : Int), .pointer (some ⟨b9, 0, none⟩), .pointer (some ⟨b2, 0, none⟩)] w fun e w' => e = .returned (.bool (tk cs i (k : Int))) ∧ Below w.heap.size w w' := by
  obtain ⟨A, n, c, ps⟩ := s
  unfold SiteAt at hs
  dsimp only at *
  obtain ⟨b, off, p, eA, hx, _, hbl, _, c0, c1, c2, c3, c4, c5, c6⟩ := Crane.at h hi
  obtain ⟨b', off', q, eA', hy, _, hbl', _, d0, d1, d2, d3, d4, d5, d6⟩ := Crane.at h hk
  rw [eA] at eA'
  cases eA'
  subst eA
  have HX := Lib.hid (cv_at hv hx)
  have HY := Lib.hid (cv_at hv hy)
  have hkn : (k : Int) < (n : Int) := by omega
  have hk0 : (0 : Int) ≤ (k : Int) := by omega
  have hin : (i : Int) < (n : Int) := by omega
  have hi0 : (0 : Int) ≤ (i : Int) := by omega
  have HOK := Lib.hid hok
  clear h hx hy hv hok
  have pp := craneOk_parts (siteOk_at HOK.out HX.out)
  have qp := craneOk_parts (siteOk_at HOK.out HY.out)
  have hpp : Plc p.v.ax p.v.ay := pp.at_
  have hqp : Plc q.v.ax q.v.ay := qp.at_
  have hjb : 0 ≤ q.v.jib ∧ q.v.jib ≤ 1000 := by have h9 : 1 ≤ q.v.jib ∧ q.v.jib ≤ 1000 := qp.jib; exact ⟨by omega, h9.2⟩
  have HPP := Lib.hid hpp
  have HQP := Lib.hid hqp
  have HJB := Lib.hid hjb
  clear pp qp hpp hqp hjb HOK
  by_cases hki : k = i
  · have HT : Hid (tk cs i (k : Int) = false) := by show _ = _; unfold tk; rw [decide_eq_true (by omega)]; rfl
    clear HX HY
    subst hki
    go_enter Try.func42, Try.ntmps42
    go_wp2_with fail
    go_region
    all_goals
      go_wp2
      go_ret
      exact ⟨by rw [HT.out]; rfl, (((Below.refl _ _).alloc (Nat.le_refl _) _).alloc (by simp) _).drew⟩
  · have hne : ¬ (k : Int) = (i : Int) := by omega
    by_cases hh : p.v.height < q.v.height
    · have HT : Hid (tk cs i (k : Int) = decide (sqD p.v.ax p.v.ay q.v.ax q.v.ay ≤ q.v.jib * q.v.jib)) := by
        show _ = _; unfold tk
        rw [decide_eq_false (by omega), Int.toNat_natCast, takesAt_of HY.out HX.out]
        unfold takesB
        rw [decide_eq_true (show (Crane.val p).1.height < (Crane.val q).1.height from hh)]; rfl
      clear HX HY hki
      go_enter Try.func42, Try.ntmps42
      go_wp2_with fail
      go_region
      all_goals
        go_wp2_with fail
        refine (nearM_any _ _ _ _ _ _ HPP.out HQP.out HJB.out).mono ?_
        rintro e w1 ⟨rfl, hb1⟩
        go_wp2
        go_ret
        refine ⟨?_, ?_⟩
        · rw [HT.out]
          show Ending.returned (.bool ((k : Int) != (i : Int) && decide (sqD p.v.ax p.v.ay q.v.ax q.v.ay ≤ q.v.jib * q.v.jib))) = _
          rw [show ((k : Int) != (i : Int)) = true from bne_iff_ne.2 hne]; rfl
        exact (((Below.refl _ _).alloc (Nat.le_refl _) _).alloc (by simp) _).drew.trans (hb1.mono (by simp; omega))
    · have HT : Hid (tk cs i (k : Int) = false) := by
        show _ = _; unfold tk
        rw [decide_eq_false (by omega), Int.toNat_natCast, takesAt_of HY.out HX.out]
        unfold takesB
        rw [decide_eq_false (show ¬ (Crane.val p).1.height < (Crane.val q).1.height from hh)]; rfl
      have hh2 : q.v.height ≤ p.v.height := by omega
      clear HX HY hki hh
      go_enter Try.func42, Try.ntmps42
      go_wp2_with fail
      go_region
      all_goals
        go_wp2
        go_ret
        exact ⟨by rw [HT.out]; rfl, (((Below.refl _ _).alloc (Nat.le_refl _) _).alloc (by simp) _).drew⟩
end Go.Proofs.Ytencnldflnbdiaa
