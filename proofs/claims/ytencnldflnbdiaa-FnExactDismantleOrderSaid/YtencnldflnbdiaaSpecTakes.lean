/- l23Takes of the reference: takesB. -/
import Derived.Test.YtencnldflnbdiaaDisLaw
import Derived.Test.YtencnldflnbdiaaSites
import Derived.Test.YtencnldflnbdiaaAbles2
namespace Go.Proofs.Ytencnldflnbdiaa
open Go.RowKit Go.Sort
set_option linter.unusedVariables false

set_option maxHeartbeats 400000 in
theorem l04FarM_any (ax ay bx by_ m : Int) (w : World) (h1 : Plc ax ay) (h2 : Plc bx by_) (hm : 0 ≤ m ∧ m ≤ 1000) :
    Calls Try.prog 73 #[.agg #[.int .i64 ax, .int .i64 ay], .agg #[.int .i64 bx, .int .i64 by_], .int .i64 m] w fun e w' => e = .returned (.bool (decide (m * m < sqD ax ay bx by_))) ∧ Below w.heap.size w w' := by
  have hmm : 0 ≤ m * m ∧ m * m ≤ 1000000 := ⟨Int.mul_nonneg hm.1 hm.1, Int.mul_le_mul hm.2 hm.2 hm.1 (by omega)⟩
  go_enter Try.func73, Try.ntmps73
  go_wp2_with fail
  refine (l02Square_any _ _ _ _ h1 h2 _).mono ?_
  rintro e w1 ⟨rfl, hb⟩
  go_wp2
  go_ret
  exact ⟨rfl, (((Below.refl _ _).alloc (Nat.le_refl _) _).alloc (by simp) _).trans (hb.mono (by simp; omega))⟩

set_option maxRecDepth 100000 in
set_option maxHeartbeats 1600000 in
theorem l23Takes_any (b b2 off off2 : Nat) (q p : Crane) (w : World) (hq : CraneAt w b off q) (hp : CraneAt w b2 off2 p) (hb : b < w.heap.size) (hb2 : b2 < w.heap.size) (h1 : Plc q.v.ax q.v.ay) (h2 : Plc p.v.ax p.v.ay) (hj : 0 ≤ q.v.jib ∧ q.v.jib ≤ 1000) :
    Calls Try.prog 35 #[.pointer (some ⟨b, off, none⟩), .pointer (some ⟨b2, off2, none⟩)] w fun e w' => e = .returned (.bool (takesB q.val p.val)) ∧ Below w.heap.size w w' := by
  obtain ⟨c0, c1, c2, c3, c4, _, _⟩ := hq
  obtain ⟨d0, d1, d2, d3, _, _, _⟩ := hp
  have u1 := cell_regrown c1
  have u2 := cell_regrown c2
  have u3 := cell_regrown c3
  have u4 := cell_regrown c4
  have v1 := cell_regrown d1
  have v2 := cell_regrown d2
  have v3 := cell_regrown d3
  have H1 := Lib.hid h1
  have H2 := Lib.hid h2
  have HJ := Lib.hid hj
  clear c0 c1 c2 c3 c4 d0 d1 d2 d3 h1 h2 hj
  by_cases hh : p.v.height < q.v.height
  · by_cases hd : sqD p.v.ax p.v.ay q.v.ax q.v.ay ≤ q.v.jib * q.v.jib
    · have HT : Hid (takesB q.val p.val = true) := by
        show _ = _; unfold takesB
        rw [decide_eq_true (show (Crane.val p).1.height < (Crane.val q).1.height from hh), decide_eq_true (show sqD (Crane.val p).1.ax (Crane.val p).1.ay (Crane.val q).1.ax (Crane.val q).1.ay ≤ (Crane.val q).1.jib * (Crane.val q).1.jib from hd)]; rfl
      have hnd : decide (q.v.jib * q.v.jib < sqD q.v.ax q.v.ay p.v.ax p.v.ay) = false := decide_eq_false (by rw [sqD_comm]; omega)
      have HF := Lib.hid (show ∀ W3, Calls Try.prog 73 #[.agg #[.int .i64 q.v.ax, .int .i64 q.v.ay], .agg #[.int .i64 p.v.ax, .int .i64 p.v.ay], .int .i64 q.v.jib] W3 fun e w' => e = .returned (.bool false) ∧ Below W3.heap.size W3 w' from fun W3 => by have := l04FarM_any _ _ _ _ _ W3 H1.out H2.out HJ.out; rwa [hnd] at this)
      clear hd hnd
      go_enter Try.func35, Try.ntmps35
      go_wp2
      refine wp_region_quiet_below (by kernel_rfl) (by kernel_rfl) ?_
      repeat (go_big_quiet_step ((go_at_call 73; exact Calls.regrown_of (HF.out _))))
      refine wpQuiet_nil ?_
      intro _ hw9
      obtain ⟨⟨dq, osq⟩, hw9⟩ := hw9
      subst hw9
      have hb9 := below_regrown w dq osq
      dsimp only at hb9 ⊢
      clear HF u1 u2 u3 u4 v1 v2 v3
      generalize grow (redrawn w dq) osq = W2 at hb9 ⊢
      go_wp2
      go_ret
      exact ⟨by rw [HT.out]; rfl, hb9⟩
    · have HT : Hid (takesB q.val p.val = false) := by
        show _ = _; unfold takesB
        rw [decide_eq_false (show ¬ sqD (Crane.val p).1.ax (Crane.val p).1.ay (Crane.val q).1.ax (Crane.val q).1.ay ≤ (Crane.val q).1.jib * (Crane.val q).1.jib from hd), Bool.and_false]
      have hnd : decide (q.v.jib * q.v.jib < sqD q.v.ax q.v.ay p.v.ax p.v.ay) = true := decide_eq_true (by rw [sqD_comm]; omega)
      have HF := Lib.hid (show ∀ W3, Calls Try.prog 73 #[.agg #[.int .i64 q.v.ax, .int .i64 q.v.ay], .agg #[.int .i64 p.v.ax, .int .i64 p.v.ay], .int .i64 q.v.jib] W3 fun e w' => e = .returned (.bool true) ∧ Below W3.heap.size W3 w' from fun W3 => by have := l04FarM_any _ _ _ _ _ W3 H1.out H2.out HJ.out; rwa [hnd] at this)
      clear hd hnd
      go_enter Try.func35, Try.ntmps35
      go_wp2
      refine wp_region_quiet_below (by kernel_rfl) (by kernel_rfl) ?_
      repeat (go_big_quiet_step ((go_at_call 73; exact Calls.regrown_of (HF.out _))))
      refine wpQuiet_nil ?_
      intro _ hw9
      obtain ⟨⟨dq, osq⟩, hw9⟩ := hw9
      subst hw9
      have hb9 := below_regrown w dq osq
      dsimp only at hb9 ⊢
      clear HF u1 u2 u3 u4 v1 v2 v3
      generalize grow (redrawn w dq) osq = W2 at hb9 ⊢
      go_wp2
      go_ret
      exact ⟨by rw [HT.out]; rfl, hb9⟩
  · have HT : Hid (takesB q.val p.val = false) := by
      show _ = _; unfold takesB
      rw [decide_eq_false (show ¬ (Crane.val p).1.height < (Crane.val q).1.height from hh)]; rfl
    have hh2 : q.v.height ≤ p.v.height := by omega
    have hh3 : decide (p.v.height < q.v.height) = false := decide_eq_false hh
    clear hh
    go_enter Try.func35, Try.ntmps35
    go_wp2
    refine wp_region_quiet_below (by kernel_rfl) (by kernel_rfl) ?_
    repeat (go_big_quiet_step (fail))
    refine wpQuiet_nil ?_
    intro _ hw9
    obtain ⟨⟨dq, osq⟩, hw9⟩ := hw9
    subst hw9
    have hb9 := below_regrown w dq osq
    dsimp only at hb9 ⊢
    clear u1 u2 u3 u4 v1 v2 v3
    generalize grow (redrawn w dq) osq = W2 at hb9 ⊢
    go_wp2
    go_ret
    exact ⟨by rw [HT.out]; rfl, hb9⟩
end Go.Proofs.Ytencnldflnbdiaa
