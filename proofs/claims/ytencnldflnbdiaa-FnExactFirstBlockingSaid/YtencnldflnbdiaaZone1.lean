/- The small functions of zones: side, l05Cross, l05Sign, l05Next, later, earlier, l05Box, l05Lines. -/
import Derived.Test.YtencnldflnbdiaaZoneLaw
import Derived.Test.YtencnldflnbdiaaLifts
import Derived.Lib.QuietBelow
import Derived.BigQuiet
namespace Go.Proofs.Ytencnldflnbdiaa
open Go.RowKit Go.Sort
set_option linter.unusedVariables false

abbrev pv (p : Pnt) : Value := .agg #[.int .i64 p.x, .int .i64 p.y]
abbrev pcs (p : Pnt) : Array Value := #[.int .i64 p.x, .int .i64 p.y]
theorem Pnt.blk {w : World} {g : Nat} {t : TypeId} {x y : Value} (h : Blk w g t #[x, y]) : w.cell? ⟨g, 0, none⟩ = some x ∧ w.cell? ⟨g, 1, none⟩ = some y := ⟨(h.cell 0).trans rfl, (h.cell 1).trans rfl⟩
set_option maxHeartbeats 800000 in
theorem side_any (a b c : Pnt) (w : World) (ha : plcB a.x a.y = true) (hb : plcB b.x b.y = true) (hc : plcB c.x c.y = true) :
    Calls Try.prog 87 #[.agg #[.int .i64 a.x, .int .i64 a.y], .agg #[.int .i64 b.x, .int .i64 b.y], .agg #[.int .i64 c.x, .int .i64 c.y]] w fun e w' => e = .returned (.int .i64 (crs a b c)) ∧ Below w.heap.size w w' := by
  obtain ⟨c1, c2, ⟨d1, d2⟩, ⟨d3, d4⟩, ⟨d5, d6⟩, ⟨d7, d8⟩, ⟨m1, m2⟩, ⟨m3, m4⟩⟩ := crs_small ha hb hc
  unfold crs at c1 c2 ⊢
  clear ha hb hc
  go_enter Try.func87, Try.ntmps87
  go_wp2
  go_ret
  exact ⟨rfl, (((Below.refl _ _).alloc (Nat.le_refl _) _).alloc (by simp) _).alloc (by simp; omega) _⟩
set_option maxHeartbeats 800000 in
theorem l05Cross_any (a b c : Pnt) (w : World) (ha : plcB a.x a.y = true) (hb : plcB b.x b.y = true) (hc : plcB c.x c.y = true) :
    Calls Try.prog 111 #[.agg #[.int .i64 a.x, .int .i64 a.y], .agg #[.int .i64 b.x, .int .i64 b.y], .agg #[.int .i64 c.x, .int .i64 c.y]] w fun e w' => e = .returned (.int .i64 (crs a b c)) ∧ Below w.heap.size w w' := by
  obtain ⟨c1, c2, ⟨d1, d2⟩, ⟨d3, d4⟩, ⟨d5, d6⟩, ⟨d7, d8⟩, ⟨m1, m2⟩, ⟨m3, m4⟩⟩ := crs_small ha hb hc
  unfold crs at c1 c2 ⊢
  clear ha hb hc
  go_enter Try.func111, Try.ntmps111
  go_wp2
  go_ret
  exact ⟨rfl, (((Below.refl _ _).alloc (Nat.le_refl _) _).alloc (by simp) _).alloc (by simp; omega) _⟩
theorem l05Sign_any (n : Int) (w : World) : Calls Try.prog 112 #[.int .i64 n] w fun e w' => e = .returned (.int .i64 (sgn n)) ∧ w = w' := by
  rcases Int.lt_trichotomy n 0 with h | h | h
  · have HO : Hid (sgn n = -1) := by show _ = _; unfold sgn; rw [if_neg (by omega), if_pos h]
    go_enter Try.func112, Try.ntmps112
    go_wp2
    go_ret
    exact ⟨by rw [HO.out]; rfl, rfl⟩
  · subst h
    go_enter Try.func112, Try.ntmps112
    go_wp2
    go_ret
    exact ⟨rfl, rfl⟩
  · have HO : Hid (sgn n = 1) := by show _ = _; unfold sgn; rw [if_pos h]
    go_enter Try.func112, Try.ntmps112
    go_wp2
    go_ret
    exact ⟨by rw [HO.out]; rfl, rfl⟩
theorem nx_rem {n k : Nat} (hk : k < n) : ((k : Int) + 1).tmod (n : Int) = (nxN n k : Nat) := by
  unfold nxN
  rw [show ((k : Int) + 1) = ((k + 1 : Nat) : Int) by push_cast; rfl, ← Int.ofNat_tmod]
set_option maxHeartbeats 800000 in
theorem l05Next_any (A : Option Addr) (n c k : Nat) (cs : List Pnt) (w : World) (lo : Nat) (h : Arr Pnt.cs 2 w lo w.heap.size A n cs) (hn : n ≤ 1048576) (hk : k < n) :
    Calls Try.prog 83 #[.slice A n c, .int .i64 (k : Int)] w fun e w' => e = .returned (.agg #[.int .i64 (pt cs (nxN n k)).x, .int .i64 (pt cs (nxN n k)).y]) ∧ Below w.heap.size w w' := by
  have hx : nxN n k < n := nx_lt (by omega)
  obtain ⟨b, off, p, rfl, hp, _, _, c0, c1⟩ := Pnt.at h hx
  rw [pt_at hp]
  have hr := nx_rem hk
  generalize nxN n k = j at *
  have hj0 : (0 : Int) ≤ (j : Int) := by omega
  have hj1 : (j : Int) < (n : Int) := by omega
  have hn0 : ¬ (n : Int) = 0 := by omega
  clear h hp
  go_enter Try.func83, Try.ntmps83
  go_wp2
  exact bodyPost_ret (v := .agg #[.int .i64 p.x, .int .i64 p.y]) (by simp [results, Try.results83, go_sem]) rfl ⟨rfl, (Below.refl _ _).alloc (Nat.le_refl _) _⟩
theorem l00Min5_any (a b : Int) (w : World) : Calls Try.prog 136 #[.int .i64 a, .int .i64 b] w fun e w' => e = .returned (.int .i64 (mn a b)) ∧ w = w' := by
  by_cases h : a < b
  · have HO : Hid (mn a b = a) := by show _ = _; unfold mn; rw [if_pos h]
    go_enter Try.func136, Try.ntmps136
    go_wp2
    go_ret
    exact ⟨by rw [HO.out]; rfl, rfl⟩
  · have HO : Hid (mn a b = b) := by show _ = _; unfold mn; rw [if_neg h]
    go_enter Try.func136, Try.ntmps136
    go_wp2
    go_ret
    exact ⟨by rw [HO.out]; rfl, rfl⟩
theorem l00Max5_any (a b : Int) (w : World) : Calls Try.prog 137 #[.int .i64 a, .int .i64 b] w fun e w' => e = .returned (.int .i64 (mx a b)) ∧ w = w' := by
  by_cases h : b < a
  · have HO : Hid (mx a b = a) := by show _ = _; unfold mx; rw [if_neg (by omega)]
    go_enter Try.func137, Try.ntmps137
    go_wp2
    go_ret
    exact ⟨by rw [HO.out]; rfl, rfl⟩
  · have HO : Hid (mx a b = b) := by show _ = _; unfold mx; split <;> omega
    go_enter Try.func137, Try.ntmps137
    go_wp2
    go_ret
    exact ⟨by rw [HO.out]; rfl, rfl⟩
theorem in5_eq (n a b : Int) (w : World) {v : Bool} (h : inB n a b = v) : Calls Try.prog 64 #[.int .i64 n, .int .i64 a, .int .i64 b] w fun e w' => e = .returned (.bool v) ∧ w = w' := by subst h; exact l00In_any n a b w
set_option maxRecDepth 100000 in
set_option maxHeartbeats 1600000 in
theorem l05Box_any (a b c : Pnt) (w : World) :
    Calls Try.prog 113 #[.agg #[.int .i64 a.x, .int .i64 a.y], .agg #[.int .i64 b.x, .int .i64 b.y], .agg #[.int .i64 c.x, .int .i64 c.y]] w fun e w' => e = .returned (.bool (boxB a b c)) ∧ Below w.heap.size w w' := by
  obtain ⟨W, hW⟩ : ∃ W : World, W = ((w.alloc (.cells #[.int .i64 a.x, .int .i64 a.y] 50)).alloc (.cells #[.int .i64 b.x, .int .i64 b.y] 50)).alloc (.cells #[.int .i64 c.x, .int .i64 c.y] 50) := ⟨_, rfl⟩
  have B0 : Below w.heap.size w W := by rw [hW]; exact (((Below.refl _ _).alloc (Nat.le_refl _) _).alloc (by simp) _).alloc (by simp; omega) _
  have P0 : Blk W w.heap.size 50 #[.int .i64 a.x, .int .i64 a.y] := by rw [hW]; exact ((Blk.new _ _ _).alloc _).alloc _
  have P1 : Blk W (w.heap.size + 1) 50 #[.int .i64 b.x, .int .i64 b.y] := by rw [hW]; exact (Blk.new_at rfl (by simp)).alloc _
  have P2 : Blk W (w.heap.size + 1 + 1) 50 #[.int .i64 c.x, .int .i64 c.y] := by rw [hW]; exact Blk.new_at rfl (by simp)
  obtain ⟨a0, a1⟩ := Pnt.blk P0
  obtain ⟨b0, b1⟩ := Pnt.blk P1
  obtain ⟨c0, c1⟩ := Pnt.blk P2
  clear P0 P1 P2
  have a0' := cell_regrown a0
  have a1' := cell_regrown a1
  have b0' := cell_regrown b0
  have b1' := cell_regrown b1
  have c0' := cell_regrown c0
  have c1' := cell_regrown c1
  clear a0 a1 b0 b1 c0 c1
  cases h1 : inB c.x (mn a.x b.x) (mx a.x b.x)
  · have HT : Hid (boxB a b c = false) := by show _ = _; unfold boxB; rw [show inIv c.x (mn a.x b.x) (mx a.x b.x) = false from h1]; rfl
    go_enter Try.func113, Try.ntmps113
    go_wp2_with fail
    rw [← hW]
    clear hW
    refine wp_region_quiet_below (by kernel_rfl) (by kernel_rfl) ?_
    repeat (go_big_quiet_step (first | (go_at_call 136; exact Calls.regrown_of (same_bel (l00Min5_any _ _ _))) | (go_at_call 137; exact Calls.regrown_of (same_bel (l00Max5_any _ _ _))) | (go_at_call 64; exact Calls.regrown_of (same_bel (in5_eq _ _ _ _ (by assumption))))))
    refine wpQuiet_nil ?_
    intro _ hw9
    obtain ⟨⟨dq, osq⟩, hw9⟩ := hw9
    subst hw9
    have hb9 := below_regrown W dq osq
    dsimp only at hb9 ⊢
    generalize grow (redrawn W dq) osq = W2 at hb9 ⊢
    go_wp2
    go_ret
    exact ⟨by rw [HT.out]; rfl, B0.trans (hb9.mono B0.size)⟩
  · cases h2 : inB c.y (mn a.y b.y) (mx a.y b.y)
    all_goals
      have HT : Hid (boxB a b c = inB c.y (mn a.y b.y) (mx a.y b.y)) := by show _ = _; unfold boxB; rw [show inIv c.x (mn a.x b.x) (mx a.x b.x) = true from h1]; rfl
      rw [h2] at HT
      go_enter Try.func113, Try.ntmps113
      go_wp2_with fail
      rw [← hW]
      clear hW
      refine wp_region_quiet_below (by kernel_rfl) (by kernel_rfl) ?_
      repeat (go_big_quiet_step (first | (go_at_call 136; exact Calls.regrown_of (same_bel (l00Min5_any _ _ _))) | (go_at_call 137; exact Calls.regrown_of (same_bel (l00Max5_any _ _ _))) | (go_at_call 64; exact Calls.regrown_of (same_bel (in5_eq _ _ _ _ (by assumption))))))
      refine wpQuiet_nil ?_
      intro _ hw9
      obtain ⟨⟨dq, osq⟩, hw9⟩ := hw9
      subst hw9
      have hb9 := below_regrown W dq osq
      dsimp only at hb9 ⊢
      generalize grow (redrawn W dq) osq = W2 at hb9 ⊢
      go_wp2
      go_ret
      exact ⟨by rw [HT.out]; rfl, B0.trans (hb9.mono B0.size)⟩
end Go.Proofs.Ytencnldflnbdiaa
