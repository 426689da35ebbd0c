/- Cranes and lifts: l09Plain, l09Code, l09Load, l09Can, LiftRadii, LiftMargin, CanLift, UsedPercent of the reference. -/
import Derived.Test.YtencnldflnbdiaaDoorAbles3
namespace Go.Proofs.YtencnldflnbdiaaDoor
open Go.RowKit Go.Sort
set_option linter.unusedVariables false

theorem oneB_nil (v : LiftV) : oneB v [] 0 = plainB v := by unfold oneB; rw [show risesB [] 0 = true from rfl, Bool.and_true]
set_option maxRecDepth 100000 in
set_option maxHeartbeats 1600000 in
theorem l09Plain_any (b2 off2 : Nat) (l : Lift) (w : World) (hq : l.v.name.size ≤ 9223372036854775807) (hbl2 : b2 < w.heap.size) (hd : LiftAt w b2 off2 l) :
    Calls Tryd.prog 148 #[.pointer (some ⟨b2, off2, none⟩)] w fun e w' => e = .returned (.bool (plainB l.v)) ∧ Below w.heap.size w w' := by
  obtain ⟨d0, d1, d2, d3, d4, d5, d6, d7, d8⟩ := hd
  have hb2 : ∀ o, b2 < (w.alloc o).heap.size := fun o => by simp; omega
  go_enter Tryd.func148, Tryd.ntmps148
  go_wp2_with fail
  obtain ⟨W, hW⟩ : ∃ W : World, W = w.alloc (.cells #[.string l.v.name, .int .i64 l.v.weight, .int .i64 l.v.fx, .int .i64 l.v.fy, .int .i64 l.v.tx, .int .i64 l.v.ty, .int .i64 l.v.height, .int .i64 l.v.deadline, .slice none 0 0] 59) := ⟨_, rfl⟩
  have B0 : Below w.heap.size w W := by rw [hW]; exact (Below.refl _ _).alloc (Nat.le_refl _) _
  have Q0 : Blk W w.heap.size 59 #[.string l.v.name, .int .i64 l.v.weight, .int .i64 l.v.fx, .int .i64 l.v.fy, .int .i64 l.v.tx, .int .i64 l.v.ty, .int .i64 l.v.height, .int .i64 l.v.deadline, .slice none 0 0] := by rw [hW]; exact Blk.new _ _ _
  rw [← hW]
  clear hW d0 d1 d2 d3 d4 d5 d6 d7 d8 hb2
  obtain ⟨d0, d1, d2, d3, d4, d5, d6, d7, d8⟩ := Lift.blk Q0
  have hlt := Q0.lt
  refine (l08One_any w.heap.size 0 ⟨l.v, ⟨none, 0, 0, []⟩⟩ 0 W 0 hq (Arr.nil _) (Nat.zero_le _) (by omega) (by omega) hlt d0 d1 d2 d3 d4 d5 d6 d7 d8).mono ?_
  rintro e w1 ⟨rfl, hb⟩
  go_wp2
  go_ret
  exact ⟨by rw [oneB_nil]; rfl, B0.trans (hb.mono B0.size)⟩

set_option maxRecDepth 100000 in
set_option maxHeartbeats 1600000 in
theorem l09Code_any (b off b2 off2 : Nat) (p : Crane) (l : Lift) (w : World) (lo : Nat) (hr : Arr ChartStep.cs 2 w lo w.heap.size p.r.a p.r.n p.r.xs) (hn : p.r.n ≤ 9223372036854775807) (hp : p.v.name.size ≤ 9223372036854775807) (hq : l.v.name.size ≤ 9223372036854775807) (hbl : b < w.heap.size) (hbl2 : b2 < w.heap.size) (hc : CraneAt w b off p) (hd : LiftAt w b2 off2 l) :
    Calls Tryd.prog 93 #[.pointer (some ⟨b, off, none⟩), .pointer (some ⟨b2, off2, none⟩)] w fun e w' => e = .returned (.int .i64 (if okB p.val l.v then 0 else 1)) ∧ Below w.heap.size w w' := by
  cases h1 : craneOk p.val
  · have H1 := Lib.hid h1
    have H : Hid ((if okB p.val l.v then (0 : Int) else 1) = 1) := by show _ = _; unfold okB; rw [h1]; rfl
    clear h1
    rw [H.out]
    go_enter Tryd.func93, Tryd.ntmps93
    go_wp2_with fail
    obtain ⟨c0, c1, c2, c3, c4, c5, c6⟩ := hc
    refine (l04Ok_any b off p _ lo hp hr hn hbl c0 c1 c2 c3 c4 c5 c6).mono ?_
    rintro e w1 ⟨rfl, hb1⟩
    rw [H1.out]
    have hsz := hb1.size
    clear c0 c1 c2 c3 c4 c5 c6
    go_wp2
    go_ret
    exact ⟨rfl, hb1⟩
  · have H1 := Lib.hid h1
    cases h2 : plainB l.v
    · have H2 := Lib.hid h2
      have H : Hid ((if okB p.val l.v then (0 : Int) else 1) = 1) := by show _ = _; unfold okB; rw [h1, h2]; rfl
      clear h2
      clear h1
      rw [H.out]
      go_enter Tryd.func93, Tryd.ntmps93
      go_wp2_with fail
      obtain ⟨c0, c1, c2, c3, c4, c5, c6⟩ := hc
      refine (l04Ok_any b off p _ lo hp hr hn hbl c0 c1 c2 c3 c4 c5 c6).mono ?_
      rintro e w1 ⟨rfl, hb1⟩
      rw [H1.out]
      have hsz := hb1.size
      have hd1 := hd.below hb1 hbl2
      clear c0 c1 c2 c3 c4 c5 c6 hd
      go_wp2_with fail
      refine (l09Plain_any b2 off2 l _ hq (by omega) hd1).mono ?_
      rintro e w2 ⟨rfl, hb2⟩
      rw [H2.out]
      go_wp2
      go_ret
      exact ⟨rfl, bel2 hb1 hb2⟩
    · have H2 := Lib.hid h2
      have H : Hid ((if okB p.val l.v then (0 : Int) else 1) = 0) := by show _ = _; unfold okB; rw [h1, h2]; rfl
      clear h2
      clear h1
      rw [H.out]
      go_enter Tryd.func93, Tryd.ntmps93
      go_wp2_with fail
      obtain ⟨c0, c1, c2, c3, c4, c5, c6⟩ := hc
      refine (l04Ok_any b off p _ lo hp hr hn hbl c0 c1 c2 c3 c4 c5 c6).mono ?_
      rintro e w1 ⟨rfl, hb1⟩
      rw [H1.out]
      have hsz := hb1.size
      have hd1 := hd.below hb1 hbl2
      clear c0 c1 c2 c3 c4 c5 c6 hd
      go_wp2_with fail
      refine (l09Plain_any b2 off2 l _ hq (by omega) hd1).mono ?_
      rintro e w2 ⟨rfl, hb2⟩
      rw [H2.out]
      go_wp2
      go_ret
      exact ⟨rfl, bel2 hb1 hb2⟩

theorem l00Min_any (a b : Int) (w : World) : Calls Tryd.prog 190 #[.int .i64 a, .int .i64 b] w fun e w' => e = .returned (.int .i64 (if a < b then a else b)) ∧ w = w' := by
  by_cases h : a < b
  · rw [if_pos h]
    go_enter Tryd.func190, Tryd.ntmps190
    go_wp2
    go_ret
    exact ⟨rfl, rfl⟩
  · rw [if_neg h]
    go_enter Tryd.func190, Tryd.ntmps190
    go_wp2
    go_ret
    exact ⟨rfl, rfl⟩

end Go.Proofs.YtencnldflnbdiaaDoor
