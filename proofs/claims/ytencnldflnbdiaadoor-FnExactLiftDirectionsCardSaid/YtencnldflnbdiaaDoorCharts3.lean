/- Charts: loadAt of the program, l03Load of the reference: both tell ldI. -/
import Derived.Test.YtencnldflnbdiaaDoorCharts2
import Derived.Test.YtencnldflnbdiaaDoorNest2
import Derived.RegionTactic
namespace Go.Proofs.YtencnldflnbdiaaDoor
open Go.RowKit
set_option linter.unusedVariables false

set_option maxRecDepth 100000 in
set_option maxHeartbeats 1600000 in
theorem l03Load_any (A : Option Addr) (n c : Nat) (xs : List ChartStep) (r : Int) (w : World) (lo hi : Nat) (h : Arr ChartStep.cs 2 w lo hi A n xs) (hn : n ≤ 9223372036854775807) (hok : chartOk xs = true) (hr0 : -1000000 ≤ r) (hr : r ≤ 1000000) :
    Calls Tryd.prog 142 #[.slice A n c, .int .i64 r] w (Quiet (.int .i64 (ldI xs r)) w) := by
  rcases ldI_cases hok r with ⟨h1, h2⟩ | ⟨s, h0, h1, h2, h3, h4⟩ | ⟨j, a, b, ha, hb, h1, hB, h2⟩
  · have H := Lib.hid h2
    have H1 := Lib.hid h1
    clear h1 h2 hok
    go_enter Tryd.func142, Tryd.ntmps142
    go_wp2_with fail
    refine (l03Find_any A n c xs r _ lo hi h hn).mono ?_
    rintro e w1 ⟨rfl, rfl⟩
    rw [H1.out]
    go_wp2
    go_ret
    exact ⟨by rw [H.out]; rfl, 0, rfl⟩
  · have H := Lib.hid h2
    have H1 := Lib.hid h1
    have hn0 : 0 < n := by rw [← h.1]; exact (List.getElem?_eq_some_iff.1 h0).1
    obtain ⟨b4, off4, x, rfl, hx4, _, _, d0, d1⟩ := ChartStep.at h hn0
    obtain rfl : x = s := by rw [hx4] at h0; exact Option.some.inj h0
    simp only [Nat.zero_mul, Nat.add_zero] at d0 d1
    clear h1 h2 hok h0 hx4
    have hi0 : (0 : Int) < (n : Int) := by omega
    go_enter Tryd.func142, Tryd.ntmps142
    go_wp2_with fail
    refine (l03Find_any (some ⟨b4, off4, none⟩) n c xs r _ lo hi h hn).mono ?_
    rintro e w1 ⟨rfl, rfl⟩
    rw [H1.out]
    go_wp2
    go_ret
    exact ⟨by rw [H.out]; rfl, 0, rfl⟩
  · have H := Lib.hid h2
    have H1 := Lib.hid h1
    have hjn : j + 1 < n := by rw [← h.1]; exact (List.getElem?_eq_some_iff.1 hb).1
    obtain ⟨b4, off4, x, rfl, hx4, _, _, d0, d1⟩ := ChartStep.at h (show j < n by omega)
    obtain rfl : x = a := by rw [hx4] at ha; exact Option.some.inj ha
    obtain ⟨b5, off5, y, e5, hx5, _, _, f0, f1⟩ := ChartStep.at h hjn
    cases e5
    obtain rfl : y = b := by rw [hx5] at hb; exact Option.some.inj hb
    obtain ⟨p1, p2, p3⟩ := hB.prod
    obtain ⟨k1, k2⟩ := hB.cdiv
    obtain ⟨r1, r2⟩ := hB.ra; obtain ⟨r3, r4⟩ := hB.rb; obtain ⟨r5, r6⟩ := hB.la; have r7 := hB.lb
    clear h1 h2 hok ha hb hx4 hx5
    have hi0 : (0 : Int) ≤ (j : Int) := by omega
    have hi1 : (j : Int) < (n : Int) := by omega
    have hi2 : (((j + 1 : Nat)) : Int) < (n : Int) := by omega
    have hi3 : (0 : Int) < (((j + 1 : Nat)) : Int) := by omega
    go_enter Tryd.func142, Tryd.ntmps142
    go_wp2_with fail
    refine (l03Find_any (some ⟨b4, off4, none⟩) n c xs r _ lo hi h hn).mono ?_
    rintro e w1 ⟨rfl, rfl⟩
    rw [H1.out]
    go_wp2
    have e1 : IntKind.i64.wrap (x.load - y.load) = x.load - y.load := IntWalk.i64_in _ ⟨by omega, by omega⟩
    have e2 : IntKind.i64.wrap (r - x.radius) = r - x.radius := IntWalk.i64_in _ ⟨by omega, by omega⟩
    have e3 : IntKind.i64.wrap ((x.load - y.load) * (r - x.radius)) = (x.load - y.load) * (r - x.radius) := IntWalk.i64_in _ ⟨by omega, by omega⟩
    have e4 : IntKind.i64.wrap (y.radius - x.radius) = y.radius - x.radius := IntWalk.i64_in _ ⟨by omega, by omega⟩
    go_quiet ((go_at_call 177; exact quiet_left (l03Up_any _ _ p1 (by omega) (by omega) (by omega) _)))
    go_wp2
    go_ret
    exact ⟨by rw [H.out]; rfl, by first | exact ⟨_, rfl⟩ | exact ⟨_, World.drewN_drewN _ _ _⟩⟩

/-- what loadAt hands back for a load, -1 for none -/
def ldRet (v : Int) : Value := .tuple #[.int .i64 (if v < 0 then 0 else v), .bool (decide (0 ≤ v))]
theorem ldRet_no {v : Int} (h : v < 0) : ldRet v = .tuple #[.int .i64 0, .bool false] := by unfold ldRet; rw [if_pos h, decide_eq_false (by omega)]
theorem ldRet_yes {v : Int} (h : 0 ≤ v) : ldRet v = .tuple #[.int .i64 v, .bool true] := by unfold ldRet; rw [if_neg (by omega), decide_eq_true h]
set_option maxRecDepth 100000 in
set_option maxHeartbeats 1600000 in
theorem loadAt_any (A : Option Addr) (n c : Nat) (xs : List ChartStep) (r : Int) (w : World) (lo : Nat) (h : Arr ChartStep.cs 2 w lo w.heap.size A n xs) (hn : n ≤ 9223372036854775807) (hok : chartOk xs = true) (hr0 : -1000000 ≤ r) (hr : r ≤ 1000000) :
    Calls Tryd.prog 137 #[.slice A n c, .int .i64 r] w fun e w' => e = .returned (ldRet (ldI xs r)) ∧ Below w.heap.size w w' := by
  rcases ldI_cases hok r with ⟨h1, h2⟩ | ⟨s, h0, h1, h2, h3, h4⟩ | ⟨j, a, b, ha, hb, h1, hB, h2⟩
  · have H := Lib.hid h2
    have H1 := Lib.hid h1
    clear h1 h2 hok
    go_enter Tryd.func137, Tryd.ntmps137
    go_wp2_with fail
    refine (stepFor_any A n c xs r _ lo h hn).mono ?_
    rintro e w1 ⟨rfl, hb1⟩
    rw [H1.out]
    go_wp2
    go_ret2
    exact ⟨by rw [H.out, ldRet_no (by omega)]; rfl, hb1⟩
  · have H := Lib.hid h2
    have H1 := Lib.hid h1
    have hn0 : 0 < n := by rw [← h.1]; exact (List.getElem?_eq_some_iff.1 h0).1
    obtain ⟨b4, off4, x, rfl, hx4, _, hbl, d0, d1⟩ := ChartStep.at h hn0
    obtain rfl : x = s := by rw [hx4] at h0; exact Option.some.inj h0
    simp only [Nat.zero_mul, Nat.add_zero] at d0 d1
    clear h1 h2 hok h0 hx4
    have hi0 : (0 : Int) < (n : Int) := by omega
    go_enter Tryd.func137, Tryd.ntmps137
    go_wp2_with fail
    refine (stepFor_any (some ⟨b4, off4, none⟩) n c xs r _ lo h hn).mono ?_
    rintro e w1 ⟨rfl, hb1⟩
    replace d1 := (hb1.cell (p := ⟨b4, off4 + 1, none⟩) hbl).trans d1
    rw [H1.out]
    go_wp2
    go_ret2
    exact ⟨by rw [H.out, ldRet_yes h3]; rfl, hb1⟩
  · have H := Lib.hid h2
    have H1 := Lib.hid h1
    have hjn : j + 1 < n := by rw [← h.1]; exact (List.getElem?_eq_some_iff.1 hb).1
    obtain ⟨b4, off4, x, rfl, hx4, _, hbl, d0, d1⟩ := ChartStep.at h (show j < n by omega)
    obtain rfl : x = a := by rw [hx4] at ha; exact Option.some.inj ha
    obtain ⟨b5, off5, y, e5, hx5, _, _, f0, f1⟩ := ChartStep.at h hjn
    cases e5
    obtain rfl : y = b := by rw [hx5] at hb; exact Option.some.inj hb
    obtain ⟨p1, p2, p3⟩ := hB.prod
    obtain ⟨k1, k2⟩ := hB.cdiv
    have hlow := hB.low
    obtain ⟨r1, r2⟩ := hB.ra; obtain ⟨r3, r4⟩ := hB.rb; obtain ⟨r5, r6⟩ := hB.la; have r7 := hB.lb
    clear h1 h2 hok ha hb hx4 hx5
    have hi0 : (0 : Int) ≤ (j : Int) := by omega
    have hi1 : (j : Int) < (n : Int) := by omega
    have hi2 : (((j + 1 : Nat)) : Int) < (n : Int) := by omega
    have hi3 : (0 : Int) < (((j + 1 : Nat)) : Int) := by omega
    go_enter Tryd.func137, Tryd.ntmps137
    go_wp2_with fail
    refine (stepFor_any (some ⟨b4, off4, none⟩) n c xs r _ lo h hn).mono ?_
    rintro e w1 ⟨rfl, hb1⟩
    replace d0 := (hb1.cell (p := ⟨b4, off4 + j * 2, none⟩) hbl).trans d0
    replace d1 := (hb1.cell (p := ⟨b4, off4 + j * 2 + 1, none⟩) hbl).trans d1
    replace f0 := (hb1.cell (p := ⟨b4, off4 + (j + 1) * 2, none⟩) hbl).trans f0
    replace f1 := (hb1.cell (p := ⟨b4, off4 + (j + 1) * 2 + 1, none⟩) hbl).trans f1
    have hsz := hb1.size
    rw [H1.out]
    have q0 : ∀ o, (w1.alloc o).cell? ⟨b4, off4 + j * 2, none⟩ = some (.int .i64 x.radius) := fun o => (World.cell?_alloc_lt _ _ _ (by dsimp only; omega)).trans d0
    have q1 : ∀ o, (w1.alloc o).cell? ⟨b4, off4 + j * 2 + 1, none⟩ = some (.int .i64 x.load) := fun o => (World.cell?_alloc_lt _ _ _ (by dsimp only; omega)).trans d1
    have q2 : ∀ o, (w1.alloc o).cell? ⟨b4, off4 + (j + 1) * 2, none⟩ = some (.int .i64 y.radius) := fun o => (World.cell?_alloc_lt _ _ _ (by dsimp only; omega)).trans f0
    have q3 : ∀ o, (w1.alloc o).cell? ⟨b4, off4 + (j + 1) * 2 + 1, none⟩ = some (.int .i64 y.load) := fun o => (World.cell?_alloc_lt _ _ _ (by dsimp only; omega)).trans f1
    have q4 : ∀ o o', ((w1.alloc o).alloc o').cell? ⟨b4, off4 + j * 2, none⟩ = some (.int .i64 x.radius) := fun o o' => (World.cell?_alloc_lt _ _ _ (by simp; omega)).trans (q0 o)
    have q5 : ∀ o o', ((w1.alloc o).alloc o').cell? ⟨b4, off4 + j * 2 + 1, none⟩ = some (.int .i64 x.load) := fun o o' => (World.cell?_alloc_lt _ _ _ (by simp; omega)).trans (q1 o)
    have q6 : ∀ o o', ((w1.alloc o).alloc o').cell? ⟨b4, off4 + (j + 1) * 2, none⟩ = some (.int .i64 y.radius) := fun o o' => (World.cell?_alloc_lt _ _ _ (by simp; omega)).trans (q2 o)
    have q7 : ∀ o o', ((w1.alloc o).alloc o').cell? ⟨b4, off4 + (j + 1) * 2 + 1, none⟩ = some (.int .i64 y.load) := fun o o' => (World.cell?_alloc_lt _ _ _ (by simp; omega)).trans (q3 o)
    have ej : IntKind.i64.wrap (j : Int) = (j : Int) := IntWalk.i64_in _ ⟨by omega, by omega⟩
    go_wp2
    go_region
    all_goals clear q0 q1 q2 q3 q4 q5 q6 q7 d0 d1 f0 f1 ej
    · obtain ⟨W2, hW2⟩ : ∃ W2 : World, W2 = ((w1.alloc (.cells #[.int .i64 x.radius, .int .i64 x.load] 199)).alloc (.cells #[.int .i64 y.radius, .int .i64 y.load] 199)).drew := ⟨_, rfl⟩
      rw [← hW2]
      have hb2 : Below w.heap.size w W2 := by rw [hW2]; exact ((hb1.alloc hsz _).alloc (by simp; omega) _).drew
      have m0 : W2.cell? ⟨w1.heap.size, 0, none⟩ = some (.int .i64 x.radius) := by rw [hW2]; show World.cell? ((w1.alloc _).alloc _) _ = _; rw [World.cell?_alloc_lt _ _ _ (by simp)]; simp
      have n0 : W2.cell? ⟨w1.heap.size + 1, 0, none⟩ = some (.int .i64 y.radius) := by rw [hW2]; show World.cell? ((w1.alloc _).alloc _) _ = _; exact (Blk.new_at (cs := #[.int .i64 y.radius, .int .i64 y.load]) (t := 199) rfl (by simp)).cell 0
      have m1 : W2.cell? ⟨w1.heap.size, 1, none⟩ = some (.int .i64 x.load) := by rw [hW2]; show World.cell? ((w1.alloc _).alloc _) _ = _; rw [World.cell?_alloc_lt _ _ _ (by simp)]; simp
      have n1 : W2.cell? ⟨w1.heap.size + 1, 1, none⟩ = some (.int .i64 y.load) := by rw [hW2]; show World.cell? ((w1.alloc _).alloc _) _ = _; exact (Blk.new_at (cs := #[.int .i64 y.radius, .int .i64 y.load]) (t := 199) rfl (by simp)).cell 1
      clear hW2
      have e1 : IntKind.i64.wrap (x.load - y.load) = x.load - y.load := IntWalk.i64_in _ ⟨by omega, by omega⟩
      have e2 : IntKind.i64.wrap (r - x.radius) = r - x.radius := IntWalk.i64_in _ ⟨by omega, by omega⟩
      have e3 : IntKind.i64.wrap ((x.load - y.load) * (r - x.radius)) = (x.load - y.load) * (r - x.radius) := IntWalk.i64_in _ ⟨by omega, by omega⟩
      have e4 : IntKind.i64.wrap (y.radius - x.radius) = y.radius - x.radius := IntWalk.i64_in _ ⟨by omega, by omega⟩
      go_wp2
      go_quiet ((go_at_call 173; exact quiet_left (ceil_any _ _ p1 (by omega) (by omega) (by omega) _)))
      go_wp2
      go_ret2
      exact ⟨by rw [H.out, ldRet_yes hlow.1]; rfl, bel_drewN hb2 _⟩
    · obtain ⟨W2, hW2⟩ : ∃ W2 : World, W2 = ((w1.alloc (.cells #[.int .i64 y.radius, .int .i64 y.load] 199)).alloc (.cells #[.int .i64 x.radius, .int .i64 x.load] 199)).drew := ⟨_, rfl⟩
      rw [← hW2]
      have hb2 : Below w.heap.size w W2 := by rw [hW2]; exact ((hb1.alloc hsz _).alloc (by simp; omega) _).drew
      have m0 : W2.cell? ⟨w1.heap.size, 0, none⟩ = some (.int .i64 y.radius) := by rw [hW2]; show World.cell? ((w1.alloc _).alloc _) _ = _; rw [World.cell?_alloc_lt _ _ _ (by simp)]; simp
      have n0 : W2.cell? ⟨w1.heap.size + 1, 0, none⟩ = some (.int .i64 x.radius) := by rw [hW2]; show World.cell? ((w1.alloc _).alloc _) _ = _; exact (Blk.new_at (cs := #[.int .i64 x.radius, .int .i64 x.load]) (t := 199) rfl (by simp)).cell 0
      have m1 : W2.cell? ⟨w1.heap.size, 1, none⟩ = some (.int .i64 y.load) := by rw [hW2]; show World.cell? ((w1.alloc _).alloc _) _ = _; rw [World.cell?_alloc_lt _ _ _ (by simp)]; simp
      have n1 : W2.cell? ⟨w1.heap.size + 1, 1, none⟩ = some (.int .i64 x.load) := by rw [hW2]; show World.cell? ((w1.alloc _).alloc _) _ = _; exact (Blk.new_at (cs := #[.int .i64 x.radius, .int .i64 x.load]) (t := 199) rfl (by simp)).cell 1
      clear hW2
      have e1 : IntKind.i64.wrap (x.load - y.load) = x.load - y.load := IntWalk.i64_in _ ⟨by omega, by omega⟩
      have e2 : IntKind.i64.wrap (r - x.radius) = r - x.radius := IntWalk.i64_in _ ⟨by omega, by omega⟩
      have e3 : IntKind.i64.wrap ((x.load - y.load) * (r - x.radius)) = (x.load - y.load) * (r - x.radius) := IntWalk.i64_in _ ⟨by omega, by omega⟩
      have e4 : IntKind.i64.wrap (y.radius - x.radius) = y.radius - x.radius := IntWalk.i64_in _ ⟨by omega, by omega⟩
      go_wp2
      go_quiet ((go_at_call 173; exact quiet_left (ceil_any _ _ p1 (by omega) (by omega) (by omega) _)))
      go_wp2
      go_ret2
      exact ⟨by rw [H.out, ldRet_yes hlow.1]; rfl, bel_drewN hb2 _⟩
end Go.Proofs.YtencnldflnbdiaaDoor
