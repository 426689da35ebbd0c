/- Charts: stepFor, loadAt, ceil of the program; l03Find, l03Load, l03Up, l03Last of the reference. -/
import Derived.Test.YtencnldflnbdiaaDoorCharts
import Derived.Deep.RegionHeld3
namespace Go.Proofs.YtencnldflnbdiaaDoor
open Go.RowKit
set_option linter.unusedVariables false

set_option maxHeartbeats 800000 in
theorem indexChartStep_any (A : Option Addr) (n c : Nat) (ps : List ChartStep) (w : World) (lo : Nat) (h : Arr ChartStep.cs 2 w lo w.heap.size A n ps) (hn : n ≤ 9223372036854775807) (q : ChartStep → Bool) (g : Addr)
    (hf : ∀ (p : ChartStep) (W : World), p ∈ ps → Below w.heap.size w W → Calls Tryd.prog 193 #[.agg #[.int .i64 p.radius, .int .i64 p.load], .pointer (some g)] W fun e W' => e = .returned (.bool (q p)) ∧ Below W.heap.size W W') :
    Calls Tryd.prog 192 #[.slice A n c, .func (.func 193) #[] #[.pointer (some g)]] w fun e w' => e = .returned (.int .i64 (fIdx q ps)) ∧ Below w.heap.size w w' := by
  have HF := Lib.hid hf
  clear hf
  go_enter Tryd.func192, Tryd.ntmps192
  go_wp2
  go_loopw [8] (fun i wr => ∃ k : Nat, k ≤ n ∧ i = .int .i64 k ∧ noTo q ps k = true ∧ Below w.heap.size w wr) (fun i _ => n - (intOf i).toNat)
  case atStart => exact ⟨0, Nat.zero_le _, rfl, rfl, Below.refl _ _⟩
  case round =>
    obtain ⟨k, hk, rfl, hno, hb⟩ := hrel
    have HN := Lib.hid hno
    clear hno
    by_cases hlt : k < n
    · obtain ⟨b, off, p, rfl, hx, _, hbl, c0, c1⟩ := ChartStep.at (h.below hb) hlt
      have HX := Lib.hid hx
      clear hx
      cases hq : q p
      · have HQ := Lib.hid hq
        go_wp2_with (go_at_call 193; refine (HF.out p _ (List.mem_of_getElem? HX.out) hb).mono ?_; rintro e w1 ⟨rfl, hb1⟩)
        go_roundw
        case rel => exact ⟨k + 1, by omega, by go_num, noTo_step HN.out HX.out HQ.out, hb.trans (hb1.mono hb.size)⟩
        case measure => simp [intOf]; omega
      · have HQ := Lib.hid hq
        go_wp2_with (go_at_call 193; refine (HF.out p _ (List.mem_of_getElem? HX.out) hb).mono ?_; rintro e w1 ⟨rfl, hb1⟩)
        go_ret
        exact ⟨by rw [fIdx_hit HN.out HX.out HQ.out]; rfl, hb.trans (hb1.mono hb.size)⟩
    · obtain rfl : k = n := by omega
      have HE : Hid (fIdx q ps = -1) := fIdx_none (by rw [h.1]; exact HN.out)
      go_wp2
      go_ret
      exact ⟨by rw [HE.out]; rfl, hb⟩

theorem reach_any (s : ChartStep) (r : Int) (g : Nat) (W : World) (hg : W.cell? ⟨g, 0, none⟩ = some (.int .i64 r)) :
    Calls Tryd.prog 193 #[.agg #[.int .i64 s.radius, .int .i64 s.load], .pointer (some ⟨g, 0, none⟩)] W fun e W' => e = .returned (.bool (reachB r s)) ∧ Below W.heap.size W W' := by
  have hne := World.block_lt_of_cell? W _ hg
  simp only at hne
  have hg2 : ∀ o, (W.alloc o).cell? ⟨g, 0, none⟩ = some (.int .i64 r) := fun o => (World.cell?_alloc_lt W o _ hne).trans hg
  go_enter Tryd.func193, Tryd.ntmps193
  go_wp2
  go_ret
  exact ⟨rfl, (Below.refl _ _).alloc (Nat.le_refl _) _⟩
set_option maxHeartbeats 800000 in
theorem stepFor_any (A : Option Addr) (n c : Nat) (xs : List ChartStep) (r : Int) (w : World) (lo : Nat) (h : Arr ChartStep.cs 2 w lo w.heap.size A n xs) (hn : n ≤ 9223372036854775807) :
    Calls Tryd.prog 172 #[.slice A n c, .int .i64 r] w fun e w' => e = .returned (.int .i64 (fIdx (reachB r) xs)) ∧ Below w.heap.size w w' := by
  have hmf : ∀ (fn : Fn) (first cap : Array Value) (W : World), (Instr.makeFunc fn first cap).run Tryd.prog W = .ok (.func fn first cap) W := fun _ _ _ _ => rfl
  go_enter Tryd.func172, Tryd.ntmps172
  go_wp2_with fail
  obtain ⟨W, hW⟩ : ∃ W : World, W = w.alloc (.cells #[.int .i64 r] 2) := ⟨_, rfl⟩
  have hb : Below w.heap.size w W := by rw [hW]; exact (Below.refl _ _).alloc (Nat.le_refl _) _
  have hlt : w.heap.size < W.heap.size := by rw [hW]; simp
  have t0 : W.cell? ⟨w.heap.size, 0, none⟩ = some (.int .i64 r) := by rw [hW]; simp
  rw [← hW]
  clear hW
  refine (indexChartStep_any A n c xs W lo ((h.below hb).more hb.size) hn (reachB r) ⟨w.heap.size, 0, none⟩ (fun p V hp hV => reach_any p r w.heap.size V ((hV.cell (p := ⟨w.heap.size, 0, none⟩) hlt).trans t0))).mono ?_
  rintro e w1 ⟨rfl, hb1⟩
  clear t0
  go_wp2
  go_ret
  exact ⟨rfl, hb.trans (hb1.mono hb.size)⟩

set_option maxHeartbeats 800000 in
theorem l03Find_any (A : Option Addr) (n c : Nat) (xs : List ChartStep) (r : Int) (w : World) (lo hi : Nat) (h : Arr ChartStep.cs 2 w lo hi A n xs) (hn : n ≤ 9223372036854775807) :
    Calls Tryd.prog 176 #[.slice A n c, .int .i64 r] w fun e w' => e = .returned (.int .i64 (fIdx (reachB r) xs)) ∧ w = w' := by
  have HL := Lib.hid h.1
  go_enter Tryd.func176, Tryd.ntmps176
  go_wp2
  go_loop [5] (fun i => ∃ k : Nat, k ≤ n ∧ i = .int .i64 k ∧ noTo (reachB r) xs k = true) (fun i => n - (intOf i).toNat)
  case atStart => exact ⟨0, Nat.zero_le _, rfl, rfl⟩
  case round =>
    obtain ⟨k, hk, rfl, hno⟩ := hrel
    have HN := Lib.hid hno
    clear hno
    by_cases hlt : k < n
    · obtain ⟨b, off, s, rfl, hx, _, hbl, c0, c1⟩ := ChartStep.at h hlt
      have HX := Lib.hid hx
      have hk0 : (0 : Int) ≤ (k : Int) := by omega
      have hk1 : (k : Int) < (n : Int) := by omega
      clear hx
      by_cases hq : r ≤ s.radius
      · have HE : Hid (fIdx (reachB r) xs = (k : Int)) := fIdx_hit HN.out HX.out (decide_eq_true hq)
        go_wp2
        go_ret
        exact ⟨by rw [HE.out]; rfl, rfl⟩
      · have HQ : Hid (reachB r s = false) := decide_eq_false hq
        go_wp2
        go_round
        case rel => exact ⟨k + 1, by omega, by go_num, noTo_step HN.out HX.out HQ.out⟩
        case measure => simp [intOf]; omega
    · obtain rfl : k = n := by omega
      have HE : Hid (fIdx (reachB r) xs = -1) := fIdx_none (by rw [HL.out]; exact HN.out)
      go_wp2
      go_ret
      exact ⟨by rw [HE.out]; rfl, rfl⟩

theorem ceil_any (a d : Int) (ha : 0 ≤ a) (ha2 : a ≤ 1000000000000) (hd : 1 ≤ d) (hd2 : d ≤ 1000000000000) (w : World) :
    Calls Tryd.prog 173 #[.int .i64 a, .int .i64 d] w fun e w' => e = .returned (.int .i64 (cdiv a d)) ∧ w = w' := by
  go_enter Tryd.func173, Tryd.ntmps173
  go_wp2
  go_ret
  exact ⟨rfl, rfl⟩
theorem l03Up_any (a d : Int) (ha : 0 ≤ a) (ha2 : a ≤ 1000000000000) (hd : 1 ≤ d) (hd2 : d ≤ 1000000000000) (w : World) :
    Calls Tryd.prog 177 #[.int .i64 a, .int .i64 d] w fun e w' => e = .returned (.int .i64 (cdiv a d)) ∧ w = w' := by
  go_enter Tryd.func177, Tryd.ntmps177
  go_wp2
  go_ret
  exact ⟨rfl, rfl⟩
theorem l03Last_any (A : Option Addr) (n c : Nat) (xs : List ChartStep) (w : World) (lo hi : Nat) (h : Arr ChartStep.cs 2 w lo hi A n xs) (hn0 : 0 < n) (hn : n ≤ 9223372036854775807) :
    Calls Tryd.prog 141 #[.slice A n c] w fun e w' => e = .returned (.int .i64 (lastR xs)) ∧ w = w' := by
  obtain ⟨m, rfl⟩ : ∃ m, n = m + 1 := ⟨n - 1, by omega⟩
  obtain ⟨b, off, s, rfl, hx, _, hbl, c0, c1⟩ := ChartStep.at h (show m < m + 1 by omega)
  have H : Hid (lastR xs = s.radius) := by show _ = _; unfold lastR; rw [h.1, Nat.add_sub_cancel, hx]
  have hm0 : (0 : Int) ≤ (m : Int) := by omega
  have hm1 : (m : Int) < ((m + 1 : Nat) : Int) := by omega
  clear hx h
  go_enter Tryd.func141, Tryd.ntmps141
  go_wp2
  go_ret
  exact ⟨by rw [H.out]; rfl, rfl⟩
end Go.Proofs.YtencnldflnbdiaaDoor
