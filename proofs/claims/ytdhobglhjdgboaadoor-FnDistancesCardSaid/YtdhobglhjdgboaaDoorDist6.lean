/- Distances: GapOf of the program, SquareBetween of the reference. -/
import Derived.Test.YtdhobglhjdgboaaDoorDist5
namespace Go.Proofs.YtdhobglhjdgboaaDoor
open Go.RowKit Go.Sort
set_option linter.unusedVariables false

def GapIs (N M g : Int) : Prop := 0 ≤ g ∧ g ≤ 32000 ∧ g * g * M ≤ N ∧ N < (g + 1) * (g + 1) * M
theorem mid_gap {l h : Int} (h0 : 0 ≤ l) (hl : l < h) (hm : h ≤ 32000) : l < (l + h + 1) / 2 ∧ (l + h + 1) / 2 ≤ h ∧ 0 ≤ (l + h + 1) / 2 * ((l + h + 1) / 2) ∧ (l + h + 1) / 2 * ((l + h + 1) / 2) ≤ 1024000000 := by
  have h1 : l < (l + h + 1) / 2 := by omega
  have h2 : (l + h + 1) / 2 ≤ h := by omega
  have := sq_bd (a := (l + h + 1) / 2) (M := 32000) (by omega) (by omega)
  exact ⟨h1, h2, this.1, by omega⟩
set_option maxRecDepth 100000 in
set_option maxHeartbeats 1000000 in
theorem gapOf_any (a b : Seg) (w : World) (h1 : a.ok) (h2 : b.ok) :
    Calls Tryd.prog 39 #[.agg #[.int .i64 a.ax, .int .i64 a.ay, .int .i64 a.bx, .int .i64 a.by_], .agg #[.int .i64 b.ax, .int .i64 b.ay, .int .i64 b.bx, .int .i64 b.by_]] w fun e w' => ∃ g : Int, e = .returned (.tuple #[.int .i64 g, .int .i64 0]) ∧ GapIs (ssF a b).num (ssF a b).den g ∧ RowKit.Below w.heap.size w w' := by
  obtain ⟨W0, hW⟩ : ∃ W0 : World, W0 = (w.alloc (.cells #[.int .i64 a.ax, .int .i64 a.ay, .int .i64 a.bx, .int .i64 a.by_] 72)).alloc (.cells #[.int .i64 b.ax, .int .i64 b.ay, .int .i64 b.bx, .int .i64 b.by_] 72) := ⟨_, rfl⟩
  obtain ⟨S, T, B⟩ := box_ss w a b hW
  have HB0 := Lib.hid B
  clear B
  obtain ⟨c0, c1, c2, c3⟩ := S.cells
  obtain ⟨d0, d1, d2, d3⟩ := T.cells
  clear S T
  have hsm := ss_small2 h1 h2
  have hs2 := ss_small h1 h2
  have hnn : 0 ≤ (ssF a b).num ∧ 1 ≤ (ssF a b).den := by
    obtain ⟨x, y, e, _, hy, _⟩ := fracOk_nat (ss_ok h1 h2)
    rw [e]; exact ⟨by show (0 : Int) ≤ (x : Int); omega, by show (1 : Int) ≤ (y : Int); omega⟩
  go_enter Tryd.func39, Tryd.ntmps39
  go_wp2_with fail
  rw [← hW]
  clear hW
  refine (segmentSquareC_any a b _ h1 h2).mono ?_
  rintro e w1 ⟨rfl, hb1⟩
  clear c0 c1 c2 c3 d0 d1 d2 d3
  have HB1 := Lib.hid (HB0.out.trans (hb1.mono HB0.out.size))
  clear hb1
  obtain ⟨⟨N, M⟩, hf⟩ : ∃ f, ssF a b = f := ⟨_, rfl⟩
  have HFF := Lib.hid hf
  rw [hf] at hsm hnn hs2 ⊢
  dsimp only at hsm hnn hs2 ⊢
  clear hf
  obtain ⟨V, hV⟩ : ∃ V : World, V = w1.alloc (.cells #[.int .i64 N, .int .i64 M] 76) := ⟨_, rfl⟩
  have FV : FrB V w1.heap.size ⟨N, M⟩ := by rw [hV]; exact Blk.new _ _ _
  have HBV : Hid (RowKit.Below w.heap.size w V) := by show _; rw [hV]; exact HB1.out.alloc HB1.out.size _
  obtain ⟨g0, g1⟩ := FV.cells
  have G0 := Lib.hid g0
  have G1 := Lib.hid g1
  clear FV g0 g1
  go_wp2
  rw [← hV]
  clear hV
  go_loopw [8, 9] (fun lv hv wr => ∃ l h : Int, lv = .int .i64 l ∧ hv = .int .i64 h ∧ 0 ≤ l ∧ l ≤ h ∧ h ≤ 32000 ∧ l * l * M ≤ N ∧ N < (h + 1) * (h + 1) * M ∧ V = wr) (fun lv hv _ => (intOf hv - intOf lv).toNat)
  case atStart => exact ⟨0, 32000, rfl, rfl, by omega, by omega, by omega, by omega, by omega, rfl⟩
  case round =>
    obtain ⟨l, h, rfl, rfl, hl0, hlh, hh, hlo, hhi, rfl⟩ := hrel
    have HLO := Lib.hid hlo
    have HHI := Lib.hid hhi
    clear hlo hhi
    by_cases hlt : l < h
    · obtain ⟨m1, m2, m3, m4⟩ := mid_gap hl0 hlt hh
      have g0 := G0.out
      have g1 := G1.out
      have k1 : IntKind.i64.wrap ((l + h + 1) / 2 * ((l + h + 1) / 2)) = (l + h + 1) / 2 * ((l + h + 1) / 2) := wrapI (by omega)
      have m5 : 0 ≤ (l + h + 1) / 2 * ((l + h + 1) / 2) * M ∧ (l + h + 1) / 2 * ((l + h + 1) / 2) * M ≤ 1024000000 * 2880000 := ⟨Int.mul_nonneg m3 (by omega), Int.mul_le_mul m4 hsm.2 (by omega) (by omega)⟩
      have k2 : IntKind.i64.wrap ((l + h + 1) / 2 * ((l + h + 1) / 2) * M) = (l + h + 1) / 2 * ((l + h + 1) / 2) * M := wrapI (by omega)
      by_cases hc : (l + h + 1) / 2 * ((l + h + 1) / 2) * M ≤ N
      · have HC := Lib.hid hc
        go_wp2
        go_roundw
        case rel => exact ⟨(l + h + 1) / 2, h, rfl, rfl, by omega, m2, hh, HC.out, HHI.out, by first | rfl | trivial⟩
        case measure => simp [intOf]; omega
      · have HC : Hid (N < ((l + h + 1) / 2 - 1 + 1) * ((l + h + 1) / 2 - 1 + 1) * M) := by show _ < _; rw [Int.sub_add_cancel]; omega
        go_wp2
        go_roundw
        case rel => exact ⟨l, (l + h + 1) / 2 - 1, rfl, rfl, hl0, by omega, by omega, HLO.out, HC.out, by first | rfl | trivial⟩
        case measure => simp [intOf]; omega
    · have hlh2 : l = h := by omega
      subst hlh2
      go_wp2
      go_ret2
      exact ⟨l, rfl, by rw [HFF.out]; exact ⟨hl0, hh, HLO.out, HHI.out⟩, HBV.out⟩

set_option maxHeartbeats 1000000 in
theorem l02OkD_any (p : Pt) (w : World) (hp : p.ok) :
    Calls Tryd.prog 98 #[.agg #[.int .i64 p.x, .int .i64 p.y]] w fun e w' => e = .returned (.bool true) ∧ RowKit.Below w.heap.size w w' := by
  obtain ⟨a1, a2⟩ := hp
  have i1 : inB p.x (-10000) 10000 = true := inB_true.2 (by omega)
  have i2 : inB p.y (-10000) 10000 = true := inB_true.2 (by omega)
  go_enter Tryd.func98, Tryd.ntmps98
  go_wp2_with (go_at_call 146; refine (l00In_any _ _ _ _).mono ?_; rintro e w1 ⟨rfl, rfl⟩; rw [inB_true.2 (by omega)])
  go_ret
  exact ⟨rfl, (Below.refl _ _).alloc (Nat.le_refl _) _⟩
theorem box_pp (w : World) (a b : Pt) {W : World} (hW : W = (w.alloc (.cells #[.int .i64 a.x, .int .i64 a.y] 41)).alloc (.cells #[.int .i64 b.x, .int .i64 b.y] 41)) :
    PtB W w.heap.size a ∧ PtB W (w.heap.size + 1) b ∧ RowKit.Below w.heap.size w W := by
  subst hW
  exact ⟨(Blk.new _ _ _).alloc _, Blk.new_at rfl (by simp), ((Below.refl _ _).alloc (Nat.le_refl _) _).alloc (by simp) _⟩
theorem sqP_D (p q : Pt) : sqD p.x p.y q.x q.y = sqP p q := rfl
set_option maxHeartbeats 1000000 in
theorem squareBetween_any (p q : Pt) (w : World) (hp : p.ok) (hq : q.ok) :
    Calls Tryd.prog 42 #[.agg #[.int .i64 p.x, .int .i64 p.y], .agg #[.int .i64 q.x, .int .i64 q.y]] w fun e w' => e = .returned (.tuple #[.int .i64 (sqP p q), .int .i64 0]) ∧ RowKit.Below w.heap.size w w' := by
  obtain ⟨W0, hW⟩ : ∃ W0 : World, W0 = (w.alloc (.cells #[.int .i64 p.x, .int .i64 p.y] 41)).alloc (.cells #[.int .i64 q.x, .int .i64 q.y] 41) := ⟨_, rfl⟩
  obtain ⟨S, T, B⟩ := box_pp w p q hW
  have HS0 := Lib.hid S
  have HT0 := Lib.hid T
  have HB0 := Lib.hid B
  clear B
  obtain ⟨c0, c1⟩ := S.cells
  obtain ⟨d0, d1⟩ := T.cells
  clear S T
  go_enter Tryd.func42, Tryd.ntmps42
  go_wp2_with fail
  rw [← hW]
  clear hW
  refine (l02OkD_any p _ hp).mono ?_
  rintro e w1 ⟨rfl, hb1⟩
  clear c0 c1 d0 d1
  have HS1 := Lib.hid (HS0.out.bel hb1)
  have HT1 := Lib.hid (HT0.out.bel hb1)
  have HB1 := Lib.hid (HB0.out.trans (hb1.mono HB0.out.size))
  clear hb1
  obtain ⟨c0, c1⟩ := HS1.out.cells
  obtain ⟨d0, d1⟩ := HT1.out.cells
  go_wp2_with fail
  refine (l02OkD_any q _ hq).mono ?_
  rintro e w2 ⟨rfl, hb2⟩
  clear c0 c1 d0 d1
  have HS2 := Lib.hid (HS1.out.bel hb2)
  have HT2 := Lib.hid (HT1.out.bel hb2)
  have HB2 := Lib.hid (HB1.out.trans (hb2.mono HB1.out.size))
  clear hb2
  obtain ⟨c0, c1⟩ := HS2.out.cells
  obtain ⟨d0, d1⟩ := HT2.out.cells
  go_wp2_with fail
  refine (l02Square_any p.x p.y q.x q.y _ hp.x hp.y hq.x hq.y).mono ?_
  rintro e w3 ⟨rfl, hb3⟩
  rw [sqP_D]
  go_wp2
  go_ret2
  exact ⟨rfl, HB2.out.trans (hb3.mono HB2.out.size)⟩
end Go.Proofs.YtdhobglhjdgboaaDoor
