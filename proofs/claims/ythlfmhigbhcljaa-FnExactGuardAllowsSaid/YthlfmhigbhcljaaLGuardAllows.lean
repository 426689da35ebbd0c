/- FnExactGuardAllows: the walk: the law returns true for every input. -/
import Derived.Test.YthlfmhigbhcljaaGuard2
import Derived.Deep.RegionHeld3
import Derived.RegionTactic
namespace Go.Proofs.Ythlfmhigbhcljaa.lawGuardAllows
open Go.RowKit
set_option linter.unusedVariables false

theorem rows_bound {rs rs' : List (Row Bool)} {B : Nat} (hv : vals rs' = vals rs) (h1 : ∀ r ∈ rs, r.xs.length = r.n) (h2 : ∀ r ∈ rs', r.xs.length = r.n) (hb : ∀ r ∈ rs, r.n ≤ B) : ∀ r ∈ rs', r.n ≤ B := by
  intro r hr
  have : r.xs ∈ vals rs' := List.mem_map.2 ⟨r, hr, rfl⟩
  rw [hv] at this
  obtain ⟨q, hq, e⟩ := List.mem_map.1 this
  rw [← h2 r hr, ← e, h1 q hq]; exact hb q hq

set_option maxRecDepth 100000 in
set_option maxHeartbeats 3200000 in
theorem walk (A0 : Option Addr) (n0 c0 : Nat) (rs : List (Row Bool)) (v : Watch) (first : Bool) (d s : Int) (w : World) (hn0 : n0 ≤ 9223372036854775807) (h0 : Arr2 bc 1 w 0 w.heap.size A0 n0 rs) (hp : ∀ r ∈ rs, r.n ≤ 9223372036854775807) (hi1 : v.wf) (hi3 : (Lit.int .i64 d).wf = true) (hi4 : (Lit.int .i64 s).wf = true) :
    Calls Try.prog 6 #[.slice A0 n0 c0, .agg #[.int .i64 v.margin, .int .i64 v.lost], .bool first, .int .i64 d, .int .i64 s] w fun e w' => e = .returned (.bool true) ∧ Below w.heap.size w w' := by
  obtain ⟨W, hW⟩ : ∃ W : World, W = w.alloc (.cells #[.int .i64 v.margin, .int .i64 v.lost] 40) := ⟨_, rfl⟩
  have B0 : Below w.heap.size w W := by rw [hW]; exact (Below.refl _ _).alloc (Nat.le_refl _) _
  have S0 : w.heap.size < W.heap.size := by rw [hW]; simp
  have x0 : W.cell? ⟨w.heap.size, 0, none⟩ = some (.int .i64 v.margin) := by rw [hW]; simp
  have x1 : W.cell? ⟨w.heap.size, 1, none⟩ = some (.int .i64 v.lost) := by rw [hW]; simp
  have h1 := h0.below B0
  have hlen := h0.lens
  clear h0
  have HL := Lib.hid hlen
  have HP := Lib.hid hp
  clear hlen hp
  by_cases hs : szBoolSS n0 rs ≤ 1048576
  · have m0 : n0 ≤ 1048576 := by unfold szBoolSS at hs; omega
    have hr : ∀ r ∈ rs, r.n ≤ 1048576 := fun r hr => by have := mem_tot Row.n rs r hr; unfold szBoolSS at hs; omega
    have HR := Lib.hid hr
    have HS := Lib.hid hs
    clear hr hs
    go_enter Try.func6, Try.ntmps6
    go_wp2_with fail
    rw [← hW]
    clear hW
    refine (szBoolSS_ok _ _ _ rs _ _ _ (h1.more (by omega)) hn0 HP.out (by omega) (by omega) HS.out).mono ?_
    rintro e w1 ⟨rfl, hb1⟩
    have B1 := B0.trans (hb1.mono (by omega))
    have S1 := hb1.size
    have y0 := (hb1.cell (p := ⟨w.heap.size, 0, none⟩) (show w.heap.size < _ by omega)).trans x0
    have y1 := (hb1.cell (p := ⟨w.heap.size, 1, none⟩) (show w.heap.size < _ by omega)).trans x1
    have h2 := h1.below (hb1.mono (by omega))
    have hz : ¬ (1048576 - szBoolSS n0 rs < 0) := by have := HS.out; omega
    clear x0 x1 h1 B0 hb1
    go_wp2_with fail
    have hD := h2.below ((Below.refl w.heap.size w1).drew)
    have BD := B1.drew
    have SD : w.heap.size < w1.drew.heap.size := show w.heap.size < w1.heap.size by omega
    have z0 : w1.drew.cell? ⟨w.heap.size, 0, none⟩ = some (.int .i64 v.margin) := y0
    have z1 : w1.drew.cell? ⟨w.heap.size, 1, none⟩ = some (.int .i64 v.lost) := y1
    have HD := Lib.hid hD
    have HY0 := Lib.hid z0
    have HY1 := Lib.hid z1
    have HBD := Lib.hid BD
    clear hD z0 z1 BD h2 B1
    go_region_held3 (fun w' => w'.cell? ⟨w.heap.size, 0, none⟩ = some (.int .i64 v.margin) ∧ w'.cell? ⟨w.heap.size, 1, none⟩ = some (.int .i64 v.lost)) (first | go_keep | exact ⟨(hb2.cell (p := ⟨w.heap.size, 0, none⟩) SD).trans HY0.out, (hb2.cell (p := ⟨w.heap.size, 1, none⟩) SD).trans HY1.out⟩ | exact ⟨K3.1, K3.2⟩ | exact ⟨(hb4.cell (p := ⟨w.heap.size, 0, none⟩) (Nat.lt_of_lt_of_le (Nat.lt_of_lt_of_le SD hb2.size) hb3.size)).trans K3.1, (hb4.cell (p := ⟨w.heap.size, 1, none⟩) (Nat.lt_of_lt_of_le (Nat.lt_of_lt_of_le SD hb2.size) hb3.size)).trans K3.2⟩) ((first | (go_at_call 28; refine (toBoolSS_any _ _ _ rs _ _ (HD.out.more (Nat.le_of_lt SD)) m0 HR.out).mono ?_; rintro e w2 ⟨A2, rs2, rfl, hv2, ha2, hb2⟩) | (go_at_call 29; refine (toWatch_any v _).mono ?_; rintro e w3 ⟨rfl, hb3⟩; have K3 := And.intro ((hb3.cell (p := ⟨w.heap.size, 0, none⟩) (Nat.lt_of_lt_of_le SD hb2.size)).trans ((hb2.cell (p := ⟨w.heap.size, 0, none⟩) SD).trans HY0.out)) ((hb3.cell (p := ⟨w.heap.size, 1, none⟩) (Nat.lt_of_lt_of_le SD hb2.size)).trans ((hb2.cell (p := ⟨w.heap.size, 1, none⟩) SD).trans HY1.out))) | (go_at_call 27; refine (specGuardAllows_any _ _ _ rs2 v first d s _ _ ((ha2.below hb3).more hb3.size) hn0).mono ?_; rintro e w4 ⟨rfl, hb4⟩)))
    rw [guardB_same hv2 ha2.lens HL.out]
    have K4 := And.intro ((hb4.cell (p := ⟨w.heap.size, 0, none⟩) (Nat.lt_of_lt_of_le (Nat.lt_of_lt_of_le SD hb2.size) hb3.size)).trans K3.1) ((hb4.cell (p := ⟨w.heap.size, 1, none⟩) (Nat.lt_of_lt_of_le (Nat.lt_of_lt_of_le SD hb2.size) hb3.size)).trans K3.2)
    have B4 := HBD.out.trans (((hb2.trans (hb3.mono hb2.size)).trans (hb4.mono (Nat.le_trans hb2.size hb3.size))).mono (Nat.le_of_lt SD))
    have S4 : w.heap.size < w4.heap.size := Nat.lt_of_lt_of_le (Nat.lt_of_lt_of_le (Nat.lt_of_lt_of_le SD hb2.size) hb3.size) hb4.size
    have h4 := HD.out.below (((hb2.trans (hb3.mono hb2.size)).trans (hb4.mono (Nat.le_trans hb2.size hb3.size))).mono (Nat.le_of_lt SD))
    have k40 := K4.1
    have k41 := K4.2
    clear K3 K4 ha2 hv2 hb2 hb3 hb4 SD S1 y0 y1
    obtain ⟨G, hG⟩ : ∃ G, guardB rs v first d s = G := ⟨_, rfl⟩
    rw [hG]
    have HG := Lib.hid hG
    clear hG
    go_wp2_with fail
    refine (toBoolSS_any _ _ _ rs _ _ (h4.more (Nat.le_of_lt S4)) m0 HR.out).mono ?_
    rintro e w5 ⟨A5, rs5, rfl, hv5, ha5, hb5⟩
    have k50 := (hb5.cell (p := ⟨w.heap.size, 0, none⟩) S4).trans k40
    have k51 := (hb5.cell (p := ⟨w.heap.size, 1, none⟩) S4).trans k41
    have B5 := B4.trans (hb5.mono (Nat.le_of_lt S4))
    have S5 : w.heap.size < w5.heap.size := Nat.lt_of_lt_of_le S4 hb5.size
    have h5 := h4.below (hb5.mono (Nat.le_of_lt S4))
    have HV5 := Lib.hid hv5
    clear k40 k41 B4 h4 hv5
    go_wp2_with fail
    refine (toWatch_any v _).mono ?_
    rintro e w6 ⟨rfl, hb6⟩
    have B6 := B5.trans (hb6.mono (Nat.le_of_lt S5))
    have S6 : w.heap.size < w6.heap.size := Nat.lt_of_lt_of_le S5 hb6.size
    have h6 := h5.below (hb6.mono (Nat.le_of_lt S5))
    have ha6 := (ha5.below hb6).more hb6.size
    have hlo6 : w4.heap.size ≤ w6.heap.size := Nat.le_trans hb5.size hb6.size
    clear k50 k51 B5 h5 ha5 hb5 hb6
    go_wp2_with fail
    refine (guardAllows_any _ _ _ rs5 v first d s _ _ ha6 hn0).mono ?_
    rintro e w7 ⟨rfl, hb7⟩
    have B7 := B6.trans (hb7.mono (Nat.le_of_lt S6))
    have S7 : w.heap.size < w7.heap.size := Nat.lt_of_lt_of_le S6 hb7.size
    have h7 := h6.below (hb7.mono (Nat.le_of_lt S6))
    have ha7 := (ha6.below hb7).more hb7.size
    have hlens5 := ha6.lens
    rw [guardB_same HV5.out hlens5 HL.out, HG.out]
    clear B6 h6 ha6 hb7
    go_wp2_with fail
    refine (toBoolSS_any _ _ _ rs _ _ (h7.more (Nat.le_of_lt S7)) m0 HR.out).mono ?_
    rintro e w8 ⟨A8, rs8, rfl, hv8, ha8, hb8⟩
    have B8 := B7.trans (hb8.mono (Nat.le_of_lt S7))
    have ha78 := (ha7.below hb8).more hb8.size
    have S8 : w.heap.size < w8.heap.size := Nat.lt_of_lt_of_le S7 hb8.size
    have HV8 := Lib.hid hv8
    clear B7 h7 ha7 hb8 hv8
    go_wp2_with fail
    refine (eqBoolSS_same _ _ _ _ _ rs5 rs8 _ _ _ ha78 ha8 (HV5.out.trans HV8.out.symm) hn0 (fun r hr => Nat.le_trans (rows_bound HV5.out HL.out hlens5 HR.out r hr) (by omega))).mono ?_
    rintro e w9 ⟨rfl, hb9⟩
    go_wp2
    go_ret
    exact ⟨rfl, B8.trans (hb9.mono (Nat.le_of_lt S8))⟩
  · have HS : Hid (1048576 < szBoolSS n0 rs) := by show _ < _; omega
    clear hs
    go_enter Try.func6, Try.ntmps6
    go_wp2_with fail
    rw [← hW]
    clear hW
    refine (szBoolSS_no _ _ _ rs _ _ _ (h1.more (by omega)) hn0 HP.out (by omega) (by omega) HS.out).mono ?_
    rintro e w1 ⟨rfl, hb1⟩
    go_wp2
    go_ret
    exact ⟨rfl, B0.trans (hb1.mono (by omega))⟩
end Go.Proofs.Ythlfmhigbhcljaa.lawGuardAllows
