/- CompareFractions of the reference hands back cfN and cfCode. -/
import Derived.Test.YthlfmhigbhcljaaCompare
namespace Go.Proofs.Ythlfmhigbhcljaa
open Go.RowKit
set_option linter.unusedVariables false

theorem l14Less_eq (an ad bn bd : Nat) (h1 : an ≤ 9223372036854775807) (h2 : ad ≤ 9223372036854775807) (h3 : bn ≤ 9223372036854775807) (h4 : bd ≤ 9223372036854775807) (ha : 0 < ad) (hb : 0 < bd) (w : World) {v : Bool} (h : lessB an ad bn bd = v) :
    Calls Try.prog 63 #[.agg #[.int .i64 an, .int .i64 ad], .agg #[.int .i64 bn, .int .i64 bd]] w fun e w' => e = .returned (.bool v) ∧ Below w.heap.size w w' := by subst h; exact l14Less_any an ad bn bd h1 h2 h3 h4 ha hb w
theorem cf_cases (an ad bn bd : Nat) : (lessB an ad bn bd = true ∧ sgn ((an * bd : Nat) : Int) ((bn * ad : Nat) : Int) = -1) ∨ (lessB an ad bn bd = false ∧ lessB bn bd an ad = true ∧ sgn ((an * bd : Nat) : Int) ((bn * ad : Nat) : Int) = 1) ∨ (lessB an ad bn bd = false ∧ lessB bn bd an ad = false ∧ sgn ((an * bd : Nat) : Int) ((bn * ad : Nat) : Int) = 0) := by
  unfold lessB
  rcases sgn_cases ((an * bd : Nat) : Int) ((bn * ad : Nat) : Int) with ⟨h1, h⟩ | ⟨h0, h1, h⟩ | ⟨h0, h1, h⟩
  · exact .inl ⟨decide_eq_true (by omega), h⟩
  · exact .inr (.inl ⟨decide_eq_false (by omega), decide_eq_true (by omega), h⟩)
  · exact .inr (.inr ⟨decide_eq_false (by omega), decide_eq_false (by omega), h⟩)

set_option maxHeartbeats 800000 in
theorem specCompareFractions_any (a b : Fraction) (w : World) :
    Calls Try.prog 14 #[.agg #[.int .i64 a.num, .int .i64 a.den], .agg #[.int .i64 b.num, .int .i64 b.den]] w fun e w' => e = .returned (.tuple #[.int .i64 (cfN a b), .int .i64 (cfCode a b)]) ∧ Below w.heap.size w w' := by
  obtain ⟨W, hW⟩ : ∃ W : World, W = (w.alloc (.cells #[.int .i64 a.num, .int .i64 a.den] 26)).alloc (.cells #[.int .i64 b.num, .int .i64 b.den] 26) := ⟨_, rfl⟩
  have hbW : Below w.heap.size w W := by rw [hW]; exact ((Below.refl _ _).alloc (Nat.le_refl _) _).alloc (by simp) _
  have hs : W.heap.size = w.heap.size + 2 := by rw [hW]; simp
  have a0 : W.cell? ⟨w.heap.size, 0, none⟩ = some (.int .i64 a.num) := by rw [hW]; rw [World.cell?_alloc_lt _ _ _ (by simp)]; simp
  have a1 : W.cell? ⟨w.heap.size, 1, none⟩ = some (.int .i64 a.den) := by rw [hW]; rw [World.cell?_alloc_lt _ _ _ (by simp)]; simp
  have b0 : W.cell? ⟨w.heap.size + 1, 0, none⟩ = some (.int .i64 b.num) := by rw [hW]; simp
  have b1 : W.cell? ⟨w.heap.size + 1, 1, none⟩ = some (.int .i64 b.den) := by rw [hW]; simp
  cases ha : fracOk a
  · have H : Hid (cfN a b = 0 ∧ cfCode a b = 1) := by show _ ∧ _; unfold cfN cfCode; rw [ha]; exact ⟨rfl, rfl⟩
    go_enter Try.func14, Try.ntmps14
    go_wp2_with fail
    rw [← hW]
    clear hW hs
    refine (l14Plain_eq a _ ha).mono ?_
    rintro e w1 ⟨rfl, hb1⟩
    go_wp2
    go_ret2
    exact ⟨by rw [H.out.1, H.out.2]; rfl, hbW.trans (hb1.mono hbW.size)⟩
  · cases hb : fracOk b
    · have H : Hid (cfN a b = 0 ∧ cfCode a b = 1) := by show _ ∧ _; unfold cfN cfCode; rw [ha, hb]; exact ⟨rfl, rfl⟩
      go_enter Try.func14, Try.ntmps14
      go_wp2_with fail
      rw [← hW]
      clear hW
      refine (l14Plain_eq a _ ha).mono ?_
      rintro e w1 ⟨rfl, hb1⟩
      have b01 := (hb1.cell (p := ⟨w.heap.size + 1, 0, none⟩) (show w.heap.size + 1 < _ by omega)).trans b0
      have b11 := (hb1.cell (p := ⟨w.heap.size + 1, 1, none⟩) (show w.heap.size + 1 < _ by omega)).trans b1
      clear hs
      go_wp2_with fail
      refine (l14Plain_eq b _ hb).mono ?_
      rintro e w2 ⟨rfl, hb2⟩
      go_wp2
      go_ret2
      exact ⟨by rw [H.out.1, H.out.2]; rfl, (hbW.trans (hb1.mono hbW.size)).trans (hb2.mono (Nat.le_trans hbW.size hb1.size))⟩
    · obtain ⟨an, ad, rfl, la, la0, lad⟩ := fracOk_nat ha
      obtain ⟨bn, bd, rfl, lb, lb0, lbd⟩ := fracOk_nat hb
      have H : Hid (cfN ⟨an, ad⟩ ⟨bn, bd⟩ = sgn ((an * bd : Nat) : Int) ((bn * ad : Nat) : Int) ∧ cfCode ⟨an, ad⟩ ⟨bn, bd⟩ = 0) := by show _ ∧ _; unfold cfN cfCode; rw [ha, hb]; exact ⟨rfl, rfl⟩
      have hcases := cf_cases an ad bn bd
      generalize sgn ((an * bd : Nat) : Int) ((bn * ad : Nat) : Int) = S at *
      go_enter Try.func14, Try.ntmps14
      go_wp2_with fail
      rw [← hW]
      clear hW
      refine (l14Plain_eq ⟨an, ad⟩ _ ha).mono ?_
      rintro e w1 ⟨rfl, hb1⟩
      have hs1 := hb1.size
      have a01 := (hb1.cell (p := ⟨w.heap.size, 0, none⟩) (show w.heap.size < _ by omega)).trans a0
      have a11 := (hb1.cell (p := ⟨w.heap.size, 1, none⟩) (show w.heap.size < _ by omega)).trans a1
      have b01 := (hb1.cell (p := ⟨w.heap.size + 1, 0, none⟩) (show w.heap.size + 1 < _ by omega)).trans b0
      have b11 := (hb1.cell (p := ⟨w.heap.size + 1, 1, none⟩) (show w.heap.size + 1 < _ by omega)).trans b1
      have hl : w.heap.size + 2 ≤ w1.heap.size := by omega
      have HB := Lib.hid (hbW.trans (hb1.mono hbW.size))
      clear hs hs1 hb1 hbW a0 a1 b0 b1
      go_wp2_with fail
      refine (l14Plain_eq ⟨bn, bd⟩ _ hb).mono ?_
      rintro e w2 ⟨rfl, hb2⟩
      have a02 := (hb2.cell (p := ⟨w.heap.size, 0, none⟩) (show w.heap.size < _ by omega)).trans a01
      have a12 := (hb2.cell (p := ⟨w.heap.size, 1, none⟩) (show w.heap.size < _ by omega)).trans a11
      have b02 := (hb2.cell (p := ⟨w.heap.size + 1, 0, none⟩) (show w.heap.size + 1 < _ by omega)).trans b01
      have b12 := (hb2.cell (p := ⟨w.heap.size + 1, 1, none⟩) (show w.heap.size + 1 < _ by omega)).trans b11
      have hl2 : w.heap.size + 2 ≤ w2.heap.size := by have := hb2.size; omega
      have HB2 := Lib.hid (HB.out.trans (hb2.mono HB.out.size))
      clear hb2 a01 a11 b01 b11
      rcases hcases with ⟨q1, qs⟩ | ⟨q1, q2, qs⟩ | ⟨q1, q2, qs⟩
      · subst qs
        go_wp2_with fail
        refine (l14Less_eq an ad bn bd (by omega) (by omega) (by omega) (by omega) (by omega) (by omega) _ q1).mono ?_
        rintro e w3 ⟨rfl, hb3⟩
        go_wp2
        go_ret2
        exact ⟨by rw [H.out.1, H.out.2]; rfl, HB2.out.trans (hb3.mono HB2.out.size)⟩
      · subst qs
        go_wp2_with fail
        refine (l14Less_eq an ad bn bd (by omega) (by omega) (by omega) (by omega) (by omega) (by omega) _ q1).mono ?_
        rintro e w3 ⟨rfl, hb3⟩
        have a03 := (hb3.cell (p := ⟨w.heap.size, 0, none⟩) (show w.heap.size < _ by omega)).trans a02
        have a13 := (hb3.cell (p := ⟨w.heap.size, 1, none⟩) (show w.heap.size < _ by omega)).trans a12
        have b03 := (hb3.cell (p := ⟨w.heap.size + 1, 0, none⟩) (show w.heap.size + 1 < _ by omega)).trans b02
        have b13 := (hb3.cell (p := ⟨w.heap.size + 1, 1, none⟩) (show w.heap.size + 1 < _ by omega)).trans b12
        have HB3 := Lib.hid (HB2.out.trans (hb3.mono HB2.out.size))
        clear hb3 a02 a12 b02 b12
        go_wp2_with fail
        refine (l14Less_eq bn bd an ad (by omega) (by omega) (by omega) (by omega) (by omega) (by omega) _ q2).mono ?_
        rintro e w4 ⟨rfl, hb4⟩
        go_wp2
        go_ret2
        exact ⟨by rw [H.out.1, H.out.2]; rfl, HB3.out.trans (hb4.mono HB3.out.size)⟩
      · subst qs
        go_wp2_with fail
        refine (l14Less_eq an ad bn bd (by omega) (by omega) (by omega) (by omega) (by omega) (by omega) _ q1).mono ?_
        rintro e w3 ⟨rfl, hb3⟩
        have a03 := (hb3.cell (p := ⟨w.heap.size, 0, none⟩) (show w.heap.size < _ by omega)).trans a02
        have a13 := (hb3.cell (p := ⟨w.heap.size, 1, none⟩) (show w.heap.size < _ by omega)).trans a12
        have b03 := (hb3.cell (p := ⟨w.heap.size + 1, 0, none⟩) (show w.heap.size + 1 < _ by omega)).trans b02
        have b13 := (hb3.cell (p := ⟨w.heap.size + 1, 1, none⟩) (show w.heap.size + 1 < _ by omega)).trans b12
        have HB3 := Lib.hid (HB2.out.trans (hb3.mono HB2.out.size))
        clear hb3 a02 a12 b02 b12
        go_wp2_with fail
        refine (l14Less_eq bn bd an ad (by omega) (by omega) (by omega) (by omega) (by omega) (by omega) _ q2).mono ?_
        rintro e w4 ⟨rfl, hb4⟩
        go_wp2
        go_ret2
        exact ⟨by rw [H.out.1, H.out.2]; rfl, HB3.out.trans (hb4.mono HB3.out.size)⟩
end Go.Proofs.Ythlfmhigbhcljaa
