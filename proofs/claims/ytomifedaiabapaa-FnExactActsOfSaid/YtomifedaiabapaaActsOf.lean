/- ActsOf: both sides. -/
import Derived.Test.YtomifedaiabapaaActs
import Derived.Test.YtomifedaiabapaaSpecActs
namespace Go.Proofs.Ytomifedaiabapaa
open Go.RowKit
set_option linter.unusedVariables false

def aoXs (rs : List (Row Bool)) (v : Watch) (p : Wld) : List Dact := if waCode rs v p = 0 then actsTo (canN rs v.margin.toNat v.lost p.a.toNat p.b.toNat p.sa.toNat p.sb.toNat p.ga p.gb) 36 else []
theorem wld_nat {v : Watch} {p : Wld} (h : wldOk v p = true) : ∃ mn an bn sn tn : Nat, v.margin = mn ∧ p.a = an ∧ p.b = bn ∧ p.sa = sn ∧ p.sb = tn ∧ mn < 4 ∧ an < 24 ∧ bn < 24 ∧ sn < 24 ∧ tn < 24 := by
  unfold wldOk wOk seenB at h
  simp only [Bool.and_eq_true] at h
  obtain ⟨⟨h1, _⟩, ⟨ha, hsa, _⟩, ⟨hb, hsb, _⟩⟩ := h
  obtain ⟨an, e1, l1⟩ := inB_nat ha
  obtain ⟨bn, e2, l2⟩ := inB_nat hb
  obtain ⟨sn, e3, l3⟩ := inB_nat hsa
  obtain ⟨tn, e4, l4⟩ := inB_nat hsb
  have h5 := inB_true.1 h1
  exact ⟨v.margin.toNat, an, bn, sn, tn, by omega, e1, e2, e3, e4, by omega, l1, l2, l3, l4⟩
set_option maxRecDepth 100000 in
set_option maxHeartbeats 1600000 in
theorem actsOf_any (A : Option Addr) (n c : Nat) (rs : List (Row Bool)) (v : Watch) (p : Wld) (w : World) (lo : Nat) (h : Arr2 bc 1 w lo w.heap.size A n rs) (hn : n ≤ 9223372036854775807) :
    Calls Try.prog 14 #[.slice A n c, .agg #[.int .i64 v.margin, .int .i64 v.lost], .agg #[.int .i64 p.a, .int .i64 p.b, .int .i64 p.sa, .int .i64 p.sb, .int .i64 p.ga, .int .i64 p.gb]] w (RetS Dact.cs 4 115 (aoXs rs v p) (waCode rs v p) w) := by
  obtain ⟨W, hW⟩ : ∃ W : World, W = (w.alloc (.cells #[.int .i64 v.margin, .int .i64 v.lost] 32)).alloc (.cells #[.int .i64 p.a, .int .i64 p.b, .int .i64 p.sa, .int .i64 p.sb, .int .i64 p.ga, .int .i64 p.gb] 34) := ⟨_, rfl⟩
  have hbW : Below w.heap.size w W := by rw [hW]; exact ((Below.refl _ _).alloc (Nat.le_refl _) _).alloc (by simp) _
  have hvp : VP W w.heap.size v p := by rw [hW]; exact VP.new w v p
  have hA := (h.below hbW).more hbW.size
  obtain ⟨x0, x1, y0, y1, y2, y3, y4, y5⟩ := hvp.cells
  clear h
  by_cases h0 : waCode rs v p = 0
  · have ht : tabOk rs = true := by
      cases e : tabOk rs
      · unfold waCode at h0; rw [e, if_neg (by decide)] at h0; exact absurd h0 (by decide)
      · rfl
    have hw : wldOk v p = true := by
      cases e : wldOk v p
      · unfold waCode at h0; rw [ht, e, if_pos rfl, if_neg (by decide)] at h0; exact absurd h0 (by decide)
      · rfl
    have HC : Hid (aoXs rs v p = actsTo (canN rs v.margin.toNat v.lost p.a.toNat p.b.toNat p.sa.toNat p.sb.toNat p.ga p.gb) 36) := if_pos h0
    have H0 := Lib.hid h0
    clear h0
    obtain ⟨margin, lost⟩ := v
    obtain ⟨a, b, sa, sb, ga, gb⟩ := p
    obtain ⟨mn, an, bn, sn, tn, e1, e2, e3, e4, e5, hmn, han, hbn, hsn, htn⟩ := wld_nat hw
    dsimp only at e1 e2 e3 e4 e5 hW x0 x1 y0 y1 y2 y3 y4 y5 ⊢
    subst e1 e2 e3 e4 e5
    clear hw
    go_enter Try.func14, Try.ntmps14
    go_wp2_with fail
    rw [← hW]
    clear hW
    refine (worldCode_any A n c rs ⟨mn, lost⟩ ⟨an, bn, sn, tn, ga, gb⟩ _ lo hA hn).mono ?_
    rintro e w1 ⟨rfl, hb1⟩
    rw [H0.out]
    clear x0 x1 y0 y1 y2 y3 y4 y5
    have hv1 := hvp.bel hb1
    obtain ⟨x0, x1, y0, y1, y2, y3, y4, y5⟩ := hv1.cells
    dsimp only at x0 x1 y0 y1 y2 y3 y4 y5
    have hA1 := (hA.below hb1).more hb1.size
    have HB1 := Lib.hid (hbW.trans (hb1.mono hbW.size))
    have hz1 := HB1.out.size
    clear hA hvp hb1 hbW hv1
    go_wp2_with fail
    refine (acts_any A n c rs mn lost an bn sn tn ga gb hmn han hbn hsn htn w1 lo hA1 ht).mono ?_
    rintro e w2 ⟨v2, rfl, hg2, hb2⟩
    have HF : Hid (RetS Dact.cs 4 115 (aoXs rs ⟨mn, lost⟩ ⟨an, bn, sn, tn, ga, gb⟩) 0 w (.returned (.tuple #[v2, .int .i64 0])) w2) := by
      rw [HC.out]
      have hb := HB1.out.trans (hb2.mono hz1)
      refine Grow.rets ⟨hg2.1, ?_⟩ Dact.cs_len hb
      rcases hg2.2 with h1 | ⟨g, cap, cur, r1, r2, r3⟩
      · exact .inl h1
      · exact .inr ⟨g, cap, cur, r1, by omega, r3⟩
    clear hg2 hb2
    go_wp2
    go_ret2
    rw [H0.out]
    exact HF.out
  · have HC : Hid (aoXs rs v p = []) := if_neg h0
    go_enter Try.func14, Try.ntmps14
    go_wp2_with fail
    rw [← hW]
    clear hW
    refine (worldCode_any A n c rs v p _ lo hA hn).mono ?_
    rintro e w1 ⟨rfl, hb1⟩
    go_wp2
    go_ret2
    rw [HC.out]
    exact RetS.nil (hbW.trans (hb1.mono hbW.size))
set_option maxRecDepth 100000 in
set_option maxHeartbeats 1600000 in
theorem specActsOf_any (A : Option Addr) (n c : Nat) (rs : List (Row Bool)) (v : Watch) (p : Wld) (w : World) (lo : Nat) (h : Arr2 bc 1 w lo w.heap.size A n rs) (hn : n ≤ 9223372036854775807) :
    Calls Try.prog 10 #[.slice A n c, .agg #[.int .i64 v.margin, .int .i64 v.lost], .agg #[.int .i64 p.a, .int .i64 p.b, .int .i64 p.sa, .int .i64 p.sb, .int .i64 p.ga, .int .i64 p.gb]] w (RetS Dact.cs 4 115 (aoXs rs v p) (waCode rs v p) w) := by
  obtain ⟨W, hW⟩ : ∃ W : World, W = (w.alloc (.cells #[.int .i64 v.margin, .int .i64 v.lost] 32)).alloc (.cells #[.int .i64 p.a, .int .i64 p.b, .int .i64 p.sa, .int .i64 p.sb, .int .i64 p.ga, .int .i64 p.gb] 34) := ⟨_, rfl⟩
  have hbW : Below w.heap.size w W := by rw [hW]; exact ((Below.refl _ _).alloc (Nat.le_refl _) _).alloc (by simp) _
  have hvp : VP W w.heap.size v p := by rw [hW]; exact VP.new w v p
  have hA := (h.below hbW).more hbW.size
  obtain ⟨x0, x1, y0, y1, y2, y3, y4, y5⟩ := hvp.cells
  clear h
  by_cases h0 : waCode rs v p = 0
  · have ht : tabOk rs = true := by
      cases e : tabOk rs
      · unfold waCode at h0; rw [e, if_neg (by decide)] at h0; exact absurd h0 (by decide)
      · rfl
    have hw : wldOk v p = true := by
      cases e : wldOk v p
      · unfold waCode at h0; rw [ht, e, if_pos rfl, if_neg (by decide)] at h0; exact absurd h0 (by decide)
      · rfl
    have HC : Hid (aoXs rs v p = actsTo (canN rs v.margin.toNat v.lost p.a.toNat p.b.toNat p.sa.toNat p.sb.toNat p.ga p.gb) 36) := if_pos h0
    have H0 := Lib.hid h0
    clear h0
    obtain ⟨margin, lost⟩ := v
    obtain ⟨a, b, sa, sb, ga, gb⟩ := p
    obtain ⟨mn, an, bn, sn, tn, e1, e2, e3, e4, e5, hmn, han, hbn, hsn, htn⟩ := wld_nat hw
    dsimp only at e1 e2 e3 e4 e5 hW x0 x1 y0 y1 y2 y3 y4 y5 ⊢
    subst e1 e2 e3 e4 e5
    clear hw
    go_enter Try.func10, Try.ntmps10
    go_wp2_with fail
    rw [← hW]
    clear hW
    refine (l19Code_any A n c rs ⟨mn, lost⟩ ⟨an, bn, sn, tn, ga, gb⟩ _ lo hA hn).mono ?_
    rintro e w1 ⟨rfl, hb1⟩
    rw [H0.out]
    clear x0 x1 y0 y1 y2 y3 y4 y5
    have hv1 := hvp.bel hb1
    obtain ⟨x0, x1, y0, y1, y2, y3, y4, y5⟩ := hv1.cells
    dsimp only at x0 x1 y0 y1 y2 y3 y4 y5
    have hA1 := (hA.below hb1).more hb1.size
    have HB1 := Lib.hid (hbW.trans (hb1.mono hbW.size))
    have hz1 := HB1.out.size
    clear hA hvp hb1 hbW hv1
    go_wp2_with fail
    refine (l19Acts_any A n c rs mn lost an bn sn tn ga gb hmn han hbn hsn htn w1 lo hA1 ht).mono ?_
    rintro e w2 ⟨v2, rfl, hg2, hb2⟩
    have HF : Hid (RetS Dact.cs 4 115 (aoXs rs ⟨mn, lost⟩ ⟨an, bn, sn, tn, ga, gb⟩) 0 w (.returned (.tuple #[v2, .int .i64 0])) w2) := by
      rw [HC.out]
      have hb := HB1.out.trans (hb2.mono hz1)
      refine Grow.rets ⟨hg2.1, ?_⟩ Dact.cs_len hb
      rcases hg2.2 with h1 | ⟨g, cap, cur, r1, r2, r3⟩
      · exact .inl h1
      · exact .inr ⟨g, cap, cur, r1, by omega, r3⟩
    clear hg2 hb2
    go_wp2
    go_ret2
    rw [H0.out]
    exact HF.out
  · have HC : Hid (aoXs rs v p = []) := if_neg h0
    go_enter Try.func10, Try.ntmps10
    go_wp2_with fail
    rw [← hW]
    clear hW
    refine (l19Code_any A n c rs v p _ lo hA hn).mono ?_
    rintro e w1 ⟨rfl, hb1⟩
    go_wp2
    go_ret2
    rw [HC.out]
    exact RetS.nil (hbW.trans (hb1.mono hbW.size))
end Go.Proofs.Ytomifedaiabapaa
