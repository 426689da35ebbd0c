/- l14Less of the reference: the fractions compared by their parts. -/
import Derived.Test.YthlfmhigbhcljaaRFraction
import Derived.Test.YthlfmhigbhcljaaFracLaw
namespace Go.Proofs.Ythlfmhigbhcljaa
open Go.RowKit
set_option linter.unusedVariables false

def lessB (an ad bn bd : Nat) : Bool := decide (an * bd < bn * ad)
theorem lessB_ne {an ad bn bd : Nat} (ha : 0 < ad) (hb : 0 < bd) (h : an / ad ≠ bn / bd) : lessB an ad bn bd = decide (((an / ad : Nat) : Int) < ((bn / bd : Nat) : Int)) := by
  unfold lessB
  rcases Nat.lt_or_gt_of_ne h with h1 | h1
  · rw [decide_eq_true (nat_lt_parts ha hb h1), decide_eq_true (by omega)]
  · have h2 := nat_lt_parts hb ha h1
    rw [decide_eq_false (by omega), decide_eq_false (by omega)]
theorem lessB_same {an ad bn bd : Nat} (h : an / ad = bn / bd) : lessB an ad bn bd = decide (an % ad * bd < bn % bd * ad) := by
  unfold lessB; exact decide_eq_decide.2 (nat_lt_same h)
theorem lessB_x0 {an ad bn bd : Nat} (ha : 0 < ad) (h : an / ad = bn / bd) (hx : an % ad = 0) : lessB an ad bn bd = decide ((0 : Int) < ((bn % bd : Nat) : Int)) := by
  rw [lessB_same h, hx, Nat.zero_mul]
  refine decide_eq_decide.2 ?_
  rw [Int.natCast_pos]
  exact ⟨fun h => Nat.pos_of_mul_pos_right h, fun h => Nat.mul_pos h ha⟩
theorem lessB_y0 {an ad bn bd : Nat} (h : an / ad = bn / bd) (hy : bn % bd = 0) : lessB an ad bn bd = false := by
  rw [lessB_same h, hy, Nat.zero_mul]; exact decide_eq_false (by omega)
theorem lessB_turn {an ad bn bd : Nat} (h : an / ad = bn / bd) : lessB an ad bn bd = lessB bd (bn % bd) ad (an % ad) := by
  rw [lessB_same h]; unfold lessB
  exact decide_eq_decide.2 (by rw [Nat.mul_comm (an % ad) bd, Nat.mul_comm (bn % bd) ad])
def cellN (w : World) (a : Addr) : Nat := match w.cell? a with | some (.int _ n) => n.toNat | _ => 0
theorem cellN_of {w : World} {a : Addr} {n : Nat} {k : IntKind} (h : w.cell? a = some (.int k (n : Int))) : cellN w a = n := by unfold cellN; rw [h]; rfl

set_option maxRecDepth 100000 in
set_option maxHeartbeats 1600000 in
theorem l14Less_any (an ad bn bd : Nat) (h1 : an ≤ 9223372036854775807) (h2 : ad ≤ 9223372036854775807) (h3 : bn ≤ 9223372036854775807) (h4 : bd ≤ 9223372036854775807) (ha : 0 < ad) (hb : 0 < bd) (w : World) :
    Calls Try.prog 63 #[.agg #[.int .i64 an, .int .i64 ad], .agg #[.int .i64 bn, .int .i64 bd]] w fun e w' => e = .returned (.bool (lessB an ad bn bd)) ∧ Below w.heap.size w w' := by
  go_enter Try.func63, Try.ntmps63
  go_wp2_with fail
  obtain ⟨W, hW⟩ : ∃ W : World, W = (w.alloc (.cells #[.int .i64 an, .int .i64 ad] 26)).alloc (.cells #[.int .i64 bn, .int .i64 bd] 26) := ⟨_, rfl⟩
  have hbW : Below w.heap.size w W := by rw [hW]; exact ((Below.refl _ _).alloc (Nat.le_refl _) _).alloc (by simp) _
  have hszW : W.heap.size = w.heap.size + 2 := by rw [hW]; simp
  have hA : Blk W w.heap.size 26 #[.int .i64 an, .int .i64 ad] := by rw [hW]; exact (Blk.new _ _ _).alloc _
  have hB : Blk W (w.heap.size + 1) 26 #[.int .i64 bn, .int .i64 bd] := by rw [hW]; have := Blk.new (w.alloc (.cells #[.int .i64 an, .int .i64 ad] 26)) 26 #[.int .i64 bn, .int .i64 bd]; simpa using this
  rw [← hW]
  clear hW
  go_loopw [5] (fun _ wr => ∃ xn xd yn yd : Nat, xn ≤ 9223372036854775807 ∧ xd ≤ 9223372036854775807 ∧ yn ≤ 9223372036854775807 ∧ yd ≤ 9223372036854775807 ∧ 0 < xd ∧ 0 < yd ∧ lessB xn xd yn yd = lessB an ad bn bd ∧ Blk wr w.heap.size 26 #[.int .i64 xn, .int .i64 xd] ∧ Blk wr (w.heap.size + 1) 26 #[.int .i64 yn, .int .i64 yd] ∧ Below w.heap.size w wr) (fun _ wr => cellN wr ⟨w.heap.size, 1, none⟩ + cellN wr ⟨w.heap.size + 1, 1, none⟩)
  case atStart => exact ⟨an, ad, bn, bd, h1, h2, h3, h4, ha, hb, rfl, hA, hB, hbW⟩
  case round =>
    obtain ⟨xn, xd, yn, yd, b1, b2, b3, b4, x0, y0, hl, hX, hY, hbe⟩ := hrel
    have c0 := hX.cell 0
    have c1 := hX.cell 1
    have d0 := hY.cell 0
    have d1 := hY.cell 1
    simp at c0 c1 d0 d1
    have n0 := World.new_ne wr _ c0
    have n1 := World.new_ne wr _ d0
    have f0 := hX.frozen 0
    have f1 := hX.frozen 1
    have g0 := hY.frozen 0
    have g1 := hY.frozen 1
    have hxz : ¬ (xd : Int) = 0 := by omega
    have hyz : ¬ (yd : Int) = 0 := by omega
    have HL := Lib.hid hl
    have HX := Lib.hid hX
    have HY := Lib.hid hY
    clear hl hX hY hA hB
    obtain ⟨P, hP⟩ : ∃ P : Nat, xn / xd = P := ⟨_, rfl⟩
    obtain ⟨Q, hQ⟩ : ∃ P : Nat, yn / yd = P := ⟨_, rfl⟩
    obtain ⟨X, hX⟩ : ∃ P : Nat, xn % xd = P := ⟨_, rfl⟩
    obtain ⟨Y, hY⟩ : ∃ P : Nat, yn % yd = P := ⟨_, rfl⟩
    have iP : (xn : Int) / (xd : Int) = (P : Int) := by rw [← hP]; rfl
    have iQ : (yn : Int) / (yd : Int) = (Q : Int) := by rw [← hQ]; rfl
    have iX : (xn : Int) % (xd : Int) = (X : Int) := by rw [← hX]; rfl
    have iY : (yn : Int) % (yd : Int) = (Y : Int) := by rw [← hY]; rfl
    have lP : P ≤ xn := by rw [← hP]; exact Nat.div_le_self _ _
    have lQ : Q ≤ yn := by rw [← hQ]; exact Nat.div_le_self _ _
    have lX : X < xd := by rw [← hX]; exact Nat.mod_lt _ x0
    have lY : Y < yd := by rw [← hY]; exact Nat.mod_lt _ y0
    have IX := Lib.hid iX
    have IY := Lib.hid iY
    clear iX iY
    have HP := Lib.hid hP
    have HQ := Lib.hid hQ
    have HXm := Lib.hid hX
    have HYm := Lib.hid hY
    clear hP hQ hX hY
    by_cases hpq : P = Q
    · have bpq : ((P : Int) != (Q : Int)) = false := by rw [hpq]; simp
      have HE : Hid (xn / xd = yn / yd) := by show _ = _; rw [HP.out, HQ.out]; exact hpq
      by_cases hX0 : X = 0
      · have bX : ((xn : Int) % (xd : Int) == 0) = true := by rw [IX.out, hX0]; rfl
        have HR : Hid (lessB an ad bn bd = decide ((0 : Int) < (yn : Int) % (yd : Int))) := by show _ = _; rw [← HL.out, lessB_x0 x0 HE.out (HXm.out.trans hX0), HYm.out, IY.out]
        clear hpq hX0
        go_wp2
        go_ret
        exact ⟨by rw [HR.out]; rfl, hbe⟩
      · have bX : ((xn : Int) % (xd : Int) == 0) = false := by rw [IX.out]; exact beq_eq_false_iff_ne.2 (by omega)
        by_cases hY0 : Y = 0
        · have bY : ((yn : Int) % (yd : Int) == 0) = true := by rw [IY.out, hY0]; rfl
          have HR : Hid (lessB an ad bn bd = false) := by show _ = _; rw [← HL.out, lessB_y0 HE.out (HYm.out.trans hY0)]
          clear hpq hX0 hY0
          go_wp2
          go_ret
          exact ⟨by rw [HR.out]; rfl, hbe⟩
        · have bY : ((yn : Int) % (yd : Int) == 0) = false := by rw [IY.out]; exact beq_eq_false_iff_ne.2 (by omega)
          have HR : Hid (lessB yd Y xd X = lessB an ad bn bd) := by show _ = _; rw [← HL.out, lessB_turn HE.out, HXm.out, HYm.out]
          have hX1 : 0 < X := by omega
          have hY1 : 0 < Y := by omega
          have ln0 := HX.out.lt
          have ln1 := HY.out.lt
          have a0 : ∀ o, (wr.alloc o).cell? ⟨w.heap.size, 0, none⟩ = some (.int .i64 xn) := fun o => (World.cell?_alloc_lt wr o ⟨w.heap.size, 0, none⟩ ln0).trans c0
          have a1 : ∀ o, (wr.alloc o).cell? ⟨w.heap.size, 1, none⟩ = some (.int .i64 xd) := fun o => (World.cell?_alloc_lt wr o ⟨w.heap.size, 1, none⟩ ln0).trans c1
          have e0 : ∀ o, (wr.alloc o).cell? ⟨w.heap.size + 1, 0, none⟩ = some (.int .i64 yn) := fun o => (World.cell?_alloc_lt wr o ⟨w.heap.size + 1, 0, none⟩ ln1).trans d0
          have e1 : ∀ o, (wr.alloc o).cell? ⟨w.heap.size + 1, 1, none⟩ = some (.int .i64 yd) := fun o => (World.cell?_alloc_lt wr o ⟨w.heap.size + 1, 1, none⟩ ln1).trans d1
          have hXN := ((((HX.out.far (p := ⟨w.heap.size + 1, 0, none⟩) (by simp) (.int .i64 xd)).far (p := ⟨w.heap.size + 1, 1, none⟩) (by simp) (.int .i64 ((xn : Int) % (xd : Int)))).set_ 0 (.int .i64 yd)).set_ 1 (.int .i64 ((yn : Int) % (yd : Int)))).alloc (.cells #[.int .i64 yd, .int .i64 ((yn : Int) % (yd : Int))] 26)
          have hYN := ((((HY.out.set_ 0 (.int .i64 xd)).set_ 1 (.int .i64 ((xn : Int) % (xd : Int)))).far (p := ⟨w.heap.size, 0, none⟩) (by simp) (.int .i64 yd)).far (p := ⟨w.heap.size, 1, none⟩) (by simp) (.int .i64 ((yn : Int) % (yd : Int)))).alloc (.cells #[.int .i64 yd, .int .i64 ((yn : Int) % (yd : Int))] 26)
          have hBN : Below w.heap.size w (((((wr.setCell ⟨w.heap.size + 1, 0, none⟩ (.int .i64 xd)).setCell ⟨w.heap.size + 1, 1, none⟩ (.int .i64 ((xn : Int) % (xd : Int)))).setCell ⟨w.heap.size, 0, none⟩ (.int .i64 yd)).setCell ⟨w.heap.size, 1, none⟩ (.int .i64 ((yn : Int) % (yd : Int)))).alloc (.cells #[.int .i64 yd, .int .i64 ((yn : Int) % (yd : Int))] 26)) := ((((hbe.setCell (by simp) _).setCell (by simp) _).setCell (by simp) _).setCell (by simp) _).alloc (by simp; omega) _
          have HXN := Lib.hid hXN
          have HYN := Lib.hid hYN
          have HBN := Lib.hid hBN
          clear hXN hYN hBN
          clear hpq hX0 hY0
          go_wp2
          go_roundw
          case rel => exact ⟨yd, Y, xd, X, b4, by omega, b2, by omega, by omega, by omega, HR.out, by rw [← IY.out]; exact HXN.out, by rw [← IX.out]; exact HYN.out, HBN.out⟩
          case measure =>
            have m1 := HXN.out.cell 1
            have m2 := HYN.out.cell 1
            have k1 := cellN_of (n := Y) (m1.trans (by rw [← IY.out]; rfl))
            have k2 := cellN_of (n := X) (m2.trans (by rw [← IX.out]; rfl))
            rw [k1, k2, cellN_of c1, cellN_of d1]
            omega
    · have bpq : ((P : Int) != (Q : Int)) = true := by simp; omega
      have HR : Hid (lessB an ad bn bd = decide (P < Q)) := by show _ = _; rw [← HL.out, lessB_ne x0 y0 (by rw [HP.out, HQ.out]; exact hpq), HP.out, HQ.out]; exact decide_eq_decide.2 (by omega)
      clear hpq
      go_wp2
      go_ret
      exact ⟨by rw [HR.out]; rfl, hbe⟩
end Go.Proofs.Ythlfmhigbhcljaa
