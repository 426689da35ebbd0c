/- FractionText of the program and of the reference: ftS. -/
import Derived.Test.YtdhobglhjdgboaaDoorDec
import Derived.Test.YtdhobglhjdgboaaDoorCompare
namespace Go.Proofs.YtdhobglhjdgboaaDoor
open Go.RowKit Go.Sort
set_option linter.unusedVariables false

theorem decS_size (n : Int) (h0 : -9223372036854775808 ≤ n) (h1 : n ≤ 9223372036854775807) : (decS n).size ≤ 21 := Lib.itoa_length_le n h0 h1
def ftS (f : Fraction) : ByteArray := if fracOk f then (if f.den = 1 then decS f.num else decS f.num ++ ⟨#[47]⟩ ++ decS f.den) else ⟨#[]⟩
def InN (x : Int) : Prop := 0 ≤ x ∧ x ≤ 1000000000000000000
set_option maxRecDepth 100000 in
set_option maxHeartbeats 1600000 in
theorem fractionText_any (f : Fraction) (w : World) (ht : TabW w) :
    Calls Tryd.prog 45 #[.agg #[.int .i64 f.num, .int .i64 f.den]] w fun e w' => e = .returned (.string (ftS f)) ∧ Below w.heap.size w w' := by
  obtain ⟨W, hW⟩ : ∃ W : World, W = w.alloc (.cells #[.int .i64 f.num, .int .i64 f.den] 76) := ⟨_, rfl⟩
  have B0 : Below w.heap.size w W := by rw [hW]; exact (Below.refl _ _).alloc (Nat.le_refl _) _
  have P0 : Blk W w.heap.size 76 #[.int .i64 f.num, .int .i64 f.den] := by rw [hW]; exact Blk.new _ _ _
  have HT := Lib.hid (ht.bel B0)
  have HP0 := Lib.hid P0
  have HB0 := Lib.hid B0
  clear ht B0 P0
  cases hf : fracOk f
  · have HE : Hid (ftS f = ⟨#[]⟩) := by show _ = _; unfold ftS; rw [hf]; rfl
    go_enter Tryd.func45, Tryd.ntmps45
    go_wp2_with fail
    rw [← hW]
    refine (plain_eq f W hf).mono ?_
    rintro e w1 ⟨rfl, hb1⟩
    go_wp2
    go_ret
    exact ⟨by rw [HE.out]; rfl, HB0.out.trans (hb1.mono HB0.out.size)⟩
  · have HFE : Hid (ftS f = if f.den = 1 then decS f.num else decS f.num ++ ⟨#[47]⟩ ++ decS f.den) := by show _ = _; unfold ftS; rw [hf]; rfl
    obtain ⟨a, b, hab, ha, hb1, hb2⟩ := fracOk_nat hf
    have i1 : InN f.num := by rw [hab]; exact ⟨by show (0:Int) ≤ (a:Int); omega, by show (a : Int) ≤ _; omega⟩
    have i2 : InN f.den := by rw [hab]; exact ⟨by show (0:Int) ≤ (b:Int); omega, by show (b : Int) ≤ _; omega⟩
    have HPL := Lib.hid (plain_eq f W hf)
    have s1 := decS_size f.num (by have := i1.1; omega) (by have := i1.2; omega)
    have s2 := decS_size f.den (by have := i2.1; omega) (by have := i2.2; omega)
    clear hf hab ha hb1 hb2
    by_cases hd : f.den = 1
    · have HE : Hid (ftS f = decS f.num) := by show _ = _; rw [HFE.out, if_pos hd]
      have HD : Hid ((f.den == 1) = true) := by show _ = _; simp [hd]
      clear hd
      go_enter Tryd.func45, Tryd.ntmps45
      go_wp2_with fail
      rw [← hW]
      refine HPL.out.mono ?_
      rintro e w1 ⟨rfl, hb1⟩
      have HB1 := Lib.hid (HB0.out.trans (hb1.mono HB0.out.size))
      have HT1 := Lib.hid (HT.out.bel hb1)
      have c0 : w1.cell? ⟨w.heap.size, 0, none⟩ = some (.int .i64 f.num) := ((HP0.out.below hb1 HP0.out.lt).cell 0).trans rfl
      have c1 : w1.cell? ⟨w.heap.size, 1, none⟩ = some (.int .i64 f.den) := ((HP0.out.below hb1 HP0.out.lt).cell 1).trans rfl
      have hd' := HD.out
      clear hb1
      go_wp2_with fail
      refine (decimal_any f.num (by have := i1.1; omega) (by have := i1.2; omega) _ HT1.out).mono ?_
      rintro e w2 ⟨rfl, hb2⟩
      go_wp2
      go_ret
      exact ⟨by rw [HE.out]; rfl, HB1.out.trans (hb2.mono HB1.out.size)⟩
    · have HE : Hid (ftS f = decS f.num ++ ⟨#[47]⟩ ++ decS f.den) := by show _ = _; rw [HFE.out, if_neg hd]
      have HD : Hid ((f.den == 1) = false) := beq_eq_false_iff_ne.2 hd
      clear hd
      go_enter Tryd.func45, Tryd.ntmps45
      go_wp2_with fail
      rw [← hW]
      refine HPL.out.mono ?_
      rintro e w1 ⟨rfl, hb1⟩
      have HB1 := Lib.hid (HB0.out.trans (hb1.mono HB0.out.size))
      have HT1 := Lib.hid (HT.out.bel hb1)
      have c0 : w1.cell? ⟨w.heap.size, 0, none⟩ = some (.int .i64 f.num) := ((HP0.out.below hb1 HP0.out.lt).cell 0).trans rfl
      have c1 : w1.cell? ⟨w.heap.size, 1, none⟩ = some (.int .i64 f.den) := ((HP0.out.below hb1 HP0.out.lt).cell 1).trans rfl
      have c0' := cell_regrown c0
      have c1' := cell_regrown c1
      have HDD : Hid (∀ x, InN x → ∀ d os, Calls Tryd.prog 66 #[.int .i64 x] (grow (redrawn w1 d) os) fun e w' => e = .returned (.string (decS x)) ∧ Below (grow (redrawn w1 d) os).heap.size (grow (redrawn w1 d) os) w') := fun x hx d os => decimal_any x (by have := hx.1; omega) (by have := hx.2; omega) _ (HT1.out.bel (below_regrown w1 d os))
      have hd' := HD.out
      clear hb1
      go_wp2
      refine wp_region_quiet_below (by kernel_rfl) (by kernel_rfl) ?_
      repeat (go_big_quiet_step (first | (go_at_call 66; exact Calls.regrown_of (HDD.out _ (by assumption) _ _))))
      refine wpQuiet_nil ?_
      intro _ hw9
      obtain ⟨⟨dq, osq⟩, hw9⟩ := hw9
      subst hw9
      have hb5 := below_regrown w1 dq osq
      dsimp only at hb5 ⊢
      generalize grow (redrawn w1 dq) osq = w5 at hb5 ⊢
      go_wp2
      go_ret
      exact ⟨by rw [HE.out]; rfl, HB1.out.trans (hb5.mono HB1.out.size)⟩
end Go.Proofs.YtdhobglhjdgboaaDoor
