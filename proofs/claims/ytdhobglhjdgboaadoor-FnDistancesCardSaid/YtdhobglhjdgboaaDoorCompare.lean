/- CompareFractions, of the program and of the reference: both hand back cfN and cfCode. -/
import Derived.Test.YtdhobglhjdgboaaDoorGcd
import Derived.Test.YtdhobglhjdgboaaDoorLess
import Derived.Test.YtdhobglhjdgboaaDoorCmp
import Derived.Test.YtdhobglhjdgboaaDoorGrow2
import Derived.Shelf.Bits.Mul64
namespace Go.Proofs.YtdhobglhjdgboaaDoor
open Go.RowKit Go.Sort Go.Shelf
set_option linter.unusedVariables false

def fracOk (f : Fraction) : Bool := inB f.num 0 1000000000000000000 && (inB f.den 1 1000000000 && decide (Nat.gcd f.num.toNat f.den.toNat = 1))
theorem fracOk_cases (f : Fraction) : (inB f.num 0 1000000000000000000 = false ∧ fracOk f = false) ∨ (inB f.num 0 1000000000000000000 = true ∧ inB f.den 1 1000000000 = false ∧ fracOk f = false) ∨ (∃ a b : Nat, f = ⟨a, b⟩ ∧ a ≤ 1000000000000000000 ∧ 1 ≤ b ∧ b ≤ 1000000000 ∧ inB f.num 0 1000000000000000000 = true ∧ inB f.den 1 1000000000 = true ∧ fracOk f = decide (Nat.gcd a b = 1)) := by
  cases h1 : inB f.num 0 1000000000000000000
  · left; exact ⟨rfl, by unfold fracOk; rw [h1]; rfl⟩
  · cases h2 : inB f.den 1 1000000000
    · right; left; exact ⟨rfl, rfl, by unfold fracOk; rw [h1, h2]; rfl⟩
    · right; right
      have b1 := inB_true.1 h1
      have b2 := inB_true.1 h2
      refine ⟨f.num.toNat, f.den.toNat, ?_, by omega, by omega, by omega, rfl, rfl, by unfold fracOk; rw [h1, h2]; rfl⟩
      obtain ⟨n, d⟩ := f
      simp only at b1 b2 ⊢
      rw [Int.toNat_of_nonneg b1.1, Int.toNat_of_nonneg (by omega)]

theorem run_eql_Fraction (a b c d : Int) (w : World) : (binOp .eql 76 (.agg #[.int .i64 a, .int .i64 b]) (.agg #[.int .i64 c, .int .i64 d])).run Tryd.prog w = .ok (.bool (decide (a = c) && decide (b = d))) w := by
  rw [run_eql_struct]
  have hi := Tryd.underlying2
  simp [go_sem]
  by_cases h1 : a = c <;> by_cases h2 : b = d <;> simp [h1, h2]
theorem gcd_one_iff {a b : Nat} (hb : 0 < b) : (decide (((a / Nat.gcd a b : Nat) : Int) = (a : Int)) && decide (((b / Nat.gcd a b : Nat) : Int) = (b : Int))) = decide (Nat.gcd a b = 1) := by
  have hg : 0 < Nat.gcd a b := Nat.gcd_pos_of_pos_right _ hb
  by_cases h : Nat.gcd a b = 1
  · have ha' : a / Nat.gcd a b = a := by rw [h, Nat.div_one]
    have hb' : b / Nat.gcd a b = b := by rw [h, Nat.div_one]
    rw [decide_eq_true (by rw [ha']), decide_eq_true (by rw [hb']), decide_eq_true h]; rfl
  · have : b / Nat.gcd a b ≠ b := by
      intro he
      have := Nat.div_lt_self hb (show 1 < Nat.gcd a b by omega)
      omega
    have h2 : ¬ (((b / Nat.gcd a b : Nat) : Int) = (b : Int)) := fun hh => this (Int.ofNat.inj hh)
    rw [decide_eq_false h2, decide_eq_false h]; simp
theorem withinF_eq (n a b : Int) (w : World) {v : Bool} (h : inB n a b = v) : Calls Tryd.prog 113 #[.int .i64 n, .int .i64 a, .int .i64 b] w fun e w' => e = .returned (.bool v) ∧ Below w.heap.size w w' := by
  subst h; exact (within_any n a b w).mono fun _ _ hh => ⟨hh.1, by rw [← hh.2]; exact Below.refl _ _⟩
set_option maxHeartbeats 800000 in
theorem plain_any (f : Fraction) (w : World) : Calls Tryd.prog 111 #[.agg #[.int .i64 f.num, .int .i64 f.den]] w fun e w' => e = .returned (.bool (fracOk f)) ∧ Below w.heap.size w w' := by
  obtain ⟨W, hW⟩ : ∃ W : World, W = w.alloc (.cells #[.int .i64 f.num, .int .i64 f.den] 76) := ⟨_, rfl⟩
  have hbW : Below w.heap.size w W := by rw [hW]; exact (Below.refl _ _).alloc (Nat.le_refl _) _
  have t0 := cell_regrown (show W.cell? ⟨w.heap.size, 0, none⟩ = some (.int .i64 f.num) by rw [hW]; simp)
  have t1 := cell_regrown (show W.cell? ⟨w.heap.size, 1, none⟩ = some (.int .i64 f.den) by rw [hW]; simp)
  rcases fracOk_cases f with ⟨a1, ao⟩ | ⟨a1, a2, ao⟩ | ⟨a, b, rfl, la, lb0, lb, a1, a2, ao⟩
  · have HO := Lib.hid ao; clear ao
    go_enter Tryd.func111, Tryd.ntmps111
    go_wp2_with fail
    rw [← hW]
    clear hW
    refine wp_region_quiet_below (by kernel_rfl) (by kernel_rfl) ?_
    repeat (go_big_quiet_step (first | (go_at_call 113; exact Calls.regrown_of (withinF_eq _ _ _ _ (by assumption)))))
    refine wpQuiet_nil ?_
    intro _ hw9
    obtain ⟨⟨dq, osq⟩, hw9⟩ := hw9
    subst hw9
    have hb1 := below_regrown W dq osq
    dsimp only at hb1 ⊢
    generalize grow (redrawn W dq) osq = W2 at hb1 ⊢
    go_wp2
    go_ret
    exact ⟨by rw [HO.out]; rfl, hbW.trans (hb1.mono hbW.size)⟩
  · have HO := Lib.hid ao; clear ao
    go_enter Tryd.func111, Tryd.ntmps111
    go_wp2_with fail
    rw [← hW]
    clear hW
    refine wp_region_quiet_below (by kernel_rfl) (by kernel_rfl) ?_
    repeat (go_big_quiet_step (first | (go_at_call 113; exact Calls.regrown_of (withinF_eq _ _ _ _ (by assumption)))))
    refine wpQuiet_nil ?_
    intro _ hw9
    obtain ⟨⟨dq, osq⟩, hw9⟩ := hw9
    subst hw9
    have hb1 := below_regrown W dq osq
    dsimp only at hb1 ⊢
    generalize grow (redrawn W dq) osq = W2 at hb1 ⊢
    go_wp2
    go_ret
    exact ⟨by rw [HO.out]; rfl, hbW.trans (hb1.mono hbW.size)⟩
  · have HO := Lib.hid ao; clear ao
    go_enter Tryd.func111, Tryd.ntmps111
    go_wp2_with fail
    rw [← hW]
    clear hW
    refine wp_region_quiet_below (by kernel_rfl) (by kernel_rfl) ?_
    obtain ⟨P, hP⟩ : ∃ P : Nat, a / Nat.gcd a b = P := ⟨_, rfl⟩
    obtain ⟨Q, hQ⟩ : ∃ P : Nat, b / Nat.gcd a b = P := ⟨_, rfl⟩
    obtain ⟨v, hv⟩ : ∃ v : Bool, decide (Nat.gcd a b = 1) = v := ⟨_, rfl⟩
    have heq := fun W => run_eql_Fraction (P : Int) (Q : Int) (a : Int) (b : Int) W
    rw [← hP, ← hQ, gcd_one_iff (by omega), hv, hP, hQ] at heq
    have hred := fun W => reduced_any a b (by omega) (by omega) (by omega) W
    rw [hP, hQ] at hred
    have HV : Hid (fracOk ⟨(a : Int), (b : Int)⟩ = v) := HO.out.trans hv
    have HRED := Lib.hid hred
    clear hP hQ hv hred
    repeat (go_big_quiet_step (first | (go_at_call 113; exact Calls.regrown_of (withinF_eq _ _ _ _ (by assumption))) | (go_at_call 192; exact Calls.regrown_of (HRED.out _))))
    refine wpQuiet_nil ?_
    intro _ hw9
    obtain ⟨⟨dq, osq⟩, hw9⟩ := hw9
    subst hw9
    have hb1 := below_regrown W dq osq
    dsimp only at hb1 ⊢
    generalize grow (redrawn W dq) osq = W2 at hb1 ⊢
    go_wp2
    go_ret
    exact ⟨by rw [HV.out]; rfl, hbW.trans (hb1.mono hbW.size)⟩

/-- math/bits.Mul64: both halves of the product -/
theorem mul64_any (x y : Nat) (hx : x < 18446744073709551616) (hy : y < 18446744073709551616) (w : World) :
    Calls Tryd.prog 194 #[.int .u64 x, .int .u64 y] w fun e w' => e = .returned (.tuple #[.int .u64 ((x * y / 18446744073709551616 : Nat) : Int), .int .u64 ((x * y % 18446744073709551616 : Nat) : Int)]) ∧ w = w' := by
  obtain ⟨bd, bt, bw, hhi⟩ := Lib.mul64_hi x y hx hy
  have ba := Lib.half_mul_le (a := x / 4294967296) (b := y / 4294967296) (by omega) (by omega)
  have bb := Lib.half_mul_le (a := x / 4294967296) (b := y % 4294967296) (by omega) (by omega)
  have bc := Lib.half_mul_le (a := x % 4294967296) (b := y / 4294967296) (by omega) (by omega)
  have ba' : x / 4294967296 * (y / 4294967296) < 18446744073709551616 := by omega
  have bb' : x / 4294967296 * (y % 4294967296) < 18446744073709551616 := by omega
  have bc' : x % 4294967296 * (y / 4294967296) < 18446744073709551616 := by omega
  have bh1 : x / 4294967296 * (y / 4294967296) + (x / 4294967296 * (y % 4294967296) + x % 4294967296 * (y % 4294967296) / 4294967296) / 4294967296 < 18446744073709551616 := by omega
  have bh : x / 4294967296 * (y / 4294967296) + (x / 4294967296 * (y % 4294967296) + x % 4294967296 * (y % 4294967296) / 4294967296) / 4294967296 + ((x / 4294967296 * (y % 4294967296) + x % 4294967296 * (y % 4294967296) / 4294967296) % 4294967296 + x % 4294967296 * (y / 4294967296)) / 4294967296 < 18446744073709551616 := by omega
  go_enter Tryd.func194, Tryd.ntmps194
  go_wp2
  simp only [Mul64.maskN x hx, Mul64.maskN y hy, Mul64.divN, Mul64.mulN, Mul64.addN, Mul64.wrapN _ bd, Mul64.wrapN _ bb', Mul64.wrapN _ bt, Mul64.maskN _ bt, Mul64.wrapN _ bc', Mul64.wrapN _ bw, Mul64.wrapN _ ba', Mul64.wrapN _ bh1, Mul64.wrapN _ bh, Mul64.wrapM (x * y)]
  rw [hhi]
  go_ret2
  exact ⟨rfl, rfl⟩

/-- two numbers that lie in a block of their own -/
theorem arr2 (w : World) (a b : Int) (t : TypeId) : Arr ic 1 (w.alloc (.cells #[.int .i64 a, .int .i64 b] t)) w.heap.size (w.heap.size + 1) (some ⟨w.heap.size, 0, none⟩) 2 [a, b] :=
  ⟨rfl, fun _ => ⟨w.heap.size, 0, rfl, Nat.le_refl _, by omega, fun i x hx j u hu => by
    have hi : i < 2 := (List.getElem?_eq_some_iff.1 hx).1
    have hj : j = 0 := by
      have := (List.getElem?_eq_some_iff.1 hu).1
      simp [ic] at this; exact this
    subst hj
    simp [ic] at hu
    subst hu
    have : i = 0 ∨ i = 1 := by omega
    rcases this with rfl | rfl
    · simp at hx; subst hx; simp
    · simp at hx; subst hx; simp⟩⟩
theorem sgn_halves (x y : Nat) : orTo [sgn ((x / 18446744073709551616 : Nat) : Int) ((y / 18446744073709551616 : Nat) : Int), sgn ((x % 18446744073709551616 : Nat) : Int) ((y % 18446744073709551616 : Nat) : Int)] = sgn (x : Int) (y : Int) := by
  unfold orTo orTo orTo
  rcases sgn_cases ((x / 18446744073709551616 : Nat) : Int) ((y / 18446744073709551616 : Nat) : Int) with ⟨h1, h2⟩ | ⟨h0, h1, h2⟩ | ⟨h0, h1, h2⟩
  · rw [h2]; simp
    rcases sgn_cases (x : Int) (y : Int) with ⟨g1, g2⟩ | ⟨g0, g1, g2⟩ | ⟨g0, g1, g2⟩ <;> rw [g2] <;> omega
  · rw [h2]; simp
    rcases sgn_cases (x : Int) (y : Int) with ⟨g1, g2⟩ | ⟨g0, g1, g2⟩ | ⟨g0, g1, g2⟩ <;> rw [g2] <;> omega
  · rw [h2, if_pos rfl]
    rcases sgn_cases ((x % 18446744073709551616 : Nat) : Int) ((y % 18446744073709551616 : Nat) : Int) with ⟨k1, k2⟩ | ⟨k0, k1, k2⟩ | ⟨k0, k1, k2⟩
    · rw [k2]; simp
      rcases sgn_cases (x : Int) (y : Int) with ⟨g1, g2⟩ | ⟨g0, g1, g2⟩ | ⟨g0, g1, g2⟩ <;> rw [g2] <;> omega
    · rw [k2]; simp
      rcases sgn_cases (x : Int) (y : Int) with ⟨g1, g2⟩ | ⟨g0, g1, g2⟩ | ⟨g0, g1, g2⟩ <;> rw [g2] <;> omega
    · rw [k2]; simp
      rcases sgn_cases (x : Int) (y : Int) with ⟨g1, g2⟩ | ⟨g0, g1, g2⟩ | ⟨g0, g1, g2⟩ <;> rw [g2] <;> omega

set_option maxHeartbeats 800000 in
theorem compare_any (an ad bn bd : Nat) (h1 : an ≤ 9223372036854775807) (h2 : ad ≤ 9223372036854775807) (h3 : bn ≤ 9223372036854775807) (h4 : bd ≤ 9223372036854775807) (w : World) :
    Calls Tryd.prog 112 #[.agg #[.int .i64 an, .int .i64 ad], .agg #[.int .i64 bn, .int .i64 bd]] w fun e w' => e = .returned (.int .i64 (sgn ((an * bd : Nat) : Int) ((bn * ad : Nat) : Int))) ∧ Below w.heap.size w w' := by
  have HS : Hid (orTo [sgn ((an * bd / 18446744073709551616 : Nat) : Int) ((bn * ad / 18446744073709551616 : Nat) : Int), sgn ((an * bd % 18446744073709551616 : Nat) : Int) ((bn * ad % 18446744073709551616 : Nat) : Int)] = sgn ((an * bd : Nat) : Int) ((bn * ad : Nat) : Int)) := sgn_halves _ _
  have HM1 := fun W => mul64_any an bd (by omega) (by omega) W
  have HM2 := fun W => mul64_any bn ad (by omega) (by omega) W
  generalize an * bd / 18446744073709551616 = A1 at *
  generalize an * bd % 18446744073709551616 = A2 at *
  generalize bn * ad / 18446744073709551616 = B1 at *
  generalize bn * ad % 18446744073709551616 = B2 at *
  have M1 := Lib.hid HM1
  have M2 := Lib.hid HM2
  clear HM1 HM2
  go_enter Tryd.func112, Tryd.ntmps112
  obtain ⟨W, hW⟩ : ∃ W : World, W = (w.alloc (.cells #[.int .i64 an, .int .i64 ad] 76)).alloc (.cells #[.int .i64 bn, .int .i64 bd] 76) := ⟨_, rfl⟩
  have hbW : Below w.heap.size w W := by rw [hW]; exact ((Below.refl _ _).alloc (Nat.le_refl _) _).alloc (by simp) _
  have a0 : W.cell? ⟨w.heap.size, 0, none⟩ = some (.int .i64 an) := by rw [hW]; rw [World.cell?_alloc_lt _ _ _ (by simp)]; simp
  have a1 : W.cell? ⟨w.heap.size, 1, none⟩ = some (.int .i64 ad) := by rw [hW]; rw [World.cell?_alloc_lt _ _ _ (by simp)]; simp
  have b0 : W.cell? ⟨w.heap.size + 1, 0, none⟩ = some (.int .i64 bn) := by rw [hW]; simp
  have b1 : W.cell? ⟨w.heap.size + 1, 1, none⟩ = some (.int .i64 bd) := by rw [hW]; simp
  go_wp2_with fail
  rw [← hW]
  clear hW
  refine (M1.out _).mono ?_
  rintro e w1 ⟨rfl, rfl⟩
  go_wp2_with fail
  refine (M2.out _).mono ?_
  rintro e w1 ⟨rfl, rfl⟩
  have hor := orInts_any (some ⟨W.heap.size, 0, none⟩) 2 2 [sgn A1 B1, sgn A2 B2] (W.alloc (.cells #[.int .i64 (sgn A1 B1), .int .i64 (sgn A2 B2)] 3)) W.heap.size ((arr2 W _ _ _).more (by simp)) (by omega)
  have HB := Lib.hid hbW
  clear hbW
  go_wp2_with (first | (go_at_call 196; refine (cmpUint_any _ _ _).mono ?_; rintro e w1 ⟨rfl, rfl⟩) | (go_at_call 195; refine hor.mono ?_; rintro e w1 ⟨rfl, rfl⟩))
  go_ret
  exact ⟨by rw [← HS.out]; rfl, HB.out.alloc HB.out.size _⟩

theorem fracOk_nat {f : Fraction} (h : fracOk f = true) : ∃ a b : Nat, f = ⟨a, b⟩ ∧ a ≤ 1000000000000000000 ∧ 1 ≤ b ∧ b ≤ 1000000000 := by
  rcases fracOk_cases f with ⟨_, ao⟩ | ⟨_, _, ao⟩ | ⟨a, b, e, h1, h2, h3, _⟩
  · rw [ao] at h; cases h
  · rw [ao] at h; cases h
  · exact ⟨a, b, e, h1, h2, h3⟩
def cfN (a b : Fraction) : Int := if fracOk a && fracOk b then sgn (a.num * b.den) (b.num * a.den) else 0
def cfCode (a b : Fraction) : Int := if fracOk a && fracOk b then 0 else 1
theorem plain_eq (f : Fraction) (w : World) {v : Bool} (h : fracOk f = v) : Calls Tryd.prog 111 #[.agg #[.int .i64 f.num, .int .i64 f.den]] w fun e w' => e = .returned (.bool v) ∧ Below w.heap.size w w' := by subst h; exact plain_any f w
set_option maxHeartbeats 800000 in
theorem compareFractions_any (a b : Fraction) (w : World) :
    Calls Tryd.prog 41 #[.agg #[.int .i64 a.num, .int .i64 a.den], .agg #[.int .i64 b.num, .int .i64 b.den]] w fun e w' => e = .returned (.tuple #[.int .i64 (cfN a b), .int .i64 (cfCode a b)]) ∧ Below w.heap.size w w' := by
  obtain ⟨W, hW⟩ : ∃ W : World, W = (w.alloc (.cells #[.int .i64 a.num, .int .i64 a.den] 76)).alloc (.cells #[.int .i64 b.num, .int .i64 b.den] 76) := ⟨_, rfl⟩
  have hbW : Below w.heap.size w W := by rw [hW]; exact ((Below.refl _ _).alloc (Nat.le_refl _) _).alloc (by simp) _
  have hs : W.heap.size = w.heap.size + 2 := by rw [hW]; simp
  have a0 : W.cell? ⟨w.heap.size, 0, none⟩ = some (.int .i64 a.num) := by rw [hW]; rw [World.cell?_alloc_lt _ _ _ (by simp)]; simp
  have a1 : W.cell? ⟨w.heap.size, 1, none⟩ = some (.int .i64 a.den) := by rw [hW]; rw [World.cell?_alloc_lt _ _ _ (by simp)]; simp
  have b0 : W.cell? ⟨w.heap.size + 1, 0, none⟩ = some (.int .i64 b.num) := by rw [hW]; simp
  have b1 : W.cell? ⟨w.heap.size + 1, 1, none⟩ = some (.int .i64 b.den) := by rw [hW]; simp
  cases ha : fracOk a
  · have H : Hid (cfN a b = 0 ∧ cfCode a b = 1) := by show _ ∧ _; unfold cfN cfCode; rw [ha]; exact ⟨rfl, rfl⟩
    go_enter Tryd.func41, Tryd.ntmps41
    go_wp2_with fail
    rw [← hW]
    clear hW hs
    refine (plain_eq a _ ha).mono ?_
    rintro e w1 ⟨rfl, hb1⟩
    go_wp2
    go_ret2
    exact ⟨by rw [H.out.1, H.out.2]; rfl, hbW.trans (hb1.mono hbW.size)⟩
  · cases hb : fracOk b
    · have H : Hid (cfN a b = 0 ∧ cfCode a b = 1) := by show _ ∧ _; unfold cfN cfCode; rw [ha, hb]; exact ⟨rfl, rfl⟩
      go_enter Tryd.func41, Tryd.ntmps41
      go_wp2_with fail
      rw [← hW]
      clear hW
      refine (plain_eq a _ ha).mono ?_
      rintro e w1 ⟨rfl, hb1⟩
      have b01 := (hb1.cell (p := ⟨w.heap.size + 1, 0, none⟩) (show w.heap.size + 1 < _ by omega)).trans b0
      have b11 := (hb1.cell (p := ⟨w.heap.size + 1, 1, none⟩) (show w.heap.size + 1 < _ by omega)).trans b1
      clear hs
      go_wp2_with fail
      refine (plain_eq b _ hb).mono ?_
      rintro e w2 ⟨rfl, hb2⟩
      go_wp2
      go_ret2
      exact ⟨by rw [H.out.1, H.out.2]; rfl, (hbW.trans (hb1.mono hbW.size)).trans (hb2.mono (Nat.le_trans hbW.size hb1.size))⟩
    · obtain ⟨an, ad, rfl, la, la0, lad⟩ := fracOk_nat ha
      obtain ⟨bn, bd, rfl, lb, lb0, lbd⟩ := fracOk_nat hb
      have H : Hid (cfN ⟨an, ad⟩ ⟨bn, bd⟩ = sgn ((an * bd : Nat) : Int) ((bn * ad : Nat) : Int) ∧ cfCode ⟨an, ad⟩ ⟨bn, bd⟩ = 0) := by show _ ∧ _; unfold cfN cfCode; rw [ha, hb]; exact ⟨rfl, rfl⟩
      have hcmp := fun W => compare_any an ad bn bd (by omega) (by omega) (by omega) (by omega) W
      generalize sgn ((an * bd : Nat) : Int) ((bn * ad : Nat) : Int) = S at *
      have HC := Lib.hid hcmp
      clear hcmp
      go_enter Tryd.func41, Tryd.ntmps41
      go_wp2_with fail
      rw [← hW]
      clear hW
      refine (plain_eq ⟨an, ad⟩ _ ha).mono ?_
      rintro e w1 ⟨rfl, hb1⟩
      have hs1 := hb1.size
      have a01 := (hb1.cell (p := ⟨w.heap.size, 0, none⟩) (show w.heap.size < _ by omega)).trans a0
      have a11 := (hb1.cell (p := ⟨w.heap.size, 1, none⟩) (show w.heap.size < _ by omega)).trans a1
      have b01 := (hb1.cell (p := ⟨w.heap.size + 1, 0, none⟩) (show w.heap.size + 1 < _ by omega)).trans b0
      have b11 := (hb1.cell (p := ⟨w.heap.size + 1, 1, none⟩) (show w.heap.size + 1 < _ by omega)).trans b1
      have hl : w.heap.size + 2 ≤ w1.heap.size := by omega
      have HB := Lib.hid (hbW.trans (hb1.mono hbW.size))
      clear hs hs1 hb1 hbW a0 a1 b0 b1
      go_wp2_with fail
      refine (plain_eq ⟨bn, bd⟩ _ hb).mono ?_
      rintro e w2 ⟨rfl, hb2⟩
      have a02 := (hb2.cell (p := ⟨w.heap.size, 0, none⟩) (show w.heap.size < _ by omega)).trans a01
      have a12 := (hb2.cell (p := ⟨w.heap.size, 1, none⟩) (show w.heap.size < _ by omega)).trans a11
      have b02 := (hb2.cell (p := ⟨w.heap.size + 1, 0, none⟩) (show w.heap.size + 1 < _ by omega)).trans b01
      have b12 := (hb2.cell (p := ⟨w.heap.size + 1, 1, none⟩) (show w.heap.size + 1 < _ by omega)).trans b11
      have HB2 := Lib.hid (HB.out.trans (hb2.mono HB.out.size))
      clear hb2 a01 a11 b01 b11
      go_wp2_with fail
      refine (HC.out _).mono ?_
      rintro e w3 ⟨rfl, hb3⟩
      go_wp2
      go_ret2
      exact ⟨by rw [H.out.1, H.out.2]; rfl, HB2.out.trans (hb3.mono HB2.out.size)⟩
end Go.Proofs.YtdhobglhjdgboaaDoor
