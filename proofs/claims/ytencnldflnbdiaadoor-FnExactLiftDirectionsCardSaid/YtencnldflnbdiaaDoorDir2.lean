/- The reference's direction to a place: l02To, l09Dir; both hand back dirN. -/
import Derived.Test.YtencnldflnbdiaaDoorDir
namespace Go.Proofs.YtencnldflnbdiaaDoor
open Go.RowKit
set_option linter.unusedVariables false

def mostTo (x y : Int) (k : Nat) : Int := if k = 0 then 0 else dotV (bestTo x y k) x y
theorem mostTo_pos {x y : Int} {k : Nat} (h : 0 < k) : mostTo x y k = dotV (bestTo x y k) x y := if_neg (by omega)
theorem most_first (x y : Int) : bestTo x y 1 = 0 ∧ mostTo x y 1 = dotV 0 x y := ⟨bestTo_one x y, by rw [mostTo_pos (by decide), bestTo_one]⟩
theorem most_yes {x y : Int} {k : Nat} (h0 : 0 < k) (h : mostTo x y k < dotV k x y) : bestTo x y (k + 1) = k ∧ mostTo x y (k + 1) = dotV k x y := by
  rw [mostTo_pos h0] at h
  rw [mostTo_pos (by omega), bestTo_yes h]; exact ⟨rfl, rfl⟩
theorem most_no {x y : Int} {k : Nat} (h0 : 0 < k) (h : ¬ mostTo x y k < dotV k x y) : bestTo x y (k + 1) = bestTo x y k ∧ mostTo x y (k + 1) = mostTo x y k := by
  have h1 := h
  rw [mostTo_pos h0] at h1
  rw [mostTo_pos (by omega), bestTo_no h1, mostTo_pos h0]; exact ⟨rfl, rfl⟩
theorem mostTo_bd {x y : Int} (k : Nat) (hx : DBd x) (hy : DBd y) : -40000000 ≤ mostTo x y k ∧ mostTo x y k ≤ 40000000 := by
  unfold mostTo; split
  · omega
  · exact dotV_bd _ hx hy

set_option maxRecDepth 100000 in
set_option maxHeartbeats 3200000 in
theorem l02To_any (fx fy tx ty : Int) (h1 : Plc fx fy) (h2 : Plc tx ty) (w : World) :
    Calls Tryd.prog 149 #[.agg #[.int .i64 fx, .int .i64 fy], .agg #[.int .i64 tx, .int .i64 ty]] w fun e w' => e = .returned (.int .i64 (dirN (tx - fx) (ty - fy))) ∧ Below w.heap.size w w' := by
  obtain ⟨W, hW⟩ : ∃ W : World, W = (w.alloc (.cells #[.int .i64 fx, .int .i64 fy] 25)).alloc (.cells #[.int .i64 tx, .int .i64 ty] 25) := ⟨_, rfl⟩
  have B0 : Below w.heap.size w W := by rw [hW]; exact ((Below.refl _ _).alloc (Nat.le_refl _) _).alloc (by simp) _
  have P0 : Blk W w.heap.size 25 #[.int .i64 fx, .int .i64 fy] := by rw [hW]; exact (Blk.new _ _ _).alloc _
  have Q0 : Blk W (w.heap.size + 1) 25 #[.int .i64 tx, .int .i64 ty] := by
    have := Blk.new (w.alloc (.cells #[.int .i64 fx, .int .i64 fy] 25)) 25 #[.int .i64 tx, .int .i64 ty]
    rw [← hW, show (w.alloc (.cells #[.int .i64 fx, .int .i64 fy] 25)).heap.size = w.heap.size + 1 by simp] at this
    exact this
  have HB0 := Lib.hid B0
  have HP0 := Lib.hid P0
  have HQ0 := Lib.hid Q0
  have HD := Lib.hid (h1.dx h2)
  have hWl1 := P0.lt
  have hWl2 := Q0.lt
  clear B0 P0 Q0 h1 h2
  go_enter Tryd.func149, Tryd.ntmps149
  go_wp2_with fail
  rw [← hW]
  clear hW
  go_loopw [5, 6, 7] (fun b m i wr => ∃ k : Nat, k ≤ 24 ∧ i = .int .i64 k ∧ b = .int .i64 ((bestTo (tx - fx) (ty - fy) k : Nat) : Int) ∧ m = .int .i64 (mostTo (tx - fx) (ty - fy) k) ∧ Below W.heap.size W wr) (fun _ _ i _ => 24 - (intOf i).toNat)
  case atStart => exact ⟨0, by decide, rfl, rfl, rfl, Below.refl _ _⟩
  case round =>
    obtain ⟨k, hk, rfl, rfl, rfl, hb⟩ := hrel
    have HB := Lib.hid hb
    have hsz := hb.size
    clear hb
    by_cases hlt : k < 24
    · have hk1 : (k : Int) < 24 := by omega
      obtain ⟨⟨x1, x2⟩, ⟨y1, y2⟩⟩ := HD.out
      obtain ⟨s1, s2, s3, s4⟩ := vecN_small k
      have m1 := mul_bd s1 s2 HD.out.1
      have m2 := mul_bd s3 s4 HD.out.2
      have HDV : Hid (dotV k (tx - fx) (ty - fy) = (vecN k).x * (tx - fx) + (vecN k).y * (ty - fy)) := rfl
      have HV := Lib.hid (l02Vector_any k hlt wr)
      have HC : Hid ((k = 0 ∧ bestTo (tx - fx) (ty - fy) (k + 1) = 0 ∧ mostTo (tx - fx) (ty - fy) (k + 1) = dotV k (tx - fx) (ty - fy)) ∨ (0 < k ∧ mostTo (tx - fx) (ty - fy) k < dotV k (tx - fx) (ty - fy) ∧ bestTo (tx - fx) (ty - fy) (k + 1) = k ∧ mostTo (tx - fx) (ty - fy) (k + 1) = dotV k (tx - fx) (ty - fy)) ∨ (0 < k ∧ ¬ mostTo (tx - fx) (ty - fy) k < dotV k (tx - fx) (ty - fy) ∧ bestTo (tx - fx) (ty - fy) (k + 1) = bestTo (tx - fx) (ty - fy) k ∧ mostTo (tx - fx) (ty - fy) (k + 1) = mostTo (tx - fx) (ty - fy) k)) := by
        show _ ∨ _
        rcases Nat.eq_zero_or_pos k with h0 | h0
        · subst h0; exact .inl ⟨rfl, most_first _ _⟩
        · by_cases hg : mostTo (tx - fx) (ty - fy) k < dotV k (tx - fx) (ty - fy)
          · exact .inr (.inl ⟨h0, hg, most_yes h0 hg⟩)
          · exact .inr (.inr ⟨h0, hg, most_no h0 hg⟩)
      rw [HDV.out] at HC
      generalize bestTo (tx - fx) (ty - fy) k = be at *
      generalize mostTo (tx - fx) (ty - fy) k = mo at *
      generalize (vecN k).x = vx at *
      generalize (vecN k).y = vy at *
      have w1w : IntKind.i64.wrap (tx - fx) = tx - fx := IntWalk.i64_in _ (by omega)
      have w2w : IntKind.i64.wrap (ty - fy) = ty - fy := IntWalk.i64_in _ (by omega)
      have w3w : IntKind.i64.wrap (vx * (tx - fx)) = vx * (tx - fx) := IntWalk.i64_in _ (by omega)
      have w4w : IntKind.i64.wrap (vy * (ty - fy)) = vy * (ty - fy) := IntWalk.i64_in _ (by omega)
      have w5w : IntKind.i64.wrap (vx * (tx - fx) + vy * (ty - fy)) = vx * (tx - fx) + vy * (ty - fy) := IntWalk.i64_in _ (by omega)
      rcases HC.out with ⟨h0, hb1, hm1⟩ | ⟨h0, hg, hb1, hm1⟩ | ⟨h0, hg, hb1, hm1⟩
      all_goals
        have HB1 := Lib.hid hb1
        have HM1 := Lib.hid hm1
        clear hb1 hm1 HC
      · subst h0
        go_wp2_with fail
        refine HV.out.mono ?_
        rintro e w3 ⟨rfl, hb3⟩
        have HB3 := Lib.hid (HB.out.trans (hb3.mono hsz))
        have P3 := HP0.out.bl HB3.out
        have Q3 := HQ0.out.bl HB3.out
        have lt1 := P3.lt
        have lt2 := Q3.lt
        have c0 : w3.cell? ⟨w.heap.size, 0, none⟩ = some (.int .i64 fx) := (P3.cell 0).trans rfl
        have c1 : w3.cell? ⟨w.heap.size, 1, none⟩ = some (.int .i64 fy) := (P3.cell 1).trans rfl
        have e0 : w3.cell? ⟨w.heap.size + 1, 0, none⟩ = some (.int .i64 tx) := (Q3.cell 0).trans rfl
        have e1 : w3.cell? ⟨w.heap.size + 1, 1, none⟩ = some (.int .i64 ty) := (Q3.cell 1).trans rfl
        have HB5 := Lib.hid (HB3.out.alloc HB3.out.size (.cells #[.int .i64 vx, .int .i64 vy] 25))
        clear hb3 P3 Q3
        go_wp2
        go_roundw
        case rel => exact ⟨0 + 1, by omega, rfl, by rw [HB1.out]; rfl, by rw [HM1.out], HB5.out⟩
        case measure => simp [intOf]
      · have hk0 : ((k : Int) == 0) = false := beq_eq_false_iff_ne.2 (by omega)
        have hgt : decide (mo < vx * (tx - fx) + vy * (ty - fy)) = true := decide_eq_true hg
        go_wp2_with fail
        refine HV.out.mono ?_
        rintro e w3 ⟨rfl, hb3⟩
        have HB3 := Lib.hid (HB.out.trans (hb3.mono hsz))
        have P3 := HP0.out.bl HB3.out
        have Q3 := HQ0.out.bl HB3.out
        have lt1 := P3.lt
        have lt2 := Q3.lt
        have c0 : w3.cell? ⟨w.heap.size, 0, none⟩ = some (.int .i64 fx) := (P3.cell 0).trans rfl
        have c1 : w3.cell? ⟨w.heap.size, 1, none⟩ = some (.int .i64 fy) := (P3.cell 1).trans rfl
        have e0 : w3.cell? ⟨w.heap.size + 1, 0, none⟩ = some (.int .i64 tx) := (Q3.cell 0).trans rfl
        have e1 : w3.cell? ⟨w.heap.size + 1, 1, none⟩ = some (.int .i64 ty) := (Q3.cell 1).trans rfl
        have HB5 := Lib.hid (HB3.out.alloc HB3.out.size (.cells #[.int .i64 vx, .int .i64 vy] 25))
        clear hb3 P3 Q3
        go_wp2
        go_roundw
        case rel => exact ⟨k + 1, by omega, by simp, by rw [HB1.out], by rw [HM1.out], HB5.out⟩
        case measure => simp [intOf]; omega
      · have hk0 : ((k : Int) == 0) = false := beq_eq_false_iff_ne.2 (by omega)
        have hgt : decide (mo < vx * (tx - fx) + vy * (ty - fy)) = false := decide_eq_false hg
        have hgl : vx * (tx - fx) + vy * (ty - fy) ≤ mo := by omega
        go_wp2_with fail
        refine HV.out.mono ?_
        rintro e w3 ⟨rfl, hb3⟩
        have HB3 := Lib.hid (HB.out.trans (hb3.mono hsz))
        have P3 := HP0.out.bl HB3.out
        have Q3 := HQ0.out.bl HB3.out
        have lt1 := P3.lt
        have lt2 := Q3.lt
        have c0 : w3.cell? ⟨w.heap.size, 0, none⟩ = some (.int .i64 fx) := (P3.cell 0).trans rfl
        have c1 : w3.cell? ⟨w.heap.size, 1, none⟩ = some (.int .i64 fy) := (P3.cell 1).trans rfl
        have e0 : w3.cell? ⟨w.heap.size + 1, 0, none⟩ = some (.int .i64 tx) := (Q3.cell 0).trans rfl
        have e1 : w3.cell? ⟨w.heap.size + 1, 1, none⟩ = some (.int .i64 ty) := (Q3.cell 1).trans rfl
        have HB5 := Lib.hid (HB3.out.alloc HB3.out.size (.cells #[.int .i64 vx, .int .i64 vy] 25))
        clear hb3 P3 Q3
        go_wp2
        go_roundw
        case rel => exact ⟨k + 1, by omega, by simp, by rw [HB1.out], by rw [HM1.out], HB5.out⟩
        case measure => simp [intOf]; omega
    · have hkn : k = 24 := by omega
      subst hkn
      go_wp2
      go_ret
      exact ⟨rfl, HB0.out.trans (HB.out.mono HB0.out.size)⟩
end Go.Proofs.YtencnldflnbdiaaDoor
