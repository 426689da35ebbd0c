/- Made by merge.py of XDir, XDir2, XDir3. -/
import Derived.Test.YtkegncanmfmmmaaDoorVec
import Derived.Test.YtkegncanmfmmmaaDoorLow
import Derived.Test.YtkegncanmfmmmaaDoorRoots
import Derived.Test.YtkegncanmfmmmaaDoorRCrane
/- XDir: The direction that points to a place best: DirectionTo and directionTo of the program, l02To and l09Dir of the reference. -/
namespace Go.Proofs.YtkegncanmfmmmaaDoor
open Go.RowKit
set_option linter.unusedVariables false

theorem Blk.bl {w w' : World} {g : Nat} {t : TypeId} {cs : Array Value} (h : Blk w g t cs) (hb : Below w.heap.size w w') : Blk w' g t cs := h.below hb h.lt
def dotV (d : Nat) (x y : Int) : Int := (vecN d).x * x + (vecN d).y * y
def bestTo (x y : Int) : Nat → Nat
  | 0 => 0
  | k + 1 => if dotV (bestTo x y k) x y < dotV k x y then k else bestTo x y k
def dirN (x y : Int) : Int := bestTo x y 24
theorem bestTo_lt (x y : Int) : ∀ k, k ≤ 24 → bestTo x y k < 24
  | 0, _ => by show (0 : Nat) < 24; decide
  | k + 1, h => by unfold bestTo; split
                   · omega
                   · exact bestTo_lt x y k (by omega)
theorem bestTo_yes {x y : Int} {k : Nat} (h : dotV (bestTo x y k) x y < dotV k x y) : bestTo x y (k + 1) = k := if_pos h
theorem bestTo_no {x y : Int} {k : Nat} (h : ¬ dotV (bestTo x y k) x y < dotV k x y) : bestTo x y (k + 1) = bestTo x y k := if_neg h
theorem bestTo_one (x y : Int) : bestTo x y 1 = 0 := if_neg (by simp [bestTo])
theorem dirN_zero : dirN 0 0 = 0 := by
  have : ∀ k, bestTo 0 0 k = 0 := fun k => by
    induction k with
    | zero => rfl
    | succ k ih => rw [bestTo_no (by simp [dotV]), ih]
  unfold dirN; rw [this]; rfl
theorem dirN_range (x y : Int) : 0 ≤ dirN x y ∧ dirN x y < 24 := by
  have := bestTo_lt x y 24 (Nat.le_refl _); unfold dirN; omega
def DBd (x : Int) : Prop := -20000 ≤ x ∧ x ≤ 20000
theorem mul_bd {a b : Int} (h1 : -1000 ≤ a) (h2 : a ≤ 1000) (h3 : DBd b) : -20000000 ≤ a * b ∧ a * b ≤ 20000000 := by
  obtain ⟨h3, h4⟩ := h3
  have ha : a.natAbs ≤ 1000 := by omega
  have hb : b.natAbs ≤ 20000 := by omega
  have : (a * b).natAbs ≤ 20000000 := by rw [Int.natAbs_mul]; exact Nat.mul_le_mul ha hb
  omega
theorem dotV_bd (d : Nat) {x y : Int} (hx : DBd x) (hy : DBd y) : -40000000 ≤ dotV d x y ∧ dotV d x y ≤ 40000000 := by
  obtain ⟨a, b, c, e⟩ := vecN_small d
  have h1 := mul_bd a b hx
  have h2 := mul_bd c e hy
  unfold dotV; omega

set_option maxRecDepth 100000 in
set_option maxHeartbeats 1600000 in
theorem product_any (d : Nat) (hd : d < 24) (bt bf : Nat) (tx ty fx fy : Int) (w : World) (hq : QtrW w) (ht : Blk w bt 29 #[.int .i64 tx, .int .i64 ty]) (hf : Blk w bf 29 #[.int .i64 fx, .int .i64 fy]) (hx : DBd (tx - fx)) (hy : DBd (ty - fy)) :
    Calls Tryd.prog 128 #[.int .i64 (d : Int), .pointer (some ⟨bt, 0, none⟩), .pointer (some ⟨bf, 0, none⟩)] w fun e w' => e = .returned (.int .i64 (dotV d (tx - fx) (ty - fy))) ∧ Below w.heap.size w w' := by
  have HT := Lib.hid ht
  have HF := Lib.hid hf
  have HX := Lib.hid hx
  have HY := Lib.hid hy
  have HDV : Hid (dotV d (tx - fx) (ty - fy) = (vecN d).x * (tx - fx) + (vecN d).y * (ty - fy)) := rfl
  obtain ⟨s1, s2, s3, s4⟩ := vecN_small d
  have m1 := mul_bd s1 s2 hx
  have m2 := mul_bd s3 s4 hy
  obtain ⟨x1, x2⟩ := hx
  obtain ⟨y1, y2⟩ := hy
  clear ht hf
  have HV := Lib.hid (vector_any d hd w hq)
  generalize (vecN d).x = vx at *
  generalize (vecN d).y = vy at *
  go_enter Tryd.func128, Tryd.ntmps128
  go_wp2_with fail
  refine HV.out.mono ?_
  rintro e w1 ⟨rfl, hb1⟩
  have HB1 := Lib.hid hb1
  have P1 := HT.out.bl hb1
  have Q1 := HF.out.bl hb1
  have lt1 := P1.lt
  have lt2 := Q1.lt
  have c0 : w1.cell? ⟨bt, 0, none⟩ = some (.int .i64 tx) := (P1.cell 0).trans rfl
  have c1 : w1.cell? ⟨bt, 1, none⟩ = some (.int .i64 ty) := (P1.cell 1).trans rfl
  have d0 : w1.cell? ⟨bf, 0, none⟩ = some (.int .i64 fx) := (Q1.cell 0).trans rfl
  have d1 : w1.cell? ⟨bf, 1, none⟩ = some (.int .i64 fy) := (Q1.cell 1).trans rfl
  have w1w : IntKind.i64.wrap (tx - fx) = tx - fx := IntWalk.i64_in _ (by omega)
  have w2w : IntKind.i64.wrap (ty - fy) = ty - fy := IntWalk.i64_in _ (by omega)
  have w3w : IntKind.i64.wrap (vx * (tx - fx)) = vx * (tx - fx) := IntWalk.i64_in _ (by omega)
  have w4w : IntKind.i64.wrap (vy * (ty - fy)) = vy * (ty - fy) := IntWalk.i64_in _ (by omega)
  have w5w : IntKind.i64.wrap (vx * (tx - fx) + vy * (ty - fy)) = vx * (tx - fx) + vy * (ty - fy) := IntWalk.i64_in _ (by omega)
  clear hb1 P1 Q1
  go_wp2
  go_ret
  exact ⟨by rw [HDV.out]; rfl, HB1.out.alloc HB1.out.size _⟩
theorem validPlace_yes (x y : Int) (w : World) (h : Plc x y) :
    Calls Tryd.prog 34 #[.agg #[.int .i64 x, .int .i64 y]] w fun e w' => e = .returned (.bool true) ∧ Below w.heap.size w w' := by
  have h1 : inB x (-10000) 10000 = true := inB_true.2 h.1
  have h2 : inB y (-10000) 10000 = true := inB_true.2 h.2
  go_enter Tryd.func34, Tryd.ntmps34
  go_wp2_with (go_at_call 77; refine (within_any _ _ _ _).mono ?_; rintro e w1 ⟨rfl, rfl⟩)
  go_ret
  exact ⟨rfl, (Below.refl _ _).alloc (Nat.le_refl _) _⟩
theorem Plc.dx {ax ay bx by_ : Int} (h1 : Plc ax ay) (h2 : Plc bx by_) : DBd (bx - ax) ∧ DBd (by_ - ay) := by
  obtain ⟨⟨_, _⟩, ⟨_, _⟩⟩ := h1; obtain ⟨⟨_, _⟩, ⟨_, _⟩⟩ := h2
  exact ⟨⟨by omega, by omega⟩, ⟨by omega, by omega⟩⟩
def dirRet (fx fy tx ty : Int) : Value := .tuple #[.int .i64 (dirN (tx - fx) (ty - fy)), .int .i64 (if fx = tx ∧ fy = ty then 6 else 0)]

set_option maxRecDepth 100000 in
set_option maxHeartbeats 1600000 in
theorem directionOf_any (fx fy tx ty : Int) (h1 : Plc fx fy) (h2 : Plc tx ty) (w : World) (hq : QtrW w) :
    Calls Tryd.prog 87 #[.agg #[.int .i64 fx, .int .i64 fy], .agg #[.int .i64 tx, .int .i64 ty]] w fun e w' => e = .returned (dirRet fx fy tx ty) ∧ Below w.heap.size w w' := by
  obtain ⟨W, hW⟩ : ∃ W : World, W = (w.alloc (.cells #[.int .i64 fx, .int .i64 fy] 29)).alloc (.cells #[.int .i64 tx, .int .i64 ty] 29) := ⟨_, rfl⟩
  have B0 : Below w.heap.size w W := by rw [hW]; exact ((Below.refl _ _).alloc (Nat.le_refl _) _).alloc (by simp) _
  have P0 : Blk W w.heap.size 29 #[.int .i64 fx, .int .i64 fy] := by rw [hW]; exact (Blk.new _ _ _).alloc _
  have Q0 : Blk W (w.heap.size + 1) 29 #[.int .i64 tx, .int .i64 ty] := by
    have := Blk.new (w.alloc (.cells #[.int .i64 fx, .int .i64 fy] 29)) 29 #[.int .i64 tx, .int .i64 ty]
    rw [← hW, show (w.alloc (.cells #[.int .i64 fx, .int .i64 fy] 29)).heap.size = w.heap.size + 1 by simp] at this
    exact this
  have HB0 := Lib.hid B0
  have HP0 := Lib.hid P0
  have HQ0 := Lib.hid Q0
  have HQT := Lib.hid (hq.bel B0)
  have HR : Hid (dirRet fx fy tx ty = .tuple #[.int .i64 (dirN (tx - fx) (ty - fy)), .int .i64 (if fx = tx ∧ fy = ty then 6 else 0)]) := rfl
  have HD := Lib.hid (h1.dx h2)
  have HV1 := Lib.hid (fun W => validPlace_yes fx fy W h1)
  have HV2 := Lib.hid (fun W => validPlace_yes tx ty W h2)
  have hl1 := P0.lt
  have hl2 := Q0.lt
  have c0 : W.cell? ⟨w.heap.size, 0, none⟩ = some (.int .i64 fx) := (P0.cell 0).trans rfl
  have c1 : W.cell? ⟨w.heap.size, 1, none⟩ = some (.int .i64 fy) := (P0.cell 1).trans rfl
  clear B0 P0 Q0 hq h1 h2
  go_enter Tryd.func87, Tryd.ntmps87
  go_wp2_with fail
  rw [← hW]
  clear hW
  go_wp2_with fail
  refine (HV1.out _).mono ?_
  rintro e w1 ⟨rfl, hb1⟩
  have HB1 := Lib.hid hb1
  have d0 : w1.cell? ⟨w.heap.size + 1, 0, none⟩ = some (.int .i64 tx) := ((HQ0.out.bl hb1).cell 0).trans rfl
  have d1 : w1.cell? ⟨w.heap.size + 1, 1, none⟩ = some (.int .i64 ty) := ((HQ0.out.bl hb1).cell 1).trans rfl
  clear hb1 c0 c1
  go_wp2_with fail
  refine (HV2.out _).mono ?_
  rintro e w2 ⟨rfl, hb2⟩
  have HB2 := Lib.hid (HB1.out.trans (hb2.mono HB1.out.size))
  have P2 := HP0.out.bl HB2.out
  have Q2 := HQ0.out.bl HB2.out
  have HP2 := Lib.hid P2
  have HQ2 := Lib.hid Q2
  have HQT2 := Lib.hid (HQT.out.bel HB2.out)
  have hl1 := P2.lt
  have hl2 := Q2.lt
  have c0 : w2.cell? ⟨w.heap.size, 0, none⟩ = some (.int .i64 fx) := (P2.cell 0).trans rfl
  have c1 : w2.cell? ⟨w.heap.size, 1, none⟩ = some (.int .i64 fy) := (P2.cell 1).trans rfl
  have e0 : w2.cell? ⟨w.heap.size + 1, 0, none⟩ = some (.int .i64 tx) := (Q2.cell 0).trans rfl
  have e1 : w2.cell? ⟨w.heap.size + 1, 1, none⟩ = some (.int .i64 ty) := (Q2.cell 1).trans rfl
  clear hb2 P2 Q2 d0 d1
  by_cases hEq : fx = tx ∧ fy = ty
  · obtain ⟨rfl, rfl⟩ := hEq
    have HE : Hid (dirRet fx fy fx fy = .tuple #[.int .i64 0, .int .i64 6]) := by
      show _ = _; rw [HR.out, Int.sub_self, Int.sub_self, dirN_zero, if_pos ⟨rfl, rfl⟩]
    go_wp2
    go_ret2
    exact ⟨by rw [HE.out]; rfl, HB0.out.trans (HB2.out.mono HB0.out.size)⟩
  · have HE : Hid (dirRet fx fy tx ty = .tuple #[.int .i64 (dirN (tx - fx) (ty - fy)), .int .i64 0]) := by
      show _ = _; rw [HR.out, if_neg hEq]
    have hne : (fx = tx → ¬ fy = ty) := fun h1 h2 => hEq ⟨h1, h2⟩
    have HB3 := Lib.hid (HB0.out.trans (HB2.out.mono HB0.out.size))
    clear hEq
    by_cases hf : fx = tx
    · have hg := hne hf
      clear hne
      go_wp2
      clear hf hg c0 c1 e0 e1
      go_loopw [7, 23] (fun b i wr => ∃ k : Nat, k ≤ 24 ∧ i = .int .i64 k ∧ b = .int .i64 ((bestTo (tx - fx) (ty - fy) k : Nat) : Int) ∧ Below w2.heap.size w2 wr) (fun _ i _ => 24 - (intOf i).toNat)
      case atStart => exact ⟨0, by decide, rfl, rfl, Below.refl _ _⟩
      case round =>
        obtain ⟨k, hk, rfl, rfl, hb⟩ := hrel
        have HB := Lib.hid hb
        have hsz := hb.size
        clear hb
        by_cases hlt : k < 24
        · have hk1 : (k : Int) < 24 := by omega
          have hbl := bestTo_lt (tx - fx) (ty - fy) k (by omega)
          have HPR := Lib.hid (fun (d : Nat) (hd : d < 24) (X : World) (hX : Below w2.heap.size w2 X) => product_any d hd (w.heap.size + 1) w.heap.size tx ty fx fy X (HQT2.out.bel hX) (HQ2.out.bl hX) (HP2.out.bl hX) HD.out.1 HD.out.2)
          have HBE : Hid (Below w2.heap.size w2 wr) := HB.out
          have bd1 := dotV_bd k HD.out.1 HD.out.2
          have bd2 := dotV_bd (bestTo (tx - fx) (ty - fy) k) HD.out.1 HD.out.2
          by_cases hgt : dotV (bestTo (tx - fx) (ty - fy) k) (tx - fx) (ty - fy) < dotV k (tx - fx) (ty - fy)
          · have HST := Lib.hid (bestTo_yes hgt)
            generalize hbe : bestTo (tx - fx) (ty - fy) k = be at *
            have HPK := Lib.hid (HPR.out k hlt)
            have HPB := Lib.hid (HPR.out be hbl)
            generalize dotV k (tx - fx) (ty - fy) = dk at *
            generalize dotV be (tx - fx) (ty - fy) = db at *
            clear hbe
            go_wp2_with fail
            refine (HPK.out _ HB.out).mono ?_
            rintro e w3 ⟨rfl, hb3⟩
            have HB4 := Lib.hid (HB.out.trans (hb3.mono hsz))
            clear hb3
            go_wp2_with fail
            refine (HPB.out _ HB4.out).mono ?_
            rintro e w5 ⟨rfl, hb5⟩
            have HB6 := Lib.hid (HB4.out.trans (hb5.mono HB4.out.size))
            clear hb5
            go_wp2
            go_roundw
            case rel => exact ⟨k + 1, by omega, by simp, by rw [HST.out], HB6.out⟩
            case measure => simp [intOf]; omega
          · have HST := Lib.hid (bestTo_no hgt)
            generalize hbe : bestTo (tx - fx) (ty - fy) k = be at *
            have HPK := Lib.hid (HPR.out k hlt)
            have HPB := Lib.hid (HPR.out be hbl)
            generalize dotV k (tx - fx) (ty - fy) = dk at *
            generalize dotV be (tx - fx) (ty - fy) = db at *
            clear hbe
            go_wp2_with fail
            refine (HPK.out _ HB.out).mono ?_
            rintro e w3 ⟨rfl, hb3⟩
            have HB4 := Lib.hid (HB.out.trans (hb3.mono hsz))
            clear hb3
            go_wp2_with fail
            refine (HPB.out _ HB4.out).mono ?_
            rintro e w5 ⟨rfl, hb5⟩
            have HB6 := Lib.hid (HB4.out.trans (hb5.mono HB4.out.size))
            clear hb5
            go_wp2
            go_roundw
            case rel => exact ⟨k + 1, by omega, by simp, by rw [HST.out], HB6.out⟩
            case measure => simp [intOf]; omega
        · have hkn : k = 24 := by omega
          subst hkn
          go_wp2
          go_ret2
          exact ⟨by rw [HE.out]; rfl, HB3.out.trans (HB.out.mono HB3.out.size)⟩
    · clear hne
      go_wp2
      clear hf c0 c1 e0 e1
      go_loopw [7, 23] (fun b i wr => ∃ k : Nat, k ≤ 24 ∧ i = .int .i64 k ∧ b = .int .i64 ((bestTo (tx - fx) (ty - fy) k : Nat) : Int) ∧ Below w2.heap.size w2 wr) (fun _ i _ => 24 - (intOf i).toNat)
      case atStart => exact ⟨0, by decide, rfl, rfl, Below.refl _ _⟩
      case round =>
        obtain ⟨k, hk, rfl, rfl, hb⟩ := hrel
        have HB := Lib.hid hb
        have hsz := hb.size
        clear hb
        by_cases hlt : k < 24
        · have hk1 : (k : Int) < 24 := by omega
          have hbl := bestTo_lt (tx - fx) (ty - fy) k (by omega)
          have HPR := Lib.hid (fun (d : Nat) (hd : d < 24) (X : World) (hX : Below w2.heap.size w2 X) => product_any d hd (w.heap.size + 1) w.heap.size tx ty fx fy X (HQT2.out.bel hX) (HQ2.out.bl hX) (HP2.out.bl hX) HD.out.1 HD.out.2)
          have HBE : Hid (Below w2.heap.size w2 wr) := HB.out
          have bd1 := dotV_bd k HD.out.1 HD.out.2
          have bd2 := dotV_bd (bestTo (tx - fx) (ty - fy) k) HD.out.1 HD.out.2
          by_cases hgt : dotV (bestTo (tx - fx) (ty - fy) k) (tx - fx) (ty - fy) < dotV k (tx - fx) (ty - fy)
          · have HST := Lib.hid (bestTo_yes hgt)
            generalize hbe : bestTo (tx - fx) (ty - fy) k = be at *
            have HPK := Lib.hid (HPR.out k hlt)
            have HPB := Lib.hid (HPR.out be hbl)
            generalize dotV k (tx - fx) (ty - fy) = dk at *
            generalize dotV be (tx - fx) (ty - fy) = db at *
            clear hbe
            go_wp2_with fail
            refine (HPK.out _ HB.out).mono ?_
            rintro e w3 ⟨rfl, hb3⟩
            have HB4 := Lib.hid (HB.out.trans (hb3.mono hsz))
            clear hb3
            go_wp2_with fail
            refine (HPB.out _ HB4.out).mono ?_
            rintro e w5 ⟨rfl, hb5⟩
            have HB6 := Lib.hid (HB4.out.trans (hb5.mono HB4.out.size))
            clear hb5
            go_wp2
            go_roundw
            case rel => exact ⟨k + 1, by omega, by simp, by rw [HST.out], HB6.out⟩
            case measure => simp [intOf]; omega
          · have HST := Lib.hid (bestTo_no hgt)
            generalize hbe : bestTo (tx - fx) (ty - fy) k = be at *
            have HPK := Lib.hid (HPR.out k hlt)
            have HPB := Lib.hid (HPR.out be hbl)
            generalize dotV k (tx - fx) (ty - fy) = dk at *
            generalize dotV be (tx - fx) (ty - fy) = db at *
            clear hbe
            go_wp2_with fail
            refine (HPK.out _ HB.out).mono ?_
            rintro e w3 ⟨rfl, hb3⟩
            have HB4 := Lib.hid (HB.out.trans (hb3.mono hsz))
            clear hb3
            go_wp2_with fail
            refine (HPB.out _ HB4.out).mono ?_
            rintro e w5 ⟨rfl, hb5⟩
            have HB6 := Lib.hid (HB4.out.trans (hb5.mono HB4.out.size))
            clear hb5
            go_wp2
            go_roundw
            case rel => exact ⟨k + 1, by omega, by simp, by rw [HST.out], HB6.out⟩
            case measure => simp [intOf]; omega
        · have hkn : k = 24 := by omega
          subst hkn
          go_wp2
          go_ret2
          exact ⟨by rw [HE.out]; rfl, HB3.out.trans (HB.out.mono HB3.out.size)⟩
end Go.Proofs.YtkegncanmfmmmaaDoor
/- XDir2: The reference's direction to a place: l02To, l09Dir; both hand back dirN. -/
namespace Go.Proofs.YtkegncanmfmmmaaDoor
open Go.RowKit
set_option linter.unusedVariables false

def mostTo (x y : Int) (k : Nat) : Int := if k = 0 then 0 else dotV (bestTo x y k) x y
theorem mostTo_pos {x y : Int} {k : Nat} (h : 0 < k) : mostTo x y k = dotV (bestTo x y k) x y := if_neg (by omega)
theorem most_first (x y : Int) : bestTo x y 1 = 0 ∧ mostTo x y 1 = dotV 0 x y := ⟨bestTo_one x y, by rw [mostTo_pos (by decide), bestTo_one]⟩
theorem most_yes {x y : Int} {k : Nat} (h0 : 0 < k) (h : mostTo x y k < dotV k x y) : bestTo x y (k + 1) = k ∧ mostTo x y (k + 1) = dotV k x y := by
  rw [mostTo_pos h0] at h
  rw [mostTo_pos (by omega), bestTo_yes h]; exact ⟨rfl, rfl⟩
theorem most_no {x y : Int} {k : Nat} (h0 : 0 < k) (h : ¬ mostTo x y k < dotV k x y) : bestTo x y (k + 1) = bestTo x y k ∧ mostTo x y (k + 1) = mostTo x y k := by
  have h1 := h
  rw [mostTo_pos h0] at h1
  rw [mostTo_pos (by omega), bestTo_no h1, mostTo_pos h0]; exact ⟨rfl, rfl⟩
theorem mostTo_bd {x y : Int} (k : Nat) (hx : DBd x) (hy : DBd y) : -40000000 ≤ mostTo x y k ∧ mostTo x y k ≤ 40000000 := by
  unfold mostTo; split
  · omega
  · exact dotV_bd _ hx hy

end Go.Proofs.YtkegncanmfmmmaaDoor
/- XDir3: The direction of a place from a crane: directionTo of the program, l09Dir of the reference. -/
namespace Go.Proofs.YtkegncanmfmmmaaDoor
open Go.RowKit
set_option linter.unusedVariables false

theorem directionOf_lit (fx fy tx ty : Int) (h1 : Plc fx fy) (h2 : Plc tx ty) : ∃ b : Int, ∀ w, QtrW w →
    Calls Tryd.prog 87 #[.agg #[.int .i64 fx, .int .i64 fy], .agg #[.int .i64 tx, .int .i64 ty]] w fun e w' => e = .returned (.tuple #[.int .i64 (dirN (tx - fx) (ty - fy)), .int .i64 b]) ∧ Below w.heap.size w w' :=
  ⟨_, fun w hq => directionOf_any fx fy tx ty h1 h2 w hq⟩

set_option maxRecDepth 100000 in
theorem directionTo_any (p : Crane) (x y : Int) (w : World) (h1 : Plc p.v.ax p.v.ay) (h2 : Plc x y) (hq : QtrW w) :
    Calls Tryd.prog 41 #[.agg #[.string p.v.name, .int .i64 p.v.ax, .int .i64 p.v.ay, .int .i64 p.v.height, .int .i64 p.v.jib, .int .i64 p.v.back, .slice p.r.a p.r.n p.r.cap], .agg #[.int .i64 x, .int .i64 y]] w fun e w' => e = .returned (.int .i64 (dirN (x - p.v.ax) (y - p.v.ay))) ∧ Below w.heap.size w w' := by
  obtain ⟨b, hb⟩ := directionOf_lit _ _ _ _ h1 h2
  have HC := Lib.hid hb
  have HQ := Lib.hid hq
  clear hb hq
  go_enter Tryd.func41, Tryd.ntmps41
  go_wp2_with fail
  refine (HC.out _ (HQ.out.bel (((Below.refl _ _).alloc (Nat.le_refl _) _).alloc (by simp) _))).mono ?_
  rintro e w1 ⟨rfl, hb1⟩
  go_wp2
  go_ret
  exact ⟨rfl, (((Below.refl _ _).alloc (Nat.le_refl _) _).alloc (by simp) _).trans (hb1.mono (by simp; omega))⟩

end Go.Proofs.YtkegncanmfmmmaaDoor
