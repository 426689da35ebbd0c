/- SignatureOf of the program and of the reference: sgVal and sgCode. -/
import Derived.Test.YtencnldflnbdiaaDoorSig2
namespace Go.Proofs.YtencnldflnbdiaaDoor
open Go.RowKit Go.Sort
set_option linter.unusedVariables false

set_option maxRecDepth 100000 in
set_option maxHeartbeats 1600000 in
theorem l25Sign_any (b : Nat) (key before : Int) (p : Entry) (w : World) (hi : SgIn key before p) (c0 : w.cell? ⟨b, 0, none⟩ = some (.int .i64 p.second)) (c1 : w.cell? ⟨b, 1, none⟩ = some (.string p.who)) (c2 : w.cell? ⟨b, 2, none⟩ = some (.string p.what)) :
    Calls Tryd.prog 86 #[.int .i64 key, .int .i64 before, .pointer (some ⟨b, 0, none⟩)] w fun e w' => e = .returned (.int .i64 (sgV key before p)) ∧ Below w.heap.size w w' := by
  have e0 := cell_regrown c0
  have e1 := cell_regrown c1
  have e2 := cell_regrown c2
  have HSZ := Lib.hid (txt_size hi)
  have HBD := Lib.hid (fun k => sgTo_bd hi.k hi.b (txt p) k)
  have HV : Hid (sgV key before p = (sgTo key before (txt p) (txt p).size + key * key) % 65521) := rfl
  have HZ : Hid (sgTo key before (txt p) 0 = (before + 11 * key) % 65521) := rfl
  have HS1 : Hid (∀ k, sgTo key before (txt p) (k + 1) = (41 * sgTo key before (txt p) k + PlainAid.bt (txt p) k) % 65521) := fun k => rfl
  have HTX : Hid (txt p = decS p.second ++ p.who ++ p.what) := rfl
  have HDC := Lib.hid (fun d os => l01Dec_any p.second (by have := hi.s; omega) (by have := hi.s; omega) (grow (redrawn w d) os))
  have s1 := decS_size7 p.second (by have := hi.s; omega) (by have := hi.s; omega)
  obtain ⟨⟨k1, k2⟩, ⟨b1, b2⟩, ⟨q1, q2⟩, z1, z2⟩ := hi
  have hkk : 0 ≤ key * key ∧ key * key ≤ 4292870400 := ⟨Int.mul_nonneg (by omega) (by omega), Int.mul_le_mul (c := 65520) (d := 65520) k2 k2 (by omega) (by omega)⟩
  obtain ⟨kk1, kk2⟩ := hkk
  clear c0 c1 c2
  go_enter Tryd.func86, Tryd.ntmps86
  go_wp2
  refine wp_region_quiet_below (by kernel_rfl) (by kernel_rfl) ?_
  repeat (go_big_quiet_step (first | (go_at_call 90; exact Calls.regrown_of (HDC.out _ _))))
  refine wpQuiet_nil ?_
  intro _ hw9
  obtain ⟨⟨dq, osq⟩, hw9⟩ := hw9
  subst hw9
  have hb5 := below_regrown w dq osq
  dsimp only at hb5 ⊢
  generalize grow (redrawn w dq) osq = w5 at hb5 ⊢
  have HB5 := Lib.hid hb5
  rw [← HTX.out, ← HZ.out]
  clear hb5 e0 e1 e2 s1 z1 z2 HTX HDC HZ
  generalize txt p = T at *
  have hbt := PlainAid.get_bt T
  have hsz := HSZ.out
  go_wp2
  go_loop [9, 7] (fun v9 v7 => ∃ k : Nat, k ≤ T.size ∧ v9 = .int .i64 k ∧ v7 = .int .i64 (sgTo key before T k)) (fun v9 _ => T.size - (intOf v9).toNat)
  case atStart => exact ⟨0, Nat.zero_le _, rfl, rfl⟩
  case round =>
    obtain ⟨k, hk, rfl, rfl⟩ := hrel
    have hb := HBD.out k
    by_cases hlt : k < T.size
    · have hlt' : (k : Int) < (T.size : Int) := by omega
      have c1 := PlainAid.bt_nonneg T k
      have c2 := PlainAid.bt_le T k
      have HSK := Lib.hid (HS1.out k)
      generalize sgTo key before T k = S at *
      obtain ⟨hb1, hb2⟩ := hb
      go_wp2
      go_round
      case rel => exact ⟨k + 1, by omega, by go_num, by rw [HSK.out]⟩
      case measure => simp [intOf]; omega
    · obtain rfl : k = T.size := by omega
      have HE : Hid (sgV key before p = (sgTo key before T T.size + key * key) % 65521) := HV.out
      generalize sgTo key before T T.size = S at *
      obtain ⟨hb1, hb2⟩ := hb
      clear hbt
      go_wp2
      go_ret
      exact ⟨by rw [HE.out]; rfl, HB5.out⟩
theorem plainE_eq (p : Entry) (w : World) (hw : p.who.size ≤ 9223372036854775807) (hs : p.what.size ≤ 9223372036854775807) {v : Bool} (h : enOk p = v) :
    Calls Tryd.prog 87 #[.agg #[.int .i64 p.second, .string p.who, .string p.what]] w fun e w' => e = .returned (.bool v) ∧ Below w.heap.size w w' := by subst h; exact enPlain_any p w hw hs
theorem plainS_eq (b : Nat) (p : Entry) (w : World) (e0 : w.cell? ⟨b, 0, none⟩ = some (.int .i64 p.second)) (e1 : w.cell? ⟨b, 1, none⟩ = some (.string p.who)) (e2 : w.cell? ⟨b, 2, none⟩ = some (.string p.what)) (hw : p.who.size ≤ 9223372036854775807) (hs : p.what.size ≤ 9223372036854775807) {v : Bool} (h : enOk p = v) :
    Calls Tryd.prog 84 #[.pointer (some ⟨b, 0, none⟩)] w fun e w' => e = .returned (.bool v) ∧ w = w' := by subst h; exact l25Plain_any b p w e0 e1 e2 hw hs
def SG (key before : Int) (p : Entry) (w : World) (e : Ending) (w' : World) : Prop := e = .returned (.tuple #[.int .i64 (sgVal key before p), .int .i64 (sgCode key before p)]) ∧ Below w.heap.size w w'
set_option maxRecDepth 100000 in
set_option maxHeartbeats 1600000 in
theorem signatureOf_any (key before : Int) (p : Entry) (w : World) (hw : p.who.size ≤ 9223372036854775807) (hs : p.what.size ≤ 9223372036854775807) (ht : TabW w) :
    Calls Tryd.prog 32 #[.int .i64 key, .int .i64 before, .agg #[.int .i64 p.second, .string p.who, .string p.what]] w (SG key before p w) := by
  obtain ⟨W, hW⟩ : ∃ W : World, W = w.alloc (.cells #[.int .i64 p.second, .string p.who, .string p.what] 65) := ⟨_, rfl⟩
  have B0 : Below w.heap.size w W := by rw [hW]; exact (Below.refl _ _).alloc (Nat.le_refl _) _
  have P0 : Blk W w.heap.size 65 #[.int .i64 p.second, .string p.who, .string p.what] := by rw [hW]; exact Blk.new _ _ _
  have HP0 := Lib.hid P0
  have HB0 := Lib.hid B0
  have HT := Lib.hid (ht.bel B0)
  have HSO : Hid (sgOk key before = (inB key 1 65520 && inB before 0 65520)) := rfl
  clear B0 P0 ht
  cases f : enOk p
  · have HE := Lib.hid (sg_no (key := key) (before := before) f)
    have F := Lib.hid f
    clear f
    go_enter Tryd.func32, Tryd.ntmps32
    go_wp2_with fail
    rw [← hW]
    clear hW
    refine (plainE_eq p W hw hs F.out).mono ?_
    rintro e w1 ⟨rfl, hb1⟩
    go_wp2
    go_ret2
    exact ⟨by rw [HE.out.1, HE.out.2]; rfl, HB0.out.trans (hb1.mono HB0.out.size)⟩
  · have F := Lib.hid f
    clear f
    cases f1 : inB key 1 65520
    · have HE := Lib.hid (sg_range (key := key) (before := before) F.out (by rw [HSO.out, f1]; rfl))
      have F1 := Lib.hid f1
      clear f1
      go_enter Tryd.func32, Tryd.ntmps32
      go_wp2_with fail
      rw [← hW]
      clear hW
      refine (plainE_eq p W hw hs F.out).mono ?_
      rintro e w1 ⟨rfl, hb1⟩
      go_wp2_with fail
      refine (within7_eq _ _ _ _ F1.out).mono ?_
      rintro _ _ ⟨rfl, rfl⟩
      go_wp2
      go_ret2
      exact ⟨by rw [HE.out.1, HE.out.2]; rfl, HB0.out.trans (hb1.mono HB0.out.size)⟩
    · cases f2 : inB before 0 65520
      · have HE := Lib.hid (sg_range (key := key) (before := before) F.out (by rw [HSO.out, f2]; simp))
        have F1 := Lib.hid f1
        have F2 := Lib.hid f2
        clear f1 f2
        go_enter Tryd.func32, Tryd.ntmps32
        go_wp2_with fail
        rw [← hW]
        clear hW
        refine (plainE_eq p W hw hs F.out).mono ?_
        rintro e w1 ⟨rfl, hb1⟩
        go_wp2_with fail
        refine (within7_eq _ _ _ _ F1.out).mono ?_
        rintro _ _ ⟨rfl, rfl⟩
        go_wp2_with fail
        refine (within7_eq _ _ _ _ F2.out).mono ?_
        rintro _ _ ⟨rfl, rfl⟩
        go_wp2
        go_ret2
        exact ⟨by rw [HE.out.1, HE.out.2]; rfl, HB0.out.trans (hb1.mono HB0.out.size)⟩
      · have HOK : Hid (sgOk key before = true) := by show _ = _; rw [HSO.out, f1, f2]; rfl
        have HE := Lib.hid (sg_yes (key := key) (before := before) F.out HOK.out)
        have F1 := Lib.hid f1
        have F2 := Lib.hid f2
        clear f1 f2
        go_enter Tryd.func32, Tryd.ntmps32
        go_wp2_with fail
        rw [← hW]
        clear hW
        refine (plainE_eq p W hw hs F.out).mono ?_
        rintro e w1 ⟨rfl, hb1⟩
        have HB1 := Lib.hid (HB0.out.trans (hb1.mono HB0.out.size))
        have HT1 := Lib.hid (HT.out.bel hb1)
        have HP1 := Lib.hid (HP0.out.below hb1 HP0.out.lt)
        have e0 : w1.cell? ⟨w.heap.size, 0, none⟩ = some (.int .i64 p.second) := (HP1.out.cell 0).trans rfl
        have e1 : w1.cell? ⟨w.heap.size, 1, none⟩ = some (.string p.who) := (HP1.out.cell 1).trans rfl
        have e2 : w1.cell? ⟨w.heap.size, 2, none⟩ = some (.string p.what) := (HP1.out.cell 2).trans rfl
        clear hb1
        go_wp2_with fail
        refine (within7_eq _ _ _ _ F1.out).mono ?_
        rintro _ _ ⟨rfl, rfl⟩
        go_wp2_with fail
        refine (within7_eq _ _ _ _ F2.out).mono ?_
        rintro _ _ ⟨rfl, rfl⟩
        go_wp2_with fail
        refine (signature_any key before p _ (sgIn_of F.out HOK.out) HT1.out).mono ?_
        rintro e w2 ⟨rfl, hb2⟩
        go_wp2
        go_ret2
        exact ⟨by rw [HE.out.1, HE.out.2]; rfl, HB1.out.trans (hb2.mono HB1.out.size)⟩
set_option maxRecDepth 100000 in
set_option maxHeartbeats 1600000 in
theorem specSignatureOf_any (key before : Int) (p : Entry) (w : World) (hw : p.who.size ≤ 9223372036854775807) (hs : p.what.size ≤ 9223372036854775807) :
    Calls Tryd.prog 30 #[.int .i64 key, .int .i64 before, .agg #[.int .i64 p.second, .string p.who, .string p.what]] w (SG key before p w) := by
  obtain ⟨W, hW⟩ : ∃ W : World, W = w.alloc (.cells #[.int .i64 p.second, .string p.who, .string p.what] 65) := ⟨_, rfl⟩
  have B0 : Below w.heap.size w W := by rw [hW]; exact (Below.refl _ _).alloc (Nat.le_refl _) _
  have P0 : Blk W w.heap.size 65 #[.int .i64 p.second, .string p.who, .string p.what] := by rw [hW]; exact Blk.new _ _ _
  have HB0 := Lib.hid B0
  have E0 : Hid (W.cell? ⟨w.heap.size, 0, none⟩ = some (.int .i64 p.second)) := (P0.cell 0).trans rfl
  have E1 : Hid (W.cell? ⟨w.heap.size, 1, none⟩ = some (.string p.who)) := (P0.cell 1).trans rfl
  have E2 : Hid (W.cell? ⟨w.heap.size, 2, none⟩ = some (.string p.what)) := (P0.cell 2).trans rfl
  have HSO : Hid (sgOk key before = (inB key 1 65520 && inB before 0 65520)) := rfl
  clear B0 P0
  cases f : enOk p
  · have HE := Lib.hid (sg_no (key := key) (before := before) f)
    have F := Lib.hid f
    clear f
    go_enter Tryd.func30, Tryd.ntmps30
    go_wp2_with fail
    rw [← hW]
    clear hW
    refine (plainS_eq w.heap.size p W E0.out E1.out E2.out hw hs F.out).mono ?_
    rintro e w1 ⟨rfl, rfl⟩
    go_wp2
    go_ret2
    exact ⟨by rw [HE.out.1, HE.out.2]; rfl, HB0.out⟩
  · have F := Lib.hid f
    clear f
    cases f1 : inB key 1 65520
    · have HE := Lib.hid (sg_range (key := key) (before := before) F.out (by rw [HSO.out, f1]; rfl))
      have F1 := Lib.hid f1
      clear f1
      go_enter Tryd.func30, Tryd.ntmps30
      go_wp2_with fail
      rw [← hW]
      clear hW
      refine (plainS_eq w.heap.size p W E0.out E1.out E2.out hw hs F.out).mono ?_
      rintro e w1 ⟨rfl, rfl⟩
      go_wp2_with fail
      refine (in7_eq _ _ _ _ F1.out).mono ?_
      rintro _ _ ⟨rfl, rfl⟩
      go_wp2
      go_ret2
      exact ⟨by rw [HE.out.1, HE.out.2]; rfl, HB0.out⟩
    · cases f2 : inB before 0 65520
      · have HE := Lib.hid (sg_range (key := key) (before := before) F.out (by rw [HSO.out, f2]; simp))
        have F1 := Lib.hid f1
        have F2 := Lib.hid f2
        clear f1 f2
        go_enter Tryd.func30, Tryd.ntmps30
        go_wp2_with fail
        rw [← hW]
        clear hW
        refine (plainS_eq w.heap.size p W E0.out E1.out E2.out hw hs F.out).mono ?_
        rintro e w1 ⟨rfl, rfl⟩
        go_wp2_with fail
        refine (in7_eq _ _ _ _ F1.out).mono ?_
        rintro _ _ ⟨rfl, rfl⟩
        go_wp2_with fail
        refine (in7_eq _ _ _ _ F2.out).mono ?_
        rintro _ _ ⟨rfl, rfl⟩
        go_wp2
        go_ret2
        exact ⟨by rw [HE.out.1, HE.out.2]; rfl, HB0.out⟩
      · have HOK : Hid (sgOk key before = true) := by show _ = _; rw [HSO.out, f1, f2]; rfl
        have HE := Lib.hid (sg_yes (key := key) (before := before) F.out HOK.out)
        have F1 := Lib.hid f1
        have F2 := Lib.hid f2
        clear f1 f2
        go_enter Tryd.func30, Tryd.ntmps30
        go_wp2_with fail
        rw [← hW]
        clear hW
        refine (plainS_eq w.heap.size p W E0.out E1.out E2.out hw hs F.out).mono ?_
        rintro e w1 ⟨rfl, rfl⟩
        go_wp2_with fail
        refine (in7_eq _ _ _ _ F1.out).mono ?_
        rintro _ _ ⟨rfl, rfl⟩
        go_wp2_with fail
        refine (in7_eq _ _ _ _ F2.out).mono ?_
        rintro _ _ ⟨rfl, rfl⟩
        go_wp2_with fail
        refine (l25Sign_any w.heap.size key before p _ (sgIn_of F.out HOK.out) E0.out E1.out E2.out).mono ?_
        rintro e w2 ⟨rfl, hb2⟩
        go_wp2
        go_ret2
        exact ⟨by rw [HE.out.1, HE.out.2]; rfl, HB0.out.trans (hb2.mono HB0.out.size)⟩
end Go.Proofs.YtencnldflnbdiaaDoor
