/- l23Word of the reference: the climb of a word, if it tells one. -/
import Derived.Test.YtkegncanmfmmmaaDoorRdWord
import Derived.Test.YtkegncanmfmmmaaDoorRdClimbs
import Derived.Deep.RegionHeld3
namespace Go.Proofs.YtkegncanmfmmmaaDoor
open Go.RowKit
set_option linter.unusedVariables false
set_option linter.unusedSimpArgs false

/-- the climb of a word and whether it is one -/
def RetW (l : List UInt8) (w : World) (e : Ending) (w' : World) : Prop :=
  Below w.heap.size w w' ∧ ((∃ c, WOk l c ∧ e = .returned (.tuple #[.agg #[.int .i64 c.crane, .int .i64 c.sections], .bool true])) ∨ ((∀ c, ¬ WOk l c) ∧ ∃ x y : Int, e = .returned (.tuple #[.agg #[.int .i64 x, .int .i64 y], .bool false])))
theorem RetW.no {l : List UInt8} {w w' : World} {x y : Int} (hb : Below w.heap.size w w') (hn : ∀ c, ¬ WOk l c) : RetW l w (.returned (.tuple #[.agg #[.int .i64 x, .int .i64 y], .bool false])) w' := ⟨hb, .inr ⟨hn, x, y, rfl⟩⟩
theorem RetW.yes {l : List UInt8} {w w' : World} {x y : Int} (hb : Below w.heap.size w w') (h : WOk l ⟨x, y⟩) : RetW l w (.returned (.tuple #[.agg #[.int .i64 x, .int .i64 y], .bool true])) w' := ⟨hb, .inl ⟨⟨x, y⟩, h, rfl⟩⟩
theorem l01Number_eq (s : ByteArray) (w : World) (hs : s.size ≤ 1048576) {x : Int} {v : Bool} (hx : numV s.data.toList = x) (hv : numB s.data.toList = v) :
    Calls Tryd.prog 54 #[.string s] w fun e w' => e = .returned (.tuple #[.int .i64 x, .bool v]) ∧ Below w.heap.size w w' := by subst hx; subst hv; exact l01Number_any s w (by omega)
theorem num_get {l : List UInt8} {x : Int} (hx : numV l = x) (hv : numB l = true) : numO l = some x := by
  obtain ⟨y, hy⟩ := num_is hv
  rw [(num_some hy).1] at hx; rw [hy, hx]
theorem num_not {l : List UInt8} (hv : numB l = false) : ∀ x, numO l ≠ some x := fun x h => by rw [(num_some h).2] at hv; cases hv
set_option maxRecDepth 100000 in
set_option maxHeartbeats 6400000 in
theorem l23Word_any (wd : ByteArray) (hs : wd.size ≤ 1048576) (w : World) : Calls Tryd.prog 45 #[.string wd] w (RetW wd.data.toList w) := by
  have hlen : wd.data.toList.length = wd.size := Array.length_toList
  have HG0 := PlainAid.get_bt wd
  by_cases h3 : wd.size < 3
  · have h3z : (wd.size : Int) < 3 := by omega
    have HNO := Lib.hid (show ∀ c, ¬ WOk wd.data.toList c from fun c h => by
      obtain ⟨b0, b1, r, e, hr, _⟩ := h.shape
      rw [e] at hlen
      have := List.length_pos_iff.2 hr
      simp at hlen; omega)
    go_enter Tryd.func45, Tryd.ntmps45
    go_wp2
    exact bodyPost_ret (v := .tuple #[.agg #[.int .i64 0, .int .i64 0], .bool false]) (by simp [results, Tryd.results45, go_sem]) rfl (RetW.no ((Below.refl _ _).alloc (Nat.le_refl _) _) HNO.out)
  · obtain ⟨b0, d0, hb0, g0⟩ := drop_at wd (k := 0) (by omega)
    obtain ⟨b1, d1, hb1, g1⟩ := drop_at wd (k := 1) (by omega)
    obtain ⟨r, hr⟩ : ∃ r, r = wd.data.toList.drop 2 := ⟨_, rfl⟩
    have hl : wd.data.toList = b0 :: b1 :: r := by rw [List.drop_zero] at d0; rw [d0, d1, hr]
    have hr0 : r ≠ [] := fun e => by rw [hl, e] at hlen; simp at hlen; omega
    have hrl : r.length = wd.size - 2 := by rw [hl] at hlen; simp at hlen; omega
    obtain ⟨q0, hq0⟩ : ∃ q, q = wd.extract 0 1 := ⟨_, rfl⟩
    obtain ⟨q1, hq1⟩ : ∃ q, q = wd.extract 1 wd.size := ⟨_, rfl⟩
    have l0 : q0.data.toList = [b0] := by rw [hq0, extract_list, hl]; rfl
    have l1 : q1.data.toList = b1 :: r := by rw [hq1, extract_list, hl, show List.drop 1 (b0 :: b1 :: r) = b1 :: r from rfl, List.take_of_length_le (by rw [List.length_cons]; omega)]
    have z0 : q0.size ≤ 1048576 := by rw [hq0, ByteArray.size_extract]; omega
    have z1 : q1.size = wd.size - 1 := by rw [hq1, ByteArray.size_extract]; omega
    obtain ⟨q2, hq2⟩ : ∃ q, q = q1.extract 1 q1.size := ⟨_, rfl⟩
    have l2 : q2.data.toList = r := by rw [hq2, extract_list, l1, show List.drop 1 (b1 :: r) = r from rfl, List.take_of_length_le (by omega)]
    have z2 : q2.size ≤ 1048576 := by rw [hq2, ByteArray.size_extract]; omega
    have hbt1 : PlainAid.bt wd 1 = b1.toNat := by rw [← PlainAid.get_bt wd 1 (by omega), g1]
    have hbq : PlainAid.bt q1 0 = b1.toNat := by
      obtain ⟨c, _, hc, gc⟩ := drop_at q1 (k := 0) (by omega)
      rw [l1] at hc
      rw [← PlainAid.get_bt q1 0 (by omega), gc]
      simp at hc; rw [hc]
    have Z1B := Lib.hid (show q1.size ≤ 1048576 by omega)
    have HG1 := PlainAid.get_bt q1
    have hz1 : (1 : Int) ≤ (wd.size : Int) := by omega
    have hz2 : (1 : Int) ≤ (q1.size : Int) := by omega
    have hz3 : (0 : Int) < (q1.size : Int) := by omega
    have hz4 : ¬ (wd.size : Int) < 3 := by omega
    have hz5 : (1 : Int) < (wd.size : Int) := by omega
    obtain ⟨x, hx⟩ : ∃ x, numV q0.data.toList = x := ⟨_, rfl⟩
    obtain ⟨o1, ho1⟩ : ∃ o, numB q0.data.toList = o := ⟨_, rfl⟩
    have HL := Lib.hid hl
    have HL0 := Lib.hid l0
    have HL1 := Lib.hid l1
    have HL2 := Lib.hid l2
    have hx0 : wd.extract 0 1 = q0 := hq0.symm
    have hx1 : wd.extract 1 wd.size = q1 := hq1.symm
    have hx2 : q1.extract 1 q1.size = q2 := hq2.symm
    have HX := Lib.hid hx
    have HO1 := Lib.hid ho1
    clear z1 hl l0 l1 l2 hq0 hq1 hq2 d0 d1 hb0 hb1 g0 g1 hr hlen hx ho1
    have z1b : q1.size ≤ 1048576 := Z1B.out
    by_cases c43 : b1 = 43
    · subst c43
      obtain ⟨y, hy⟩ : ∃ y, numV q2.data.toList = y := ⟨_, rfl⟩
      obtain ⟨o2, ho2⟩ : ∃ o, numB q2.data.toList = o := ⟨_, rfl⟩
      have HY := Lib.hid hy
      have HO2 := Lib.hid ho2
      have e1 : (PlainAid.bt q1 0 == 43) = true := by rw [hbq]; rfl
      have e2 : (PlainAid.bt wd 1 == 43) = true := by rw [hbt1]; rfl
      clear hbq hbt1 hy ho2
      cases o1
      · have HNO := Lib.hid (show ∀ c, ¬ WOk wd.data.toList c from fun c h => by
          rw [HL.out] at h
          have := h.take.1
          rw [← HL0.out] at this
          exact num_not HO1.out _ this)
        have hbx := Blk.new w 78 #[.int .i64 0, .int .i64 0]
        have HB0 := Lib.hid hbx
        clear hbx
        go_enter Tryd.func45, Tryd.ntmps45
        go_wp2_with fail
        refine (l01Number_eq q0 _ z0 HX.out HO1.out).mono ?_
        rintro e w2 ⟨rfl, hb2⟩
        have HB2 := Lib.hid hb2
        clear hb2
        go_wp2_with fail
        refine (l01Number_eq q2 _ z2 HY.out HO2.out).mono ?_
        rintro e w3 ⟨rfl, hb3⟩
        have HP3 := Lib.hid ((HB0.out.below HB2.out HB0.out.lt).below hb3 (Nat.lt_of_lt_of_le HB0.out.lt HB2.out.size))
        have HB3 : Hid (Below w.heap.size w w3) := ((Below.refl _ _).alloc (Nat.le_refl _) _).trans ((HB2.out.trans (hb3.mono HB2.out.size)).mono (by simp))
        have c0 : w3.cell? ⟨w.heap.size, 0, none⟩ = some (.int .i64 0) := HP3.out.cell 0
        have c1 : w3.cell? ⟨w.heap.size, 1, none⟩ = some (.int .i64 0) := HP3.out.cell 1
        have f0 := HP3.out.frozen 0
        have f1 := HP3.out.frozen 1
        have HP5 := Lib.hid ((HP3.out.set_ 0 (.int .i64 x)).set_ 1 (.int .i64 y))
        have HB5 : Hid (Below w.heap.size w ((w3.setCell ⟨w.heap.size, 0, none⟩ (.int .i64 x)).setCell ⟨w.heap.size, 1, none⟩ (.int .i64 y))) := (HB3.out.setCell (Nat.le_refl _) _).setCell (Nat.le_refl _) _
        clear hb3
        go_wp2
        go_region
        all_goals
          have j0 : (w3.setCell ⟨w.heap.size, 0, none⟩ (.int .i64 x)).cell? ⟨w.heap.size, 0, none⟩ = some (.int .i64 x) := (HP3.out.set_ 0 (.int .i64 x)).cell 0
          have j1 : ((w3.setCell ⟨w.heap.size, 0, none⟩ (.int .i64 x)).setCell ⟨w.heap.size, 1, none⟩ (.int .i64 y)).cell? ⟨w.heap.size, 1, none⟩ = some (.int .i64 y) := HP5.out.cell 1
          have k0 : (((w3.setCell ⟨w.heap.size, 0, none⟩ (.int .i64 x)).setCell ⟨w.heap.size, 1, none⟩ (.int .i64 y)).drew).cell? ⟨w.heap.size, 0, none⟩ = some (.int .i64 x) := HP5.out.cell 0
          have k1 : (((w3.setCell ⟨w.heap.size, 0, none⟩ (.int .i64 x)).setCell ⟨w.heap.size, 1, none⟩ (.int .i64 y)).drew).cell? ⟨w.heap.size, 1, none⟩ = some (.int .i64 y) := HP5.out.cell 1
          go_wp2
          exact bodyPost_ret (v := .tuple #[.agg #[.int .i64 x, .int .i64 y], .bool false]) (by simp [results, Tryd.results45, go_sem, j0, j1, k0, k1]) rfl (RetW.no HB5.out.drew HNO.out)
      · cases o2
        · have HNO := Lib.hid (show ∀ c, ¬ WOk wd.data.toList c from fun c h => by
            rw [HL.out] at h
            rcases h.take.2 with ⟨_, e, p⟩ | ⟨e0, _, _⟩
            · rw [← HL2.out] at e; exact num_not HO2.out _ e
            · cases e0)
          have hbx := Blk.new w 78 #[.int .i64 0, .int .i64 0]
          have HB0 := Lib.hid hbx
          clear hbx
          go_enter Tryd.func45, Tryd.ntmps45
          go_wp2_with fail
          refine (l01Number_eq q0 _ z0 HX.out HO1.out).mono ?_
          rintro e w2 ⟨rfl, hb2⟩
          have HB2 := Lib.hid hb2
          clear hb2
          go_wp2_with fail
          refine (l01Number_eq q2 _ z2 HY.out HO2.out).mono ?_
          rintro e w3 ⟨rfl, hb3⟩
          have HP3 := Lib.hid ((HB0.out.below HB2.out HB0.out.lt).below hb3 (Nat.lt_of_lt_of_le HB0.out.lt HB2.out.size))
          have HB3 : Hid (Below w.heap.size w w3) := ((Below.refl _ _).alloc (Nat.le_refl _) _).trans ((HB2.out.trans (hb3.mono HB2.out.size)).mono (by simp))
          have c0 : w3.cell? ⟨w.heap.size, 0, none⟩ = some (.int .i64 0) := HP3.out.cell 0
          have c1 : w3.cell? ⟨w.heap.size, 1, none⟩ = some (.int .i64 0) := HP3.out.cell 1
          have f0 := HP3.out.frozen 0
          have f1 := HP3.out.frozen 1
          have HP5 := Lib.hid ((HP3.out.set_ 0 (.int .i64 x)).set_ 1 (.int .i64 y))
          have HB5 : Hid (Below w.heap.size w ((w3.setCell ⟨w.heap.size, 0, none⟩ (.int .i64 x)).setCell ⟨w.heap.size, 1, none⟩ (.int .i64 y))) := (HB3.out.setCell (Nat.le_refl _) _).setCell (Nat.le_refl _) _
          clear hb3
          go_wp2
          go_region
          all_goals
            have j0 : (w3.setCell ⟨w.heap.size, 0, none⟩ (.int .i64 x)).cell? ⟨w.heap.size, 0, none⟩ = some (.int .i64 x) := (HP3.out.set_ 0 (.int .i64 x)).cell 0
            have j1 : ((w3.setCell ⟨w.heap.size, 0, none⟩ (.int .i64 x)).setCell ⟨w.heap.size, 1, none⟩ (.int .i64 y)).cell? ⟨w.heap.size, 1, none⟩ = some (.int .i64 y) := HP5.out.cell 1
            have k0 : (((w3.setCell ⟨w.heap.size, 0, none⟩ (.int .i64 x)).setCell ⟨w.heap.size, 1, none⟩ (.int .i64 y)).drew).cell? ⟨w.heap.size, 0, none⟩ = some (.int .i64 x) := HP5.out.cell 0
            have k1 : (((w3.setCell ⟨w.heap.size, 0, none⟩ (.int .i64 x)).setCell ⟨w.heap.size, 1, none⟩ (.int .i64 y)).drew).cell? ⟨w.heap.size, 1, none⟩ = some (.int .i64 y) := HP5.out.cell 1
            go_wp2
            exact bodyPost_ret (v := .tuple #[.agg #[.int .i64 x, .int .i64 y], .bool false]) (by simp [results, Tryd.results45, go_sem, j0, j1, k0, k1]) rfl (RetW.no HB5.out.drew HNO.out)
        · by_cases hp : 0 < y
          · have HXY := Lib.hid (num_get HY.out HO2.out)
            have HOK := Lib.hid (show WOk wd.data.toList ⟨x, y⟩ from by rw [HL.out]; exact WOk.make (by rw [← HL0.out]; exact num_get HX.out HO1.out) (.inl ⟨rfl, by rw [← HL2.out]; exact HXY.out, hp⟩))
            have hpb : decide (0 < y) = true := decide_eq_true hp
            have hbx := Blk.new w 78 #[.int .i64 0, .int .i64 0]
            have HB0 := Lib.hid hbx
            clear hbx
            go_enter Tryd.func45, Tryd.ntmps45
            go_wp2_with fail
            refine (l01Number_eq q0 _ z0 HX.out HO1.out).mono ?_
            rintro e w2 ⟨rfl, hb2⟩
            have HB2 := Lib.hid hb2
            clear hb2
            go_wp2_with fail
            refine (l01Number_eq q2 _ z2 HY.out HO2.out).mono ?_
            rintro e w3 ⟨rfl, hb3⟩
            have HP3 := Lib.hid ((HB0.out.below HB2.out HB0.out.lt).below hb3 (Nat.lt_of_lt_of_le HB0.out.lt HB2.out.size))
            have HB3 : Hid (Below w.heap.size w w3) := ((Below.refl _ _).alloc (Nat.le_refl _) _).trans ((HB2.out.trans (hb3.mono HB2.out.size)).mono (by simp))
            have c0 : w3.cell? ⟨w.heap.size, 0, none⟩ = some (.int .i64 0) := HP3.out.cell 0
            have c1 : w3.cell? ⟨w.heap.size, 1, none⟩ = some (.int .i64 0) := HP3.out.cell 1
            have f0 := HP3.out.frozen 0
            have f1 := HP3.out.frozen 1
            have HP5 := Lib.hid ((HP3.out.set_ 0 (.int .i64 x)).set_ 1 (.int .i64 y))
            have HB5 : Hid (Below w.heap.size w ((w3.setCell ⟨w.heap.size, 0, none⟩ (.int .i64 x)).setCell ⟨w.heap.size, 1, none⟩ (.int .i64 y))) := (HB3.out.setCell (Nat.le_refl _) _).setCell (Nat.le_refl _) _
            clear hb3
            go_wp2
            go_region
            all_goals
              have j0 : (w3.setCell ⟨w.heap.size, 0, none⟩ (.int .i64 x)).cell? ⟨w.heap.size, 0, none⟩ = some (.int .i64 x) := (HP3.out.set_ 0 (.int .i64 x)).cell 0
              have j1 : ((w3.setCell ⟨w.heap.size, 0, none⟩ (.int .i64 x)).setCell ⟨w.heap.size, 1, none⟩ (.int .i64 y)).cell? ⟨w.heap.size, 1, none⟩ = some (.int .i64 y) := HP5.out.cell 1
              have k0 : (((w3.setCell ⟨w.heap.size, 0, none⟩ (.int .i64 x)).setCell ⟨w.heap.size, 1, none⟩ (.int .i64 y)).drew).cell? ⟨w.heap.size, 0, none⟩ = some (.int .i64 x) := HP5.out.cell 0
              have k1 : (((w3.setCell ⟨w.heap.size, 0, none⟩ (.int .i64 x)).setCell ⟨w.heap.size, 1, none⟩ (.int .i64 y)).drew).cell? ⟨w.heap.size, 1, none⟩ = some (.int .i64 y) := HP5.out.cell 1
              go_wp2
              exact bodyPost_ret (v := .tuple #[.agg #[.int .i64 x, .int .i64 y], .bool true]) (by simp [results, Tryd.results45, go_sem, j0, j1, k0, k1]) rfl (RetW.yes HB5.out.drew HOK.out)
          · have HXY := Lib.hid (num_get HY.out HO2.out)
            have HNO := Lib.hid (show ∀ c, ¬ WOk wd.data.toList c from fun c h => by
              rw [HL.out] at h
              rcases h.take.2 with ⟨_, e, p⟩ | ⟨e0, _, _⟩
              · rw [← HL2.out, HXY.out] at e; cases e; omega
              · cases e0)
            have hpb : decide (0 < y) = false := decide_eq_false hp
            have hbx := Blk.new w 78 #[.int .i64 0, .int .i64 0]
            have HB0 := Lib.hid hbx
            clear hbx
            go_enter Tryd.func45, Tryd.ntmps45
            go_wp2_with fail
            refine (l01Number_eq q0 _ z0 HX.out HO1.out).mono ?_
            rintro e w2 ⟨rfl, hb2⟩
            have HB2 := Lib.hid hb2
            clear hb2
            go_wp2_with fail
            refine (l01Number_eq q2 _ z2 HY.out HO2.out).mono ?_
            rintro e w3 ⟨rfl, hb3⟩
            have HP3 := Lib.hid ((HB0.out.below HB2.out HB0.out.lt).below hb3 (Nat.lt_of_lt_of_le HB0.out.lt HB2.out.size))
            have HB3 : Hid (Below w.heap.size w w3) := ((Below.refl _ _).alloc (Nat.le_refl _) _).trans ((HB2.out.trans (hb3.mono HB2.out.size)).mono (by simp))
            have c0 : w3.cell? ⟨w.heap.size, 0, none⟩ = some (.int .i64 0) := HP3.out.cell 0
            have c1 : w3.cell? ⟨w.heap.size, 1, none⟩ = some (.int .i64 0) := HP3.out.cell 1
            have f0 := HP3.out.frozen 0
            have f1 := HP3.out.frozen 1
            have HP5 := Lib.hid ((HP3.out.set_ 0 (.int .i64 x)).set_ 1 (.int .i64 y))
            have HB5 : Hid (Below w.heap.size w ((w3.setCell ⟨w.heap.size, 0, none⟩ (.int .i64 x)).setCell ⟨w.heap.size, 1, none⟩ (.int .i64 y))) := (HB3.out.setCell (Nat.le_refl _) _).setCell (Nat.le_refl _) _
            clear hb3
            go_wp2
            go_region
            all_goals
              have j0 : (w3.setCell ⟨w.heap.size, 0, none⟩ (.int .i64 x)).cell? ⟨w.heap.size, 0, none⟩ = some (.int .i64 x) := (HP3.out.set_ 0 (.int .i64 x)).cell 0
              have j1 : ((w3.setCell ⟨w.heap.size, 0, none⟩ (.int .i64 x)).setCell ⟨w.heap.size, 1, none⟩ (.int .i64 y)).cell? ⟨w.heap.size, 1, none⟩ = some (.int .i64 y) := HP5.out.cell 1
              have k0 : (((w3.setCell ⟨w.heap.size, 0, none⟩ (.int .i64 x)).setCell ⟨w.heap.size, 1, none⟩ (.int .i64 y)).drew).cell? ⟨w.heap.size, 0, none⟩ = some (.int .i64 x) := HP5.out.cell 0
              have k1 : (((w3.setCell ⟨w.heap.size, 0, none⟩ (.int .i64 x)).setCell ⟨w.heap.size, 1, none⟩ (.int .i64 y)).drew).cell? ⟨w.heap.size, 1, none⟩ = some (.int .i64 y) := HP5.out.cell 1
              go_wp2
              exact bodyPost_ret (v := .tuple #[.agg #[.int .i64 x, .int .i64 y], .bool false]) (by simp [results, Tryd.results45, go_sem, j0, j1, k0, k1]) rfl (RetW.no HB5.out.drew HNO.out)
    · by_cases c45 : b1 = 45
      · subst c45
        obtain ⟨y, hy⟩ : ∃ y, numV q1.data.toList = y := ⟨_, rfl⟩
        obtain ⟨o2, ho2⟩ : ∃ o, numB q1.data.toList = o := ⟨_, rfl⟩
        have HY := Lib.hid hy
        have HO2 := Lib.hid ho2
        have e1 : (PlainAid.bt q1 0 == 43) = false := by rw [hbq]; rfl
        have e3 : (PlainAid.bt q1 0 != 45) = false := by rw [hbq]; rfl
        have e2 : (PlainAid.bt wd 1 == 43) = false := by rw [hbt1]; rfl
        clear hbq hbt1 hy ho2
        cases o1
        · have HNO := Lib.hid (show ∀ c, ¬ WOk wd.data.toList c from fun c h => by
            rw [HL.out] at h
            have := h.take.1
            rw [← HL0.out] at this
            exact num_not HO1.out _ this)
          have hbx := Blk.new w 78 #[.int .i64 0, .int .i64 0]
          have HB0 := Lib.hid hbx
          clear hbx
          go_enter Tryd.func45, Tryd.ntmps45
          go_wp2_with fail
          refine (l01Number_eq q0 _ z0 HX.out HO1.out).mono ?_
          rintro e w2 ⟨rfl, hb2⟩
          have HB2 := Lib.hid hb2
          clear hb2
          go_wp2_with fail
          refine (l01Number_eq q1 _ z1b HY.out HO2.out).mono ?_
          rintro e w3 ⟨rfl, hb3⟩
          have HP3 := Lib.hid ((HB0.out.below HB2.out HB0.out.lt).below hb3 (Nat.lt_of_lt_of_le HB0.out.lt HB2.out.size))
          have HB3 : Hid (Below w.heap.size w w3) := ((Below.refl _ _).alloc (Nat.le_refl _) _).trans ((HB2.out.trans (hb3.mono HB2.out.size)).mono (by simp))
          have c0 : w3.cell? ⟨w.heap.size, 0, none⟩ = some (.int .i64 0) := HP3.out.cell 0
          have c1 : w3.cell? ⟨w.heap.size, 1, none⟩ = some (.int .i64 0) := HP3.out.cell 1
          have f0 := HP3.out.frozen 0
          have f1 := HP3.out.frozen 1
          have HP5 := Lib.hid ((HP3.out.set_ 0 (.int .i64 x)).set_ 1 (.int .i64 y))
          have HB5 : Hid (Below w.heap.size w ((w3.setCell ⟨w.heap.size, 0, none⟩ (.int .i64 x)).setCell ⟨w.heap.size, 1, none⟩ (.int .i64 y))) := (HB3.out.setCell (Nat.le_refl _) _).setCell (Nat.le_refl _) _
          clear hb3
          go_wp2
          go_region
          all_goals
            have j0 : (w3.setCell ⟨w.heap.size, 0, none⟩ (.int .i64 x)).cell? ⟨w.heap.size, 0, none⟩ = some (.int .i64 x) := (HP3.out.set_ 0 (.int .i64 x)).cell 0
            have j1 : ((w3.setCell ⟨w.heap.size, 0, none⟩ (.int .i64 x)).setCell ⟨w.heap.size, 1, none⟩ (.int .i64 y)).cell? ⟨w.heap.size, 1, none⟩ = some (.int .i64 y) := HP5.out.cell 1
            have k0 : (((w3.setCell ⟨w.heap.size, 0, none⟩ (.int .i64 x)).setCell ⟨w.heap.size, 1, none⟩ (.int .i64 y)).drew).cell? ⟨w.heap.size, 0, none⟩ = some (.int .i64 x) := HP5.out.cell 0
            have k1 : (((w3.setCell ⟨w.heap.size, 0, none⟩ (.int .i64 x)).setCell ⟨w.heap.size, 1, none⟩ (.int .i64 y)).drew).cell? ⟨w.heap.size, 1, none⟩ = some (.int .i64 y) := HP5.out.cell 1
            go_wp2
            exact bodyPost_ret (v := .tuple #[.agg #[.int .i64 x, .int .i64 y], .bool false]) (by simp [results, Tryd.results45, go_sem, j0, j1, k0, k1]) rfl (RetW.no HB5.out.drew HNO.out)
        · cases o2
          · have HNO := Lib.hid (show ∀ c, ¬ WOk wd.data.toList c from fun c h => by
              rw [HL.out] at h
              rcases h.take.2 with ⟨e0, _, _⟩ | ⟨_, e, p⟩
              · cases e0
              · rw [← HL1.out] at e; exact num_not HO2.out _ e)
            have hbx := Blk.new w 78 #[.int .i64 0, .int .i64 0]
            have HB0 := Lib.hid hbx
            clear hbx
            go_enter Tryd.func45, Tryd.ntmps45
            go_wp2_with fail
            refine (l01Number_eq q0 _ z0 HX.out HO1.out).mono ?_
            rintro e w2 ⟨rfl, hb2⟩
            have HB2 := Lib.hid hb2
            clear hb2
            go_wp2_with fail
            refine (l01Number_eq q1 _ z1b HY.out HO2.out).mono ?_
            rintro e w3 ⟨rfl, hb3⟩
            have HP3 := Lib.hid ((HB0.out.below HB2.out HB0.out.lt).below hb3 (Nat.lt_of_lt_of_le HB0.out.lt HB2.out.size))
            have HB3 : Hid (Below w.heap.size w w3) := ((Below.refl _ _).alloc (Nat.le_refl _) _).trans ((HB2.out.trans (hb3.mono HB2.out.size)).mono (by simp))
            have c0 : w3.cell? ⟨w.heap.size, 0, none⟩ = some (.int .i64 0) := HP3.out.cell 0
            have c1 : w3.cell? ⟨w.heap.size, 1, none⟩ = some (.int .i64 0) := HP3.out.cell 1
            have f0 := HP3.out.frozen 0
            have f1 := HP3.out.frozen 1
            have HP5 := Lib.hid ((HP3.out.set_ 0 (.int .i64 x)).set_ 1 (.int .i64 y))
            have HB5 : Hid (Below w.heap.size w ((w3.setCell ⟨w.heap.size, 0, none⟩ (.int .i64 x)).setCell ⟨w.heap.size, 1, none⟩ (.int .i64 y))) := (HB3.out.setCell (Nat.le_refl _) _).setCell (Nat.le_refl _) _
            clear hb3
            go_wp2
            go_region
            all_goals
              have j0 : (w3.setCell ⟨w.heap.size, 0, none⟩ (.int .i64 x)).cell? ⟨w.heap.size, 0, none⟩ = some (.int .i64 x) := (HP3.out.set_ 0 (.int .i64 x)).cell 0
              have j1 : ((w3.setCell ⟨w.heap.size, 0, none⟩ (.int .i64 x)).setCell ⟨w.heap.size, 1, none⟩ (.int .i64 y)).cell? ⟨w.heap.size, 1, none⟩ = some (.int .i64 y) := HP5.out.cell 1
              have k0 : (((w3.setCell ⟨w.heap.size, 0, none⟩ (.int .i64 x)).setCell ⟨w.heap.size, 1, none⟩ (.int .i64 y)).drew).cell? ⟨w.heap.size, 0, none⟩ = some (.int .i64 x) := HP5.out.cell 0
              have k1 : (((w3.setCell ⟨w.heap.size, 0, none⟩ (.int .i64 x)).setCell ⟨w.heap.size, 1, none⟩ (.int .i64 y)).drew).cell? ⟨w.heap.size, 1, none⟩ = some (.int .i64 y) := HP5.out.cell 1
              go_wp2
              exact bodyPost_ret (v := .tuple #[.agg #[.int .i64 x, .int .i64 y], .bool false]) (by simp [results, Tryd.results45, go_sem, j0, j1, k0, k1]) rfl (RetW.no HB5.out.drew HNO.out)
          · by_cases hp : 0 < y
            · have HXY := Lib.hid (num_get HY.out HO2.out)
              have HNO := Lib.hid (show ∀ c, ¬ WOk wd.data.toList c from fun c h => by
                rw [HL.out] at h
                rcases h.take.2 with ⟨e0, _, _⟩ | ⟨_, e, p⟩
                · cases e0
                · rw [← HL1.out, HXY.out] at e; cases e; omega)
              have hpb : decide (0 < y) = true := decide_eq_true hp
              have hbx := Blk.new w 78 #[.int .i64 0, .int .i64 0]
              have HB0 := Lib.hid hbx
              clear hbx
              go_enter Tryd.func45, Tryd.ntmps45
              go_wp2_with fail
              refine (l01Number_eq q0 _ z0 HX.out HO1.out).mono ?_
              rintro e w2 ⟨rfl, hb2⟩
              have HB2 := Lib.hid hb2
              clear hb2
              go_wp2_with fail
              refine (l01Number_eq q1 _ z1b HY.out HO2.out).mono ?_
              rintro e w3 ⟨rfl, hb3⟩
              have HP3 := Lib.hid ((HB0.out.below HB2.out HB0.out.lt).below hb3 (Nat.lt_of_lt_of_le HB0.out.lt HB2.out.size))
              have HB3 : Hid (Below w.heap.size w w3) := ((Below.refl _ _).alloc (Nat.le_refl _) _).trans ((HB2.out.trans (hb3.mono HB2.out.size)).mono (by simp))
              have c0 : w3.cell? ⟨w.heap.size, 0, none⟩ = some (.int .i64 0) := HP3.out.cell 0
              have c1 : w3.cell? ⟨w.heap.size, 1, none⟩ = some (.int .i64 0) := HP3.out.cell 1
              have f0 := HP3.out.frozen 0
              have f1 := HP3.out.frozen 1
              have HP5 := Lib.hid ((HP3.out.set_ 0 (.int .i64 x)).set_ 1 (.int .i64 y))
              have HB5 : Hid (Below w.heap.size w ((w3.setCell ⟨w.heap.size, 0, none⟩ (.int .i64 x)).setCell ⟨w.heap.size, 1, none⟩ (.int .i64 y))) := (HB3.out.setCell (Nat.le_refl _) _).setCell (Nat.le_refl _) _
              clear hb3
              go_wp2
              go_region
              all_goals
                have j0 : (w3.setCell ⟨w.heap.size, 0, none⟩ (.int .i64 x)).cell? ⟨w.heap.size, 0, none⟩ = some (.int .i64 x) := (HP3.out.set_ 0 (.int .i64 x)).cell 0
                have j1 : ((w3.setCell ⟨w.heap.size, 0, none⟩ (.int .i64 x)).setCell ⟨w.heap.size, 1, none⟩ (.int .i64 y)).cell? ⟨w.heap.size, 1, none⟩ = some (.int .i64 y) := HP5.out.cell 1
                have k0 : (((w3.setCell ⟨w.heap.size, 0, none⟩ (.int .i64 x)).setCell ⟨w.heap.size, 1, none⟩ (.int .i64 y)).drew).cell? ⟨w.heap.size, 0, none⟩ = some (.int .i64 x) := HP5.out.cell 0
                have k1 : (((w3.setCell ⟨w.heap.size, 0, none⟩ (.int .i64 x)).setCell ⟨w.heap.size, 1, none⟩ (.int .i64 y)).drew).cell? ⟨w.heap.size, 1, none⟩ = some (.int .i64 y) := HP5.out.cell 1
                go_wp2
                exact bodyPost_ret (v := .tuple #[.agg #[.int .i64 x, .int .i64 y], .bool false]) (by simp [results, Tryd.results45, go_sem, j0, j1, k0, k1]) rfl (RetW.no HB5.out.drew HNO.out)
            · have HXY := Lib.hid (num_get HY.out HO2.out)
              have HOK := Lib.hid (show WOk wd.data.toList ⟨x, y⟩ from by rw [HL.out]; exact WOk.make (by rw [← HL0.out]; exact num_get HX.out HO1.out) (.inr ⟨rfl, by rw [← HL1.out]; exact HXY.out, hp⟩))
              have hpb : decide (0 < y) = false := decide_eq_false hp
              have hbx := Blk.new w 78 #[.int .i64 0, .int .i64 0]
              have HB0 := Lib.hid hbx
              clear hbx
              go_enter Tryd.func45, Tryd.ntmps45
              go_wp2_with fail
              refine (l01Number_eq q0 _ z0 HX.out HO1.out).mono ?_
              rintro e w2 ⟨rfl, hb2⟩
              have HB2 := Lib.hid hb2
              clear hb2
              go_wp2_with fail
              refine (l01Number_eq q1 _ z1b HY.out HO2.out).mono ?_
              rintro e w3 ⟨rfl, hb3⟩
              have HP3 := Lib.hid ((HB0.out.below HB2.out HB0.out.lt).below hb3 (Nat.lt_of_lt_of_le HB0.out.lt HB2.out.size))
              have HB3 : Hid (Below w.heap.size w w3) := ((Below.refl _ _).alloc (Nat.le_refl _) _).trans ((HB2.out.trans (hb3.mono HB2.out.size)).mono (by simp))
              have c0 : w3.cell? ⟨w.heap.size, 0, none⟩ = some (.int .i64 0) := HP3.out.cell 0
              have c1 : w3.cell? ⟨w.heap.size, 1, none⟩ = some (.int .i64 0) := HP3.out.cell 1
              have f0 := HP3.out.frozen 0
              have f1 := HP3.out.frozen 1
              have HP5 := Lib.hid ((HP3.out.set_ 0 (.int .i64 x)).set_ 1 (.int .i64 y))
              have HB5 : Hid (Below w.heap.size w ((w3.setCell ⟨w.heap.size, 0, none⟩ (.int .i64 x)).setCell ⟨w.heap.size, 1, none⟩ (.int .i64 y))) := (HB3.out.setCell (Nat.le_refl _) _).setCell (Nat.le_refl _) _
              clear hb3
              go_wp2
              go_region
              all_goals
                have j0 : (w3.setCell ⟨w.heap.size, 0, none⟩ (.int .i64 x)).cell? ⟨w.heap.size, 0, none⟩ = some (.int .i64 x) := (HP3.out.set_ 0 (.int .i64 x)).cell 0
                have j1 : ((w3.setCell ⟨w.heap.size, 0, none⟩ (.int .i64 x)).setCell ⟨w.heap.size, 1, none⟩ (.int .i64 y)).cell? ⟨w.heap.size, 1, none⟩ = some (.int .i64 y) := HP5.out.cell 1
                have k0 : (((w3.setCell ⟨w.heap.size, 0, none⟩ (.int .i64 x)).setCell ⟨w.heap.size, 1, none⟩ (.int .i64 y)).drew).cell? ⟨w.heap.size, 0, none⟩ = some (.int .i64 x) := HP5.out.cell 0
                have k1 : (((w3.setCell ⟨w.heap.size, 0, none⟩ (.int .i64 x)).setCell ⟨w.heap.size, 1, none⟩ (.int .i64 y)).drew).cell? ⟨w.heap.size, 1, none⟩ = some (.int .i64 y) := HP5.out.cell 1
                go_wp2
                exact bodyPost_ret (v := .tuple #[.agg #[.int .i64 x, .int .i64 y], .bool true]) (by simp [results, Tryd.results45, go_sem, j0, j1, k0, k1]) rfl (RetW.yes HB5.out.drew HOK.out)
      · have HNO := Lib.hid (show ∀ c, ¬ WOk wd.data.toList c from fun c h => by
          rw [HL.out] at h
          rcases h.take.2 with ⟨e, _, _⟩ | ⟨e, _, _⟩
          · exact c43 e
          · exact c45 e)
        have e1 : (PlainAid.bt q1 0 == 43) = false := by rw [hbq, beq_eq_false_iff_ne]; intro h; exact c43 (UInt8.toNat_inj.1 (show b1.toNat = 43 by omega))
        have e3 : (PlainAid.bt q1 0 != 45) = true := by rw [hbq, bne_iff_ne]; intro h; exact c45 (UInt8.toNat_inj.1 (show b1.toNat = 45 by omega))
        clear hbq hbt1 c43 c45
        have hbx := Blk.new w 78 #[.int .i64 0, .int .i64 0]
        have HB0 := Lib.hid hbx
        clear hbx
        go_enter Tryd.func45, Tryd.ntmps45
        go_wp2_with fail
        refine (l01Number_eq q0 _ z0 HX.out HO1.out).mono ?_
        rintro e w2 ⟨rfl, hb2⟩
        have HP2 := Lib.hid (HB0.out.below hb2 HB0.out.lt)
        have HB2 : Hid (Below w.heap.size w w2) := ((Below.refl _ _).alloc (Nat.le_refl _) _).trans (hb2.mono (by simp))
        have c0 : w2.cell? ⟨w.heap.size, 0, none⟩ = some (.int .i64 0) := HP2.out.cell 0
        have c1 : w2.cell? ⟨w.heap.size, 1, none⟩ = some (.int .i64 0) := HP2.out.cell 1
        have f0 := HP2.out.frozen 0
        have f1 := HP2.out.frozen 1
        have HP5 := Lib.hid ((HP2.out.set_ 0 (.int .i64 0)).set_ 1 (.int .i64 0))
        have HB5 : Hid (Below w.heap.size w ((w2.setCell ⟨w.heap.size, 0, none⟩ (.int .i64 0)).setCell ⟨w.heap.size, 1, none⟩ (.int .i64 0))) := (HB2.out.setCell (Nat.le_refl _) _).setCell (Nat.le_refl _) _
        have j0 : (w2.setCell ⟨w.heap.size, 0, none⟩ (.int .i64 0)).cell? ⟨w.heap.size, 0, none⟩ = some (.int .i64 0) := (HP2.out.set_ 0 (.int .i64 0)).cell 0
        have k0 : ((w2.setCell ⟨w.heap.size, 0, none⟩ (.int .i64 0)).setCell ⟨w.heap.size, 1, none⟩ (.int .i64 0)).cell? ⟨w.heap.size, 0, none⟩ = some (.int .i64 0) := HP5.out.cell 0
        have k1 : ((w2.setCell ⟨w.heap.size, 0, none⟩ (.int .i64 0)).setCell ⟨w.heap.size, 1, none⟩ (.int .i64 0)).cell? ⟨w.heap.size, 1, none⟩ = some (.int .i64 0) := HP5.out.cell 1
        clear hb2
        go_wp2
        exact bodyPost_ret (v := .tuple #[.agg #[.int .i64 0, .int .i64 0], .bool false]) (by simp [results, Tryd.results45, go_sem, j0, k0, k1]) rfl (RetW.no HB5.out HNO.out)
end Go.Proofs.YtkegncanmfmmmaaDoor
