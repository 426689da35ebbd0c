/- l11Line of the reference: the task of a line, if it tells one. -/
import Derived.Test.YtkegncanmfmmmaaDoorTkSpLaw
import Derived.Test.YtkegncanmfmmmaaDoorWords2
import Derived.Deep.RegionHeld3
namespace Go.Proofs.YtkegncanmfmmmaaDoor
open Go.RowKit
set_option linter.unusedVariables false
set_option linter.unusedSimpArgs false

def RetSp (q : ByteArray) (w : World) (e : Ending) (w' : World) : Prop :=
  Below w.heap.size w w' ∧ ((∃ p, TkSp q.data.toList p ∧ e = .returned (.tuple #[.agg #[.int .i64 p.lift, .int .i64 p.crane, .int .i64 p.start, .int .i64 p.stop], .bool true])) ∨ ((∀ p, ¬ TkSp q.data.toList p) ∧ ∃ x y z u : Int, e = .returned (.tuple #[.agg #[.int .i64 x, .int .i64 y, .int .i64 z, .int .i64 u], .bool false])))
theorem RetSp.no {q : ByteArray} {w w' : World} {x y z u : Int} (hb : Below w.heap.size w w') (hn : ∀ p, ¬ TkSp q.data.toList p) : RetSp q w (.returned (.tuple #[.agg #[.int .i64 x, .int .i64 y, .int .i64 z, .int .i64 u], .bool false])) w' := ⟨hb, .inr ⟨hn, _, _, _, _, rfl⟩⟩
theorem RetSp.yes {q : ByteArray} {w w' : World} {x y z u : Int} (hb : Below w.heap.size w w') (h : TkSp q.data.toList ⟨x, y, z, u⟩) : RetSp q w (.returned (.tuple #[.agg #[.int .i64 x, .int .i64 y, .int .i64 z, .int .i64 u], .bool true])) w' := ⟨hb, .inl ⟨⟨x, y, z, u⟩, h, rfl⟩⟩
theorem l01Number_at (s : ByteArray) (w : World) (hs : s.size ≤ 1048576) {x : Int} {v : Bool} (hx : numV s.data.toList = x) (hv : numB s.data.toList = v) :
    Calls Tryd.prog 54 #[.string s] w fun e w' => e = .returned (.tuple #[.int .i64 x, .bool v]) ∧ Below w.heap.size w w' := by subst hx; subst hv; exact l01Number_any s w (by omega)
theorem num_at {l : List UInt8} {x : Int} (hx : numV l = x) (hv : numB l = true) : numO l = some x := by
  unfold numB at hv
  obtain ⟨y, hy⟩ := Option.isSome_iff_exists.1 hv
  rw [(num_some hy).1] at hx; rw [hy, hx]
theorem bytes_eq {a b : ByteArray} (h : a.data.toList = b.data.toList) : a = b := by
  apply ByteArray.ext; exact Array.toList_inj.1 h
theorem split5 {q a c d e l : ByteArray} (h : spl 32 q = [a, c, d, e, l]) : splitB 32 q.data.toList = [a.data.toList, c.data.toList, d.data.toList, e.data.toList, l.data.toList] := by rw [← spl_list, h]; rfl
theorem split3 {q a c d : ByteArray} (h : spl 46 q = [a, c, d]) : splitB 46 q.data.toList = [a.data.toList, c.data.toList, d.data.toList] := by rw [← spl_list, h]; rfl
theorem crane_list : (⟨#[99, 114, 97, 110, 101]⟩ : ByteArray).toList = [99, 114, 97, 110, 101] := by first | decide +kernel | simp
theorem lift_list : (⟨#[108, 105, 102, 116]⟩ : ByteArray).toList = [108, 105, 102, 116] := by first | decide +kernel | simp
set_option maxRecDepth 100000 in
set_option maxHeartbeats 6400000 in
theorem l11Line_any (q : ByteArray) (hs : q.size ≤ 1048576) (w : World) : Calls Tryd.prog 65 #[.string q] w (RetSp q w) := by
  have HW : Hid (∀ x ∈ spl 32 q, x.size ≤ q.size) := pieces_size 32 q
  have hnl := spl_len 32 q
  have hbx := Blk.new w 102 #[.int .i64 0, .int .i64 0, .int .i64 0, .int .i64 0]
  have HBX := Lib.hid hbx
  clear hbx
  obtain ⟨n, hn⟩ : ∃ n, n = (spl 32 q).length := ⟨_, rfl⟩
  go_enter Tryd.func65, Tryd.ntmps65
  go_wp2_with fail
  refine (l01Split_any 32 32 rfl q _ hs).mono ?_
  rintro e w1 ⟨A0, cap0, rfl, ho0, hb0⟩
  have HO0 := Lib.hid (ho0.arr wc_len)
  have HB0 : Hid (Below w.heap.size w w1) := ((Below.refl _ _).alloc (Nat.le_refl _) _).trans (hb0.mono (by simp))
  have HP1 := Lib.hid (HBX.out.below hb0 HBX.out.lt)
  have hsz1 := HB0.out.size
  clear ho0 hb0
  rw [← hn] at HO0 ⊢
  have HN := Lib.hid hn
  clear hn hnl
  by_cases h5 : n = 5
  · subst h5
    obtain ⟨a, c, d, e5, l, hw5⟩ : ∃ a c d e l, spl 32 q = [a, c, d, e, l] := by
      have hh := HN.out
      match hq : spl 32 q, hh with
      | [a, c, d, e, l], _ => exact ⟨a, c, d, e, l, rfl⟩
    have HW5 := Lib.hid (split5 hw5)
    have ha : a.size ≤ 1048576 := Nat.le_trans (HW.out a (by rw [hw5]; simp)) hs
    have hd : d.size ≤ 1048576 := Nat.le_trans (HW.out d (by rw [hw5]; simp)) hs
    have hl : l.size ≤ 1048576 := Nat.le_trans (HW.out l (by rw [hw5]; simp)) hs
    obtain ⟨b, off, s0, rfl, e0, b1, b2, d0⟩ := wc_at HO0.out (i := 0) (by omega)
    obtain ⟨b', off', s1, hbe, e1, _, _, d1⟩ := wc_at HO0.out (i := 1) (by omega)
    cases hbe
    obtain ⟨b', off', s2, hbe, e2, _, _, d2⟩ := wc_at HO0.out (i := 2) (by omega)
    cases hbe
    obtain ⟨b', off', s3, hbe, e3, _, _, d3⟩ := wc_at HO0.out (i := 3) (by omega)
    cases hbe
    obtain ⟨b', off', s4, hbe, e4, _, _, d4⟩ := wc_at HO0.out (i := 4) (by omega)
    cases hbe
    rw [Nat.add_zero] at d0
    rw [hw5] at e0 e1 e2 e3 e4
    simp only [List.getElem?_cons_zero, List.getElem?_cons_succ, Option.some.injEq] at e0 e1 e2 e3 e4
    subst e0; subst e1; subst e2; subst e3; subst e4
    clear hw5
    by_cases hcr : c = ⟨#[99, 114, 97, 110, 101]⟩
    · have hcp : c.toList = [99, 114, 97, 110, 101] := by rw [hcr]; exact crane_list
      have hcb : (c.toList == [99, 114, 97, 110, 101]) = true := by rw [hcp]; rfl
      by_cases hli : e5 = ⟨#[108, 105, 102, 116]⟩
      · have hep : e5.toList = [108, 105, 102, 116] := by rw [hli]; exact lift_list
        have heb : (e5.toList == [108, 105, 102, 116]) = true := by rw [hep]; rfl
        have HC := Lib.hid hcr
        have HL := Lib.hid hli
        clear hcr hli
        have HV : Hid (∀ x ∈ spl 46 a, x.size ≤ a.size) := pieces_size 46 a
        have hvl := spl_len 46 a
        obtain ⟨m, hm⟩ : ∃ m, m = (spl 46 a).length := ⟨_, rfl⟩
        go_wp2_with fail
        refine (l01Split_any 46 46 rfl a _ ha).mono ?_
        rintro e w2 ⟨A2, cap2, rfl, ho2, hb2⟩
        have HOA := Lib.hid (ho2.arr wc_len)
        have hsz2 := hb2.size
        have HB2 : Hid (Below w.heap.size w w2) := HB0.out.trans (hb2.mono hsz1)
        have HP2 := Lib.hid (HP1.out.below hb2 HP1.out.lt)
        have d2' := (hb2.cell (p := ⟨b, off + 2, none⟩) b2).trans d2
        have d4' := (hb2.cell (p := ⟨b, off + 4, none⟩) b2).trans d4
        clear ho2 hb2 d0 d1 d2 d3 d4
        rw [← hm] at HOA ⊢
        have HM := Lib.hid hm
        clear hm hvl
        by_cases h3 : m = 3
        · subst h3
          obtain ⟨u, mm, y, hw3⟩ : ∃ u m y, spl 46 a = [u, m, y] := by
            have hh := HM.out
            match hq : spl 46 a, hh with
            | [u, m, y], _ => exact ⟨u, m, y, rfl⟩
          have HW3 := Lib.hid (split3 hw3)
          have hu : u.size ≤ 1048576 := Nat.le_trans (HV.out u (by rw [hw3]; simp)) ha
          have hy : y.size ≤ 1048576 := Nat.le_trans (HV.out y (by rw [hw3]; simp)) ha
          obtain ⟨gb, goff, s0, rfl, e0, g1, g2, m0⟩ := wc_at HOA.out (i := 0) (by omega)
          obtain ⟨b', off', s1, hbe, e1, _, _, m1⟩ := wc_at HOA.out (i := 1) (by omega)
          cases hbe
          obtain ⟨b', off', s2, hbe, e2, _, _, m2⟩ := wc_at HOA.out (i := 2) (by omega)
          cases hbe
          rw [Nat.add_zero] at m0
          rw [hw3] at e0 e1 e2
          simp only [List.getElem?_cons_zero, List.getElem?_cons_succ, Option.some.injEq] at e0 e1 e2
          subst e0; subst e1; subst e2
          clear hw3
          by_cases hmz : mm.size = 0
          · have hme := empty_text hmz
            subst hme
            clear hmz
            obtain ⟨x1, hx1⟩ : ∃ x, numV u.data.toList = x := ⟨_, rfl⟩
            obtain ⟨x2, hx2⟩ : ∃ x, numV y.data.toList = x := ⟨_, rfl⟩
            obtain ⟨x3, hx3⟩ : ∃ x, numV d.data.toList = x := ⟨_, rfl⟩
            obtain ⟨x4, hx4⟩ : ∃ x, numV l.data.toList = x := ⟨_, rfl⟩
            obtain ⟨o1, ho1⟩ : ∃ o, numB u.data.toList = o := ⟨_, rfl⟩
            obtain ⟨o2, ho2⟩ : ∃ o, numB y.data.toList = o := ⟨_, rfl⟩
            obtain ⟨o3, ho3⟩ : ∃ o, numB d.data.toList = o := ⟨_, rfl⟩
            obtain ⟨o4, ho4⟩ : ∃ o, numB l.data.toList = o := ⟨_, rfl⟩
            have HX1 := Lib.hid hx1
            have HX2 := Lib.hid hx2
            have HX3 := Lib.hid hx3
            have HX4 := Lib.hid hx4
            have HO1 := Lib.hid ho1
            have HO2 := Lib.hid ho2
            have HO3 := Lib.hid ho3
            have HO4 := Lib.hid ho4
            clear hx1 hx2 hx3 hx4 ho1 ho2 ho3 ho4
            cases o1
            · have HNO : Hid (∀ p, ¬ TkSp q.data.toList p) := fun p hp => by
                obtain ⟨a', d', l', x', y', k1, k2, k3, k4, k5, k6⟩ := hp.w
                rw [HW5.out] at k1
                simp only [List.cons.injEq, and_true] at k1
                obtain ⟨rfl, _, rfl, _, rfl⟩ := k1
                rw [HW3.out] at k2
                simp only [List.cons.injEq, and_true] at k2
                obtain ⟨rfl, _, rfl⟩ := k2
                have h0 := HO1.out
                rw [(num_some k3).2] at h0
                cases h0
              go_wp2_with fail
              refine (l01Number_at u _ hu HX1.out HO1.out).mono ?_
              rintro e w3 ⟨rfl, hb3⟩
              have hs3 := hb3.size
              have m2' := (hb3.cell (p := ⟨gb, goff + 2, none⟩) g2).trans m2
              have d2a := (hb3.cell (p := ⟨b, off + 2, none⟩) (Nat.lt_of_lt_of_le b2 hsz2)).trans d2'
              have d4a := (hb3.cell (p := ⟨b, off + 4, none⟩) (Nat.lt_of_lt_of_le b2 hsz2)).trans d4'
              have HB3 := Lib.hid (HB2.out.trans (hb3.mono HB2.out.size))
              have HP3 := Lib.hid (HP2.out.below hb3 HP2.out.lt)
              clear hb3
              go_wp2_with fail
              refine (l01Number_at y _ hy HX2.out HO2.out).mono ?_
              rintro e w4 ⟨rfl, hb4⟩
              have hs4 := hb4.size
              have d2b := (hb4.cell (p := ⟨b, off + 2, none⟩) (show b < w3.heap.size by omega)).trans d2a
              have d4b := (hb4.cell (p := ⟨b, off + 4, none⟩) (show b < w3.heap.size by omega)).trans d4a
              have HB4 := Lib.hid (HB3.out.trans (hb4.mono HB3.out.size))
              have HP4 := Lib.hid (HP3.out.below hb4 HP3.out.lt)
              clear hb4
              go_wp2_with fail
              refine (l01Number_at d _ hd HX3.out HO3.out).mono ?_
              rintro e w5 ⟨rfl, hb5⟩
              have hs5 := hb5.size
              have d4c := (hb5.cell (p := ⟨b, off + 4, none⟩) (show b < w4.heap.size by omega)).trans d4b
              have HB5 := Lib.hid (HB4.out.trans (hb5.mono HB4.out.size))
              have HP5 := Lib.hid (HP4.out.below hb5 HP4.out.lt)
              clear hb5
              go_wp2_with fail
              refine (l01Number_at l _ hl HX4.out HO4.out).mono ?_
              rintro e w6 ⟨rfl, hb6⟩
              have HB6 := Lib.hid (HB5.out.trans (hb6.mono HB5.out.size))
              have HP6 := Lib.hid (HP5.out.below hb6 HP5.out.lt)
              clear hb6
              have c0 : w6.cell? ⟨w.heap.size, 0, none⟩ = some (.int .i64 0) := HP6.out.cell 0
              have f0 := HP6.out.frozen 0
              have c1 : w6.cell? ⟨w.heap.size, 1, none⟩ = some (.int .i64 0) := HP6.out.cell 1
              have f1 := HP6.out.frozen 1
              have c2 : w6.cell? ⟨w.heap.size, 2, none⟩ = some (.int .i64 0) := HP6.out.cell 2
              have f2 := HP6.out.frozen 2
              have c3 : w6.cell? ⟨w.heap.size, 3, none⟩ = some (.int .i64 0) := HP6.out.cell 3
              have f3 := HP6.out.frozen 3
              have HZ0 := Lib.hid (HP6.out.set_ 0 (.int .i64 x4))
              have HZ1 := Lib.hid ((HP6.out.set_ 0 (.int .i64 x4)).set_ 1 (.int .i64 x3))
              have HZ2 := Lib.hid (((HP6.out.set_ 0 (.int .i64 x4)).set_ 1 (.int .i64 x3)).set_ 2 (.int .i64 x1))
              have HZ3 := Lib.hid ((((HP6.out.set_ 0 (.int .i64 x4)).set_ 1 (.int .i64 x3)).set_ 2 (.int .i64 x1)).set_ 3 (.int .i64 x2))
              have HBC : Hid (Below w.heap.size w ((((w6.setCell ⟨w.heap.size, 0, none⟩ (.int .i64 x4)).setCell ⟨w.heap.size, 1, none⟩ (.int .i64 x3)).setCell ⟨w.heap.size, 2, none⟩ (.int .i64 x1)).setCell ⟨w.heap.size, 3, none⟩ (.int .i64 x2))) := ((((HB6.out.setCell (Nat.le_refl _) _).setCell (Nat.le_refl _) _).setCell (Nat.le_refl _) _).setCell (Nat.le_refl _) _)
              have j0 : (w6.setCell ⟨w.heap.size, 0, none⟩ (.int .i64 x4)).cell? ⟨w.heap.size, 0, none⟩ = some (.int .i64 x4) := HZ0.out.cell 0
              have j1 : ((w6.setCell ⟨w.heap.size, 0, none⟩ (.int .i64 x4)).setCell ⟨w.heap.size, 1, none⟩ (.int .i64 x3)).cell? ⟨w.heap.size, 1, none⟩ = some (.int .i64 x3) := HZ1.out.cell 1
              have j2 : (((w6.setCell ⟨w.heap.size, 0, none⟩ (.int .i64 x4)).setCell ⟨w.heap.size, 1, none⟩ (.int .i64 x3)).setCell ⟨w.heap.size, 2, none⟩ (.int .i64 x1)).cell? ⟨w.heap.size, 2, none⟩ = some (.int .i64 x1) := HZ2.out.cell 2
              have j3 : ((((w6.setCell ⟨w.heap.size, 0, none⟩ (.int .i64 x4)).setCell ⟨w.heap.size, 1, none⟩ (.int .i64 x3)).setCell ⟨w.heap.size, 2, none⟩ (.int .i64 x1)).setCell ⟨w.heap.size, 3, none⟩ (.int .i64 x2)).cell? ⟨w.heap.size, 3, none⟩ = some (.int .i64 x2) := HZ3.out.cell 3
              have k0 : ((((w6.setCell ⟨w.heap.size, 0, none⟩ (.int .i64 x4)).setCell ⟨w.heap.size, 1, none⟩ (.int .i64 x3)).setCell ⟨w.heap.size, 2, none⟩ (.int .i64 x1)).setCell ⟨w.heap.size, 3, none⟩ (.int .i64 x2)).cell? ⟨w.heap.size, 0, none⟩ = some (.int .i64 x4) := HZ3.out.cell 0
              have k1 : ((((w6.setCell ⟨w.heap.size, 0, none⟩ (.int .i64 x4)).setCell ⟨w.heap.size, 1, none⟩ (.int .i64 x3)).setCell ⟨w.heap.size, 2, none⟩ (.int .i64 x1)).setCell ⟨w.heap.size, 3, none⟩ (.int .i64 x2)).cell? ⟨w.heap.size, 1, none⟩ = some (.int .i64 x3) := HZ3.out.cell 1
              have k2 : ((((w6.setCell ⟨w.heap.size, 0, none⟩ (.int .i64 x4)).setCell ⟨w.heap.size, 1, none⟩ (.int .i64 x3)).setCell ⟨w.heap.size, 2, none⟩ (.int .i64 x1)).setCell ⟨w.heap.size, 3, none⟩ (.int .i64 x2)).cell? ⟨w.heap.size, 2, none⟩ = some (.int .i64 x1) := HZ3.out.cell 2
              have k3 : ((((w6.setCell ⟨w.heap.size, 0, none⟩ (.int .i64 x4)).setCell ⟨w.heap.size, 1, none⟩ (.int .i64 x3)).setCell ⟨w.heap.size, 2, none⟩ (.int .i64 x1)).setCell ⟨w.heap.size, 3, none⟩ (.int .i64 x2)).cell? ⟨w.heap.size, 3, none⟩ = some (.int .i64 x2) := HZ3.out.cell 3
              go_wp2
              exact bodyPost_ret (v := .tuple #[.agg #[.int .i64 x4, .int .i64 x3, .int .i64 x1, .int .i64 x2], .bool false]) (by simp [results, Tryd.results65, go_sem, j0, j1, j2, j3, k0, k1, k2, k3]) rfl (RetSp.no HBC.out HNO.out)

            · cases o2
              · have HNO : Hid (∀ p, ¬ TkSp q.data.toList p) := fun p hp => by
                  obtain ⟨a', d', l', x', y', k1, k2, k3, k4, k5, k6⟩ := hp.w
                  rw [HW5.out] at k1
                  simp only [List.cons.injEq, and_true] at k1
                  obtain ⟨rfl, _, rfl, _, rfl⟩ := k1
                  rw [HW3.out] at k2
                  simp only [List.cons.injEq, and_true] at k2
                  obtain ⟨rfl, _, rfl⟩ := k2
                  have h0 := HO2.out
                  rw [(num_some k4).2] at h0
                  cases h0
                go_wp2_with fail
                refine (l01Number_at u _ hu HX1.out HO1.out).mono ?_
                rintro e w3 ⟨rfl, hb3⟩
                have hs3 := hb3.size
                have m2' := (hb3.cell (p := ⟨gb, goff + 2, none⟩) g2).trans m2
                have d2a := (hb3.cell (p := ⟨b, off + 2, none⟩) (Nat.lt_of_lt_of_le b2 hsz2)).trans d2'
                have d4a := (hb3.cell (p := ⟨b, off + 4, none⟩) (Nat.lt_of_lt_of_le b2 hsz2)).trans d4'
                have HB3 := Lib.hid (HB2.out.trans (hb3.mono HB2.out.size))
                have HP3 := Lib.hid (HP2.out.below hb3 HP2.out.lt)
                clear hb3
                go_wp2_with fail
                refine (l01Number_at y _ hy HX2.out HO2.out).mono ?_
                rintro e w4 ⟨rfl, hb4⟩
                have hs4 := hb4.size
                have d2b := (hb4.cell (p := ⟨b, off + 2, none⟩) (show b < w3.heap.size by omega)).trans d2a
                have d4b := (hb4.cell (p := ⟨b, off + 4, none⟩) (show b < w3.heap.size by omega)).trans d4a
                have HB4 := Lib.hid (HB3.out.trans (hb4.mono HB3.out.size))
                have HP4 := Lib.hid (HP3.out.below hb4 HP3.out.lt)
                clear hb4
                go_wp2_with fail
                refine (l01Number_at d _ hd HX3.out HO3.out).mono ?_
                rintro e w5 ⟨rfl, hb5⟩
                have hs5 := hb5.size
                have d4c := (hb5.cell (p := ⟨b, off + 4, none⟩) (show b < w4.heap.size by omega)).trans d4b
                have HB5 := Lib.hid (HB4.out.trans (hb5.mono HB4.out.size))
                have HP5 := Lib.hid (HP4.out.below hb5 HP4.out.lt)
                clear hb5
                go_wp2_with fail
                refine (l01Number_at l _ hl HX4.out HO4.out).mono ?_
                rintro e w6 ⟨rfl, hb6⟩
                have HB6 := Lib.hid (HB5.out.trans (hb6.mono HB5.out.size))
                have HP6 := Lib.hid (HP5.out.below hb6 HP5.out.lt)
                clear hb6
                have c0 : w6.cell? ⟨w.heap.size, 0, none⟩ = some (.int .i64 0) := HP6.out.cell 0
                have f0 := HP6.out.frozen 0
                have c1 : w6.cell? ⟨w.heap.size, 1, none⟩ = some (.int .i64 0) := HP6.out.cell 1
                have f1 := HP6.out.frozen 1
                have c2 : w6.cell? ⟨w.heap.size, 2, none⟩ = some (.int .i64 0) := HP6.out.cell 2
                have f2 := HP6.out.frozen 2
                have c3 : w6.cell? ⟨w.heap.size, 3, none⟩ = some (.int .i64 0) := HP6.out.cell 3
                have f3 := HP6.out.frozen 3
                have HZ0 := Lib.hid (HP6.out.set_ 0 (.int .i64 x4))
                have HZ1 := Lib.hid ((HP6.out.set_ 0 (.int .i64 x4)).set_ 1 (.int .i64 x3))
                have HZ2 := Lib.hid (((HP6.out.set_ 0 (.int .i64 x4)).set_ 1 (.int .i64 x3)).set_ 2 (.int .i64 x1))
                have HZ3 := Lib.hid ((((HP6.out.set_ 0 (.int .i64 x4)).set_ 1 (.int .i64 x3)).set_ 2 (.int .i64 x1)).set_ 3 (.int .i64 x2))
                have HBC : Hid (Below w.heap.size w ((((w6.setCell ⟨w.heap.size, 0, none⟩ (.int .i64 x4)).setCell ⟨w.heap.size, 1, none⟩ (.int .i64 x3)).setCell ⟨w.heap.size, 2, none⟩ (.int .i64 x1)).setCell ⟨w.heap.size, 3, none⟩ (.int .i64 x2))) := ((((HB6.out.setCell (Nat.le_refl _) _).setCell (Nat.le_refl _) _).setCell (Nat.le_refl _) _).setCell (Nat.le_refl _) _)
                have j0 : (w6.setCell ⟨w.heap.size, 0, none⟩ (.int .i64 x4)).cell? ⟨w.heap.size, 0, none⟩ = some (.int .i64 x4) := HZ0.out.cell 0
                have j1 : ((w6.setCell ⟨w.heap.size, 0, none⟩ (.int .i64 x4)).setCell ⟨w.heap.size, 1, none⟩ (.int .i64 x3)).cell? ⟨w.heap.size, 1, none⟩ = some (.int .i64 x3) := HZ1.out.cell 1
                have j2 : (((w6.setCell ⟨w.heap.size, 0, none⟩ (.int .i64 x4)).setCell ⟨w.heap.size, 1, none⟩ (.int .i64 x3)).setCell ⟨w.heap.size, 2, none⟩ (.int .i64 x1)).cell? ⟨w.heap.size, 2, none⟩ = some (.int .i64 x1) := HZ2.out.cell 2
                have j3 : ((((w6.setCell ⟨w.heap.size, 0, none⟩ (.int .i64 x4)).setCell ⟨w.heap.size, 1, none⟩ (.int .i64 x3)).setCell ⟨w.heap.size, 2, none⟩ (.int .i64 x1)).setCell ⟨w.heap.size, 3, none⟩ (.int .i64 x2)).cell? ⟨w.heap.size, 3, none⟩ = some (.int .i64 x2) := HZ3.out.cell 3
                have k0 : ((((w6.setCell ⟨w.heap.size, 0, none⟩ (.int .i64 x4)).setCell ⟨w.heap.size, 1, none⟩ (.int .i64 x3)).setCell ⟨w.heap.size, 2, none⟩ (.int .i64 x1)).setCell ⟨w.heap.size, 3, none⟩ (.int .i64 x2)).cell? ⟨w.heap.size, 0, none⟩ = some (.int .i64 x4) := HZ3.out.cell 0
                have k1 : ((((w6.setCell ⟨w.heap.size, 0, none⟩ (.int .i64 x4)).setCell ⟨w.heap.size, 1, none⟩ (.int .i64 x3)).setCell ⟨w.heap.size, 2, none⟩ (.int .i64 x1)).setCell ⟨w.heap.size, 3, none⟩ (.int .i64 x2)).cell? ⟨w.heap.size, 1, none⟩ = some (.int .i64 x3) := HZ3.out.cell 1
                have k2 : ((((w6.setCell ⟨w.heap.size, 0, none⟩ (.int .i64 x4)).setCell ⟨w.heap.size, 1, none⟩ (.int .i64 x3)).setCell ⟨w.heap.size, 2, none⟩ (.int .i64 x1)).setCell ⟨w.heap.size, 3, none⟩ (.int .i64 x2)).cell? ⟨w.heap.size, 2, none⟩ = some (.int .i64 x1) := HZ3.out.cell 2
                have k3 : ((((w6.setCell ⟨w.heap.size, 0, none⟩ (.int .i64 x4)).setCell ⟨w.heap.size, 1, none⟩ (.int .i64 x3)).setCell ⟨w.heap.size, 2, none⟩ (.int .i64 x1)).setCell ⟨w.heap.size, 3, none⟩ (.int .i64 x2)).cell? ⟨w.heap.size, 3, none⟩ = some (.int .i64 x2) := HZ3.out.cell 3
                go_wp2
                exact bodyPost_ret (v := .tuple #[.agg #[.int .i64 x4, .int .i64 x3, .int .i64 x1, .int .i64 x2], .bool false]) (by simp [results, Tryd.results65, go_sem, j0, j1, j2, j3, k0, k1, k2, k3]) rfl (RetSp.no HBC.out HNO.out)

              · cases o3
                · have HNO : Hid (∀ p, ¬ TkSp q.data.toList p) := fun p hp => by
                    obtain ⟨a', d', l', x', y', k1, k2, k3, k4, k5, k6⟩ := hp.w
                    rw [HW5.out] at k1
                    simp only [List.cons.injEq, and_true] at k1
                    obtain ⟨rfl, _, rfl, _, rfl⟩ := k1
                    rw [HW3.out] at k2
                    simp only [List.cons.injEq, and_true] at k2
                    obtain ⟨rfl, _, rfl⟩ := k2
                    have h0 := HO3.out
                    rw [(num_some k5).2] at h0
                    cases h0
                  go_wp2_with fail
                  refine (l01Number_at u _ hu HX1.out HO1.out).mono ?_
                  rintro e w3 ⟨rfl, hb3⟩
                  have hs3 := hb3.size
                  have m2' := (hb3.cell (p := ⟨gb, goff + 2, none⟩) g2).trans m2
                  have d2a := (hb3.cell (p := ⟨b, off + 2, none⟩) (Nat.lt_of_lt_of_le b2 hsz2)).trans d2'
                  have d4a := (hb3.cell (p := ⟨b, off + 4, none⟩) (Nat.lt_of_lt_of_le b2 hsz2)).trans d4'
                  have HB3 := Lib.hid (HB2.out.trans (hb3.mono HB2.out.size))
                  have HP3 := Lib.hid (HP2.out.below hb3 HP2.out.lt)
                  clear hb3
                  go_wp2_with fail
                  refine (l01Number_at y _ hy HX2.out HO2.out).mono ?_
                  rintro e w4 ⟨rfl, hb4⟩
                  have hs4 := hb4.size
                  have d2b := (hb4.cell (p := ⟨b, off + 2, none⟩) (show b < w3.heap.size by omega)).trans d2a
                  have d4b := (hb4.cell (p := ⟨b, off + 4, none⟩) (show b < w3.heap.size by omega)).trans d4a
                  have HB4 := Lib.hid (HB3.out.trans (hb4.mono HB3.out.size))
                  have HP4 := Lib.hid (HP3.out.below hb4 HP3.out.lt)
                  clear hb4
                  go_wp2_with fail
                  refine (l01Number_at d _ hd HX3.out HO3.out).mono ?_
                  rintro e w5 ⟨rfl, hb5⟩
                  have hs5 := hb5.size
                  have d4c := (hb5.cell (p := ⟨b, off + 4, none⟩) (show b < w4.heap.size by omega)).trans d4b
                  have HB5 := Lib.hid (HB4.out.trans (hb5.mono HB4.out.size))
                  have HP5 := Lib.hid (HP4.out.below hb5 HP4.out.lt)
                  clear hb5
                  go_wp2_with fail
                  refine (l01Number_at l _ hl HX4.out HO4.out).mono ?_
                  rintro e w6 ⟨rfl, hb6⟩
                  have HB6 := Lib.hid (HB5.out.trans (hb6.mono HB5.out.size))
                  have HP6 := Lib.hid (HP5.out.below hb6 HP5.out.lt)
                  clear hb6
                  have c0 : w6.cell? ⟨w.heap.size, 0, none⟩ = some (.int .i64 0) := HP6.out.cell 0
                  have f0 := HP6.out.frozen 0
                  have c1 : w6.cell? ⟨w.heap.size, 1, none⟩ = some (.int .i64 0) := HP6.out.cell 1
                  have f1 := HP6.out.frozen 1
                  have c2 : w6.cell? ⟨w.heap.size, 2, none⟩ = some (.int .i64 0) := HP6.out.cell 2
                  have f2 := HP6.out.frozen 2
                  have c3 : w6.cell? ⟨w.heap.size, 3, none⟩ = some (.int .i64 0) := HP6.out.cell 3
                  have f3 := HP6.out.frozen 3
                  have HZ0 := Lib.hid (HP6.out.set_ 0 (.int .i64 x4))
                  have HZ1 := Lib.hid ((HP6.out.set_ 0 (.int .i64 x4)).set_ 1 (.int .i64 x3))
                  have HZ2 := Lib.hid (((HP6.out.set_ 0 (.int .i64 x4)).set_ 1 (.int .i64 x3)).set_ 2 (.int .i64 x1))
                  have HZ3 := Lib.hid ((((HP6.out.set_ 0 (.int .i64 x4)).set_ 1 (.int .i64 x3)).set_ 2 (.int .i64 x1)).set_ 3 (.int .i64 x2))
                  have HBC : Hid (Below w.heap.size w ((((w6.setCell ⟨w.heap.size, 0, none⟩ (.int .i64 x4)).setCell ⟨w.heap.size, 1, none⟩ (.int .i64 x3)).setCell ⟨w.heap.size, 2, none⟩ (.int .i64 x1)).setCell ⟨w.heap.size, 3, none⟩ (.int .i64 x2))) := ((((HB6.out.setCell (Nat.le_refl _) _).setCell (Nat.le_refl _) _).setCell (Nat.le_refl _) _).setCell (Nat.le_refl _) _)
                  have j0 : (w6.setCell ⟨w.heap.size, 0, none⟩ (.int .i64 x4)).cell? ⟨w.heap.size, 0, none⟩ = some (.int .i64 x4) := HZ0.out.cell 0
                  have j1 : ((w6.setCell ⟨w.heap.size, 0, none⟩ (.int .i64 x4)).setCell ⟨w.heap.size, 1, none⟩ (.int .i64 x3)).cell? ⟨w.heap.size, 1, none⟩ = some (.int .i64 x3) := HZ1.out.cell 1
                  have j2 : (((w6.setCell ⟨w.heap.size, 0, none⟩ (.int .i64 x4)).setCell ⟨w.heap.size, 1, none⟩ (.int .i64 x3)).setCell ⟨w.heap.size, 2, none⟩ (.int .i64 x1)).cell? ⟨w.heap.size, 2, none⟩ = some (.int .i64 x1) := HZ2.out.cell 2
                  have j3 : ((((w6.setCell ⟨w.heap.size, 0, none⟩ (.int .i64 x4)).setCell ⟨w.heap.size, 1, none⟩ (.int .i64 x3)).setCell ⟨w.heap.size, 2, none⟩ (.int .i64 x1)).setCell ⟨w.heap.size, 3, none⟩ (.int .i64 x2)).cell? ⟨w.heap.size, 3, none⟩ = some (.int .i64 x2) := HZ3.out.cell 3
                  have k0 : ((((w6.setCell ⟨w.heap.size, 0, none⟩ (.int .i64 x4)).setCell ⟨w.heap.size, 1, none⟩ (.int .i64 x3)).setCell ⟨w.heap.size, 2, none⟩ (.int .i64 x1)).setCell ⟨w.heap.size, 3, none⟩ (.int .i64 x2)).cell? ⟨w.heap.size, 0, none⟩ = some (.int .i64 x4) := HZ3.out.cell 0
                  have k1 : ((((w6.setCell ⟨w.heap.size, 0, none⟩ (.int .i64 x4)).setCell ⟨w.heap.size, 1, none⟩ (.int .i64 x3)).setCell ⟨w.heap.size, 2, none⟩ (.int .i64 x1)).setCell ⟨w.heap.size, 3, none⟩ (.int .i64 x2)).cell? ⟨w.heap.size, 1, none⟩ = some (.int .i64 x3) := HZ3.out.cell 1
                  have k2 : ((((w6.setCell ⟨w.heap.size, 0, none⟩ (.int .i64 x4)).setCell ⟨w.heap.size, 1, none⟩ (.int .i64 x3)).setCell ⟨w.heap.size, 2, none⟩ (.int .i64 x1)).setCell ⟨w.heap.size, 3, none⟩ (.int .i64 x2)).cell? ⟨w.heap.size, 2, none⟩ = some (.int .i64 x1) := HZ3.out.cell 2
                  have k3 : ((((w6.setCell ⟨w.heap.size, 0, none⟩ (.int .i64 x4)).setCell ⟨w.heap.size, 1, none⟩ (.int .i64 x3)).setCell ⟨w.heap.size, 2, none⟩ (.int .i64 x1)).setCell ⟨w.heap.size, 3, none⟩ (.int .i64 x2)).cell? ⟨w.heap.size, 3, none⟩ = some (.int .i64 x2) := HZ3.out.cell 3
                  go_wp2
                  exact bodyPost_ret (v := .tuple #[.agg #[.int .i64 x4, .int .i64 x3, .int .i64 x1, .int .i64 x2], .bool false]) (by simp [results, Tryd.results65, go_sem, j0, j1, j2, j3, k0, k1, k2, k3]) rfl (RetSp.no HBC.out HNO.out)

                · cases o4
                  · have HNO : Hid (∀ p, ¬ TkSp q.data.toList p) := fun p hp => by
                      obtain ⟨a', d', l', x', y', k1, k2, k3, k4, k5, k6⟩ := hp.w
                      rw [HW5.out] at k1
                      simp only [List.cons.injEq, and_true] at k1
                      obtain ⟨rfl, _, rfl, _, rfl⟩ := k1
                      rw [HW3.out] at k2
                      simp only [List.cons.injEq, and_true] at k2
                      obtain ⟨rfl, _, rfl⟩ := k2
                      have h0 := HO4.out
                      rw [(num_some k6).2] at h0
                      cases h0
                    go_wp2_with fail
                    refine (l01Number_at u _ hu HX1.out HO1.out).mono ?_
                    rintro e w3 ⟨rfl, hb3⟩
                    have hs3 := hb3.size
                    have m2' := (hb3.cell (p := ⟨gb, goff + 2, none⟩) g2).trans m2
                    have d2a := (hb3.cell (p := ⟨b, off + 2, none⟩) (Nat.lt_of_lt_of_le b2 hsz2)).trans d2'
                    have d4a := (hb3.cell (p := ⟨b, off + 4, none⟩) (Nat.lt_of_lt_of_le b2 hsz2)).trans d4'
                    have HB3 := Lib.hid (HB2.out.trans (hb3.mono HB2.out.size))
                    have HP3 := Lib.hid (HP2.out.below hb3 HP2.out.lt)
                    clear hb3
                    go_wp2_with fail
                    refine (l01Number_at y _ hy HX2.out HO2.out).mono ?_
                    rintro e w4 ⟨rfl, hb4⟩
                    have hs4 := hb4.size
                    have d2b := (hb4.cell (p := ⟨b, off + 2, none⟩) (show b < w3.heap.size by omega)).trans d2a
                    have d4b := (hb4.cell (p := ⟨b, off + 4, none⟩) (show b < w3.heap.size by omega)).trans d4a
                    have HB4 := Lib.hid (HB3.out.trans (hb4.mono HB3.out.size))
                    have HP4 := Lib.hid (HP3.out.below hb4 HP3.out.lt)
                    clear hb4
                    go_wp2_with fail
                    refine (l01Number_at d _ hd HX3.out HO3.out).mono ?_
                    rintro e w5 ⟨rfl, hb5⟩
                    have hs5 := hb5.size
                    have d4c := (hb5.cell (p := ⟨b, off + 4, none⟩) (show b < w4.heap.size by omega)).trans d4b
                    have HB5 := Lib.hid (HB4.out.trans (hb5.mono HB4.out.size))
                    have HP5 := Lib.hid (HP4.out.below hb5 HP4.out.lt)
                    clear hb5
                    go_wp2_with fail
                    refine (l01Number_at l _ hl HX4.out HO4.out).mono ?_
                    rintro e w6 ⟨rfl, hb6⟩
                    have HB6 := Lib.hid (HB5.out.trans (hb6.mono HB5.out.size))
                    have HP6 := Lib.hid (HP5.out.below hb6 HP5.out.lt)
                    clear hb6
                    have c0 : w6.cell? ⟨w.heap.size, 0, none⟩ = some (.int .i64 0) := HP6.out.cell 0
                    have f0 := HP6.out.frozen 0
                    have c1 : w6.cell? ⟨w.heap.size, 1, none⟩ = some (.int .i64 0) := HP6.out.cell 1
                    have f1 := HP6.out.frozen 1
                    have c2 : w6.cell? ⟨w.heap.size, 2, none⟩ = some (.int .i64 0) := HP6.out.cell 2
                    have f2 := HP6.out.frozen 2
                    have c3 : w6.cell? ⟨w.heap.size, 3, none⟩ = some (.int .i64 0) := HP6.out.cell 3
                    have f3 := HP6.out.frozen 3
                    have HZ0 := Lib.hid (HP6.out.set_ 0 (.int .i64 x4))
                    have HZ1 := Lib.hid ((HP6.out.set_ 0 (.int .i64 x4)).set_ 1 (.int .i64 x3))
                    have HZ2 := Lib.hid (((HP6.out.set_ 0 (.int .i64 x4)).set_ 1 (.int .i64 x3)).set_ 2 (.int .i64 x1))
                    have HZ3 := Lib.hid ((((HP6.out.set_ 0 (.int .i64 x4)).set_ 1 (.int .i64 x3)).set_ 2 (.int .i64 x1)).set_ 3 (.int .i64 x2))
                    have HBC : Hid (Below w.heap.size w ((((w6.setCell ⟨w.heap.size, 0, none⟩ (.int .i64 x4)).setCell ⟨w.heap.size, 1, none⟩ (.int .i64 x3)).setCell ⟨w.heap.size, 2, none⟩ (.int .i64 x1)).setCell ⟨w.heap.size, 3, none⟩ (.int .i64 x2))) := ((((HB6.out.setCell (Nat.le_refl _) _).setCell (Nat.le_refl _) _).setCell (Nat.le_refl _) _).setCell (Nat.le_refl _) _)
                    have j0 : (w6.setCell ⟨w.heap.size, 0, none⟩ (.int .i64 x4)).cell? ⟨w.heap.size, 0, none⟩ = some (.int .i64 x4) := HZ0.out.cell 0
                    have j1 : ((w6.setCell ⟨w.heap.size, 0, none⟩ (.int .i64 x4)).setCell ⟨w.heap.size, 1, none⟩ (.int .i64 x3)).cell? ⟨w.heap.size, 1, none⟩ = some (.int .i64 x3) := HZ1.out.cell 1
                    have j2 : (((w6.setCell ⟨w.heap.size, 0, none⟩ (.int .i64 x4)).setCell ⟨w.heap.size, 1, none⟩ (.int .i64 x3)).setCell ⟨w.heap.size, 2, none⟩ (.int .i64 x1)).cell? ⟨w.heap.size, 2, none⟩ = some (.int .i64 x1) := HZ2.out.cell 2
                    have j3 : ((((w6.setCell ⟨w.heap.size, 0, none⟩ (.int .i64 x4)).setCell ⟨w.heap.size, 1, none⟩ (.int .i64 x3)).setCell ⟨w.heap.size, 2, none⟩ (.int .i64 x1)).setCell ⟨w.heap.size, 3, none⟩ (.int .i64 x2)).cell? ⟨w.heap.size, 3, none⟩ = some (.int .i64 x2) := HZ3.out.cell 3
                    have k0 : ((((w6.setCell ⟨w.heap.size, 0, none⟩ (.int .i64 x4)).setCell ⟨w.heap.size, 1, none⟩ (.int .i64 x3)).setCell ⟨w.heap.size, 2, none⟩ (.int .i64 x1)).setCell ⟨w.heap.size, 3, none⟩ (.int .i64 x2)).cell? ⟨w.heap.size, 0, none⟩ = some (.int .i64 x4) := HZ3.out.cell 0
                    have k1 : ((((w6.setCell ⟨w.heap.size, 0, none⟩ (.int .i64 x4)).setCell ⟨w.heap.size, 1, none⟩ (.int .i64 x3)).setCell ⟨w.heap.size, 2, none⟩ (.int .i64 x1)).setCell ⟨w.heap.size, 3, none⟩ (.int .i64 x2)).cell? ⟨w.heap.size, 1, none⟩ = some (.int .i64 x3) := HZ3.out.cell 1
                    have k2 : ((((w6.setCell ⟨w.heap.size, 0, none⟩ (.int .i64 x4)).setCell ⟨w.heap.size, 1, none⟩ (.int .i64 x3)).setCell ⟨w.heap.size, 2, none⟩ (.int .i64 x1)).setCell ⟨w.heap.size, 3, none⟩ (.int .i64 x2)).cell? ⟨w.heap.size, 2, none⟩ = some (.int .i64 x1) := HZ3.out.cell 2
                    have k3 : ((((w6.setCell ⟨w.heap.size, 0, none⟩ (.int .i64 x4)).setCell ⟨w.heap.size, 1, none⟩ (.int .i64 x3)).setCell ⟨w.heap.size, 2, none⟩ (.int .i64 x1)).setCell ⟨w.heap.size, 3, none⟩ (.int .i64 x2)).cell? ⟨w.heap.size, 3, none⟩ = some (.int .i64 x2) := HZ3.out.cell 3
                    go_wp2
                    exact bodyPost_ret (v := .tuple #[.agg #[.int .i64 x4, .int .i64 x3, .int .i64 x1, .int .i64 x2], .bool false]) (by simp [results, Tryd.results65, go_sem, j0, j1, j2, j3, k0, k1, k2, k3]) rfl (RetSp.no HBC.out HNO.out)

                  · have HYS : Hid (TkSp q.data.toList ⟨x4, x3, x1, x2⟩) := ⟨⟨a.data.toList, d.data.toList, l.data.toList, u.data.toList, y.data.toList, by rw [HW5.out, HC.out, HL.out] <;> rfl, by rw [HW3.out] <;> rfl, num_at HX1.out HO1.out, num_at HX2.out HO2.out, num_at HX3.out HO3.out, num_at HX4.out HO4.out⟩⟩
                    go_wp2_with fail
                    refine (l01Number_at u _ hu HX1.out HO1.out).mono ?_
                    rintro e w3 ⟨rfl, hb3⟩
                    have hs3 := hb3.size
                    have m2' := (hb3.cell (p := ⟨gb, goff + 2, none⟩) g2).trans m2
                    have d2a := (hb3.cell (p := ⟨b, off + 2, none⟩) (Nat.lt_of_lt_of_le b2 hsz2)).trans d2'
                    have d4a := (hb3.cell (p := ⟨b, off + 4, none⟩) (Nat.lt_of_lt_of_le b2 hsz2)).trans d4'
                    have HB3 := Lib.hid (HB2.out.trans (hb3.mono HB2.out.size))
                    have HP3 := Lib.hid (HP2.out.below hb3 HP2.out.lt)
                    clear hb3
                    go_wp2_with fail
                    refine (l01Number_at y _ hy HX2.out HO2.out).mono ?_
                    rintro e w4 ⟨rfl, hb4⟩
                    have hs4 := hb4.size
                    have d2b := (hb4.cell (p := ⟨b, off + 2, none⟩) (show b < w3.heap.size by omega)).trans d2a
                    have d4b := (hb4.cell (p := ⟨b, off + 4, none⟩) (show b < w3.heap.size by omega)).trans d4a
                    have HB4 := Lib.hid (HB3.out.trans (hb4.mono HB3.out.size))
                    have HP4 := Lib.hid (HP3.out.below hb4 HP3.out.lt)
                    clear hb4
                    go_wp2_with fail
                    refine (l01Number_at d _ hd HX3.out HO3.out).mono ?_
                    rintro e w5 ⟨rfl, hb5⟩
                    have hs5 := hb5.size
                    have d4c := (hb5.cell (p := ⟨b, off + 4, none⟩) (show b < w4.heap.size by omega)).trans d4b
                    have HB5 := Lib.hid (HB4.out.trans (hb5.mono HB4.out.size))
                    have HP5 := Lib.hid (HP4.out.below hb5 HP4.out.lt)
                    clear hb5
                    go_wp2_with fail
                    refine (l01Number_at l _ hl HX4.out HO4.out).mono ?_
                    rintro e w6 ⟨rfl, hb6⟩
                    have HB6 := Lib.hid (HB5.out.trans (hb6.mono HB5.out.size))
                    have HP6 := Lib.hid (HP5.out.below hb6 HP5.out.lt)
                    clear hb6
                    have c0 : w6.cell? ⟨w.heap.size, 0, none⟩ = some (.int .i64 0) := HP6.out.cell 0
                    have f0 := HP6.out.frozen 0
                    have c1 : w6.cell? ⟨w.heap.size, 1, none⟩ = some (.int .i64 0) := HP6.out.cell 1
                    have f1 := HP6.out.frozen 1
                    have c2 : w6.cell? ⟨w.heap.size, 2, none⟩ = some (.int .i64 0) := HP6.out.cell 2
                    have f2 := HP6.out.frozen 2
                    have c3 : w6.cell? ⟨w.heap.size, 3, none⟩ = some (.int .i64 0) := HP6.out.cell 3
                    have f3 := HP6.out.frozen 3
                    have HZ0 := Lib.hid (HP6.out.set_ 0 (.int .i64 x4))
                    have HZ1 := Lib.hid ((HP6.out.set_ 0 (.int .i64 x4)).set_ 1 (.int .i64 x3))
                    have HZ2 := Lib.hid (((HP6.out.set_ 0 (.int .i64 x4)).set_ 1 (.int .i64 x3)).set_ 2 (.int .i64 x1))
                    have HZ3 := Lib.hid ((((HP6.out.set_ 0 (.int .i64 x4)).set_ 1 (.int .i64 x3)).set_ 2 (.int .i64 x1)).set_ 3 (.int .i64 x2))
                    have HBC : Hid (Below w.heap.size w ((((w6.setCell ⟨w.heap.size, 0, none⟩ (.int .i64 x4)).setCell ⟨w.heap.size, 1, none⟩ (.int .i64 x3)).setCell ⟨w.heap.size, 2, none⟩ (.int .i64 x1)).setCell ⟨w.heap.size, 3, none⟩ (.int .i64 x2))) := ((((HB6.out.setCell (Nat.le_refl _) _).setCell (Nat.le_refl _) _).setCell (Nat.le_refl _) _).setCell (Nat.le_refl _) _)
                    have j0 : (w6.setCell ⟨w.heap.size, 0, none⟩ (.int .i64 x4)).cell? ⟨w.heap.size, 0, none⟩ = some (.int .i64 x4) := HZ0.out.cell 0
                    have j1 : ((w6.setCell ⟨w.heap.size, 0, none⟩ (.int .i64 x4)).setCell ⟨w.heap.size, 1, none⟩ (.int .i64 x3)).cell? ⟨w.heap.size, 1, none⟩ = some (.int .i64 x3) := HZ1.out.cell 1
                    have j2 : (((w6.setCell ⟨w.heap.size, 0, none⟩ (.int .i64 x4)).setCell ⟨w.heap.size, 1, none⟩ (.int .i64 x3)).setCell ⟨w.heap.size, 2, none⟩ (.int .i64 x1)).cell? ⟨w.heap.size, 2, none⟩ = some (.int .i64 x1) := HZ2.out.cell 2
                    have j3 : ((((w6.setCell ⟨w.heap.size, 0, none⟩ (.int .i64 x4)).setCell ⟨w.heap.size, 1, none⟩ (.int .i64 x3)).setCell ⟨w.heap.size, 2, none⟩ (.int .i64 x1)).setCell ⟨w.heap.size, 3, none⟩ (.int .i64 x2)).cell? ⟨w.heap.size, 3, none⟩ = some (.int .i64 x2) := HZ3.out.cell 3
                    have k0 : ((((w6.setCell ⟨w.heap.size, 0, none⟩ (.int .i64 x4)).setCell ⟨w.heap.size, 1, none⟩ (.int .i64 x3)).setCell ⟨w.heap.size, 2, none⟩ (.int .i64 x1)).setCell ⟨w.heap.size, 3, none⟩ (.int .i64 x2)).cell? ⟨w.heap.size, 0, none⟩ = some (.int .i64 x4) := HZ3.out.cell 0
                    have k1 : ((((w6.setCell ⟨w.heap.size, 0, none⟩ (.int .i64 x4)).setCell ⟨w.heap.size, 1, none⟩ (.int .i64 x3)).setCell ⟨w.heap.size, 2, none⟩ (.int .i64 x1)).setCell ⟨w.heap.size, 3, none⟩ (.int .i64 x2)).cell? ⟨w.heap.size, 1, none⟩ = some (.int .i64 x3) := HZ3.out.cell 1
                    have k2 : ((((w6.setCell ⟨w.heap.size, 0, none⟩ (.int .i64 x4)).setCell ⟨w.heap.size, 1, none⟩ (.int .i64 x3)).setCell ⟨w.heap.size, 2, none⟩ (.int .i64 x1)).setCell ⟨w.heap.size, 3, none⟩ (.int .i64 x2)).cell? ⟨w.heap.size, 2, none⟩ = some (.int .i64 x1) := HZ3.out.cell 2
                    have k3 : ((((w6.setCell ⟨w.heap.size, 0, none⟩ (.int .i64 x4)).setCell ⟨w.heap.size, 1, none⟩ (.int .i64 x3)).setCell ⟨w.heap.size, 2, none⟩ (.int .i64 x1)).setCell ⟨w.heap.size, 3, none⟩ (.int .i64 x2)).cell? ⟨w.heap.size, 3, none⟩ = some (.int .i64 x2) := HZ3.out.cell 3
                    go_wp2
                    exact bodyPost_ret (v := .tuple #[.agg #[.int .i64 x4, .int .i64 x3, .int .i64 x1, .int .i64 x2], .bool true]) (by simp [results, Tryd.results65, go_sem, j0, j1, j2, j3, k0, k1, k2, k3]) rfl (RetSp.yes HBC.out HYS.out)

          · have hne := nonempty_list (s := mm) (by omega)
            have hne2 : (mm.toList == []) = false := by cases h : mm.toList with
              | nil => rw [h] at hne; cases hne
              | cons a t => rfl
            have HNO : Hid (∀ p, ¬ TkSp q.data.toList p) := fun p hp => by
              obtain ⟨a', d', l', x', y', k1, k2, _⟩ := hp.w
              rw [HW5.out] at k1
              simp only [List.cons.injEq, and_true] at k1
              obtain ⟨rfl, _, rfl, _, rfl⟩ := k1
              rw [HW3.out] at k2
              simp only [List.cons.injEq, and_true] at k2
              have h9 : mm.data.toList.length = mm.size := Array.length_toList
              rw [k2.2.1] at h9
              exact hmz (by simpa using h9.symm)
            clear hmz
            have c0 : w2.cell? ⟨w.heap.size, 0, none⟩ = some (.int .i64 0) := HP2.out.cell 0
            have f0 := HP2.out.frozen 0
            have c1 : w2.cell? ⟨w.heap.size, 1, none⟩ = some (.int .i64 0) := HP2.out.cell 1
            have f1 := HP2.out.frozen 1
            have c2 : w2.cell? ⟨w.heap.size, 2, none⟩ = some (.int .i64 0) := HP2.out.cell 2
            have f2 := HP2.out.frozen 2
            have c3 : w2.cell? ⟨w.heap.size, 3, none⟩ = some (.int .i64 0) := HP2.out.cell 3
            have f3 := HP2.out.frozen 3
            have HZ0 := Lib.hid (HP2.out.set_ 0 (.int .i64 0))
            have HZ1 := Lib.hid ((HP2.out.set_ 0 (.int .i64 0)).set_ 1 (.int .i64 0))
            have HZ2 := Lib.hid (((HP2.out.set_ 0 (.int .i64 0)).set_ 1 (.int .i64 0)).set_ 2 (.int .i64 0))
            have HZ3 := Lib.hid ((((HP2.out.set_ 0 (.int .i64 0)).set_ 1 (.int .i64 0)).set_ 2 (.int .i64 0)).set_ 3 (.int .i64 0))
            have HBC : Hid (Below w.heap.size w ((((w2.setCell ⟨w.heap.size, 0, none⟩ (.int .i64 0)).setCell ⟨w.heap.size, 1, none⟩ (.int .i64 0)).setCell ⟨w.heap.size, 2, none⟩ (.int .i64 0)).setCell ⟨w.heap.size, 3, none⟩ (.int .i64 0))) := ((((HB2.out.setCell (Nat.le_refl _) _).setCell (Nat.le_refl _) _).setCell (Nat.le_refl _) _).setCell (Nat.le_refl _) _)
            have j0 : (w2.setCell ⟨w.heap.size, 0, none⟩ (.int .i64 0)).cell? ⟨w.heap.size, 0, none⟩ = some (.int .i64 0) := HZ0.out.cell 0
            have j1 : ((w2.setCell ⟨w.heap.size, 0, none⟩ (.int .i64 0)).setCell ⟨w.heap.size, 1, none⟩ (.int .i64 0)).cell? ⟨w.heap.size, 1, none⟩ = some (.int .i64 0) := HZ1.out.cell 1
            have j2 : (((w2.setCell ⟨w.heap.size, 0, none⟩ (.int .i64 0)).setCell ⟨w.heap.size, 1, none⟩ (.int .i64 0)).setCell ⟨w.heap.size, 2, none⟩ (.int .i64 0)).cell? ⟨w.heap.size, 2, none⟩ = some (.int .i64 0) := HZ2.out.cell 2
            have j3 : ((((w2.setCell ⟨w.heap.size, 0, none⟩ (.int .i64 0)).setCell ⟨w.heap.size, 1, none⟩ (.int .i64 0)).setCell ⟨w.heap.size, 2, none⟩ (.int .i64 0)).setCell ⟨w.heap.size, 3, none⟩ (.int .i64 0)).cell? ⟨w.heap.size, 3, none⟩ = some (.int .i64 0) := HZ3.out.cell 3
            have k0 : ((((w2.setCell ⟨w.heap.size, 0, none⟩ (.int .i64 0)).setCell ⟨w.heap.size, 1, none⟩ (.int .i64 0)).setCell ⟨w.heap.size, 2, none⟩ (.int .i64 0)).setCell ⟨w.heap.size, 3, none⟩ (.int .i64 0)).cell? ⟨w.heap.size, 0, none⟩ = some (.int .i64 0) := HZ3.out.cell 0
            have k1 : ((((w2.setCell ⟨w.heap.size, 0, none⟩ (.int .i64 0)).setCell ⟨w.heap.size, 1, none⟩ (.int .i64 0)).setCell ⟨w.heap.size, 2, none⟩ (.int .i64 0)).setCell ⟨w.heap.size, 3, none⟩ (.int .i64 0)).cell? ⟨w.heap.size, 1, none⟩ = some (.int .i64 0) := HZ3.out.cell 1
            have k2 : ((((w2.setCell ⟨w.heap.size, 0, none⟩ (.int .i64 0)).setCell ⟨w.heap.size, 1, none⟩ (.int .i64 0)).setCell ⟨w.heap.size, 2, none⟩ (.int .i64 0)).setCell ⟨w.heap.size, 3, none⟩ (.int .i64 0)).cell? ⟨w.heap.size, 2, none⟩ = some (.int .i64 0) := HZ3.out.cell 2
            have k3 : ((((w2.setCell ⟨w.heap.size, 0, none⟩ (.int .i64 0)).setCell ⟨w.heap.size, 1, none⟩ (.int .i64 0)).setCell ⟨w.heap.size, 2, none⟩ (.int .i64 0)).setCell ⟨w.heap.size, 3, none⟩ (.int .i64 0)).cell? ⟨w.heap.size, 3, none⟩ = some (.int .i64 0) := HZ3.out.cell 3
            go_wp2
            exact bodyPost_ret (v := .tuple #[.agg #[.int .i64 0, .int .i64 0, .int .i64 0, .int .i64 0], .bool false]) (by simp [results, Tryd.results65, go_sem, j0, j1, j2, j3, k0, k1, k2, k3]) rfl (RetSp.no HBC.out HNO.out)

        · have h3i : ((m : Int) != 3) = true := by rw [bne_iff_ne]; omega
          have HNO : Hid (∀ p, ¬ TkSp q.data.toList p) := fun p hp => by
            obtain ⟨a', d', l', x', y', k1, k2, _⟩ := hp.w
            rw [HW5.out] at k1
            simp only [List.cons.injEq, and_true] at k1
            obtain ⟨rfl, _, rfl, _, rfl⟩ := k1
            have := congrArg List.length (spl_list 46 a)
            rw [k2, List.length_map, ← HM.out] at this
            exact h3 this
          have c0 : w2.cell? ⟨w.heap.size, 0, none⟩ = some (.int .i64 0) := HP2.out.cell 0
          have f0 := HP2.out.frozen 0
          have c1 : w2.cell? ⟨w.heap.size, 1, none⟩ = some (.int .i64 0) := HP2.out.cell 1
          have f1 := HP2.out.frozen 1
          have c2 : w2.cell? ⟨w.heap.size, 2, none⟩ = some (.int .i64 0) := HP2.out.cell 2
          have f2 := HP2.out.frozen 2
          have c3 : w2.cell? ⟨w.heap.size, 3, none⟩ = some (.int .i64 0) := HP2.out.cell 3
          have f3 := HP2.out.frozen 3
          have HZ0 := Lib.hid (HP2.out.set_ 0 (.int .i64 0))
          have HZ1 := Lib.hid ((HP2.out.set_ 0 (.int .i64 0)).set_ 1 (.int .i64 0))
          have HZ2 := Lib.hid (((HP2.out.set_ 0 (.int .i64 0)).set_ 1 (.int .i64 0)).set_ 2 (.int .i64 0))
          have HZ3 := Lib.hid ((((HP2.out.set_ 0 (.int .i64 0)).set_ 1 (.int .i64 0)).set_ 2 (.int .i64 0)).set_ 3 (.int .i64 0))
          have HBC : Hid (Below w.heap.size w ((((w2.setCell ⟨w.heap.size, 0, none⟩ (.int .i64 0)).setCell ⟨w.heap.size, 1, none⟩ (.int .i64 0)).setCell ⟨w.heap.size, 2, none⟩ (.int .i64 0)).setCell ⟨w.heap.size, 3, none⟩ (.int .i64 0))) := ((((HB2.out.setCell (Nat.le_refl _) _).setCell (Nat.le_refl _) _).setCell (Nat.le_refl _) _).setCell (Nat.le_refl _) _)
          have j0 : (w2.setCell ⟨w.heap.size, 0, none⟩ (.int .i64 0)).cell? ⟨w.heap.size, 0, none⟩ = some (.int .i64 0) := HZ0.out.cell 0
          have j1 : ((w2.setCell ⟨w.heap.size, 0, none⟩ (.int .i64 0)).setCell ⟨w.heap.size, 1, none⟩ (.int .i64 0)).cell? ⟨w.heap.size, 1, none⟩ = some (.int .i64 0) := HZ1.out.cell 1
          have j2 : (((w2.setCell ⟨w.heap.size, 0, none⟩ (.int .i64 0)).setCell ⟨w.heap.size, 1, none⟩ (.int .i64 0)).setCell ⟨w.heap.size, 2, none⟩ (.int .i64 0)).cell? ⟨w.heap.size, 2, none⟩ = some (.int .i64 0) := HZ2.out.cell 2
          have j3 : ((((w2.setCell ⟨w.heap.size, 0, none⟩ (.int .i64 0)).setCell ⟨w.heap.size, 1, none⟩ (.int .i64 0)).setCell ⟨w.heap.size, 2, none⟩ (.int .i64 0)).setCell ⟨w.heap.size, 3, none⟩ (.int .i64 0)).cell? ⟨w.heap.size, 3, none⟩ = some (.int .i64 0) := HZ3.out.cell 3
          have k0 : ((((w2.setCell ⟨w.heap.size, 0, none⟩ (.int .i64 0)).setCell ⟨w.heap.size, 1, none⟩ (.int .i64 0)).setCell ⟨w.heap.size, 2, none⟩ (.int .i64 0)).setCell ⟨w.heap.size, 3, none⟩ (.int .i64 0)).cell? ⟨w.heap.size, 0, none⟩ = some (.int .i64 0) := HZ3.out.cell 0
          have k1 : ((((w2.setCell ⟨w.heap.size, 0, none⟩ (.int .i64 0)).setCell ⟨w.heap.size, 1, none⟩ (.int .i64 0)).setCell ⟨w.heap.size, 2, none⟩ (.int .i64 0)).setCell ⟨w.heap.size, 3, none⟩ (.int .i64 0)).cell? ⟨w.heap.size, 1, none⟩ = some (.int .i64 0) := HZ3.out.cell 1
          have k2 : ((((w2.setCell ⟨w.heap.size, 0, none⟩ (.int .i64 0)).setCell ⟨w.heap.size, 1, none⟩ (.int .i64 0)).setCell ⟨w.heap.size, 2, none⟩ (.int .i64 0)).setCell ⟨w.heap.size, 3, none⟩ (.int .i64 0)).cell? ⟨w.heap.size, 2, none⟩ = some (.int .i64 0) := HZ3.out.cell 2
          have k3 : ((((w2.setCell ⟨w.heap.size, 0, none⟩ (.int .i64 0)).setCell ⟨w.heap.size, 1, none⟩ (.int .i64 0)).setCell ⟨w.heap.size, 2, none⟩ (.int .i64 0)).setCell ⟨w.heap.size, 3, none⟩ (.int .i64 0)).cell? ⟨w.heap.size, 3, none⟩ = some (.int .i64 0) := HZ3.out.cell 3
          go_wp2
          exact bodyPost_ret (v := .tuple #[.agg #[.int .i64 0, .int .i64 0, .int .i64 0, .int .i64 0], .bool false]) (by simp [results, Tryd.results65, go_sem, j0, j1, j2, j3, k0, k1, k2, k3]) rfl (RetSp.no HBC.out HNO.out)

      · have heb : (e5.toList == [108, 105, 102, 116]) = false := by have h0 := text_ne hli; rw [lift_list] at h0; exact h0
        have hep : ¬ e5.toList = [108, 105, 102, 116] := fun h => by rw [h] at heb; cases heb
        have HNO : Hid (∀ p, ¬ TkSp q.data.toList p) := fun p hp => by
          obtain ⟨a', d', l', x', y', k1, _⟩ := hp.w
          rw [HW5.out] at k1
          simp only [List.cons.injEq, and_true] at k1
          exact hli (bytes_eq k1.2.2.2.1)
        clear hli
        have c0 : w1.cell? ⟨w.heap.size, 0, none⟩ = some (.int .i64 0) := HP1.out.cell 0
        have f0 := HP1.out.frozen 0
        have c1 : w1.cell? ⟨w.heap.size, 1, none⟩ = some (.int .i64 0) := HP1.out.cell 1
        have f1 := HP1.out.frozen 1
        have c2 : w1.cell? ⟨w.heap.size, 2, none⟩ = some (.int .i64 0) := HP1.out.cell 2
        have f2 := HP1.out.frozen 2
        have c3 : w1.cell? ⟨w.heap.size, 3, none⟩ = some (.int .i64 0) := HP1.out.cell 3
        have f3 := HP1.out.frozen 3
        have HZ0 := Lib.hid (HP1.out.set_ 0 (.int .i64 0))
        have HZ1 := Lib.hid ((HP1.out.set_ 0 (.int .i64 0)).set_ 1 (.int .i64 0))
        have HZ2 := Lib.hid (((HP1.out.set_ 0 (.int .i64 0)).set_ 1 (.int .i64 0)).set_ 2 (.int .i64 0))
        have HZ3 := Lib.hid ((((HP1.out.set_ 0 (.int .i64 0)).set_ 1 (.int .i64 0)).set_ 2 (.int .i64 0)).set_ 3 (.int .i64 0))
        have HBC : Hid (Below w.heap.size w ((((w1.setCell ⟨w.heap.size, 0, none⟩ (.int .i64 0)).setCell ⟨w.heap.size, 1, none⟩ (.int .i64 0)).setCell ⟨w.heap.size, 2, none⟩ (.int .i64 0)).setCell ⟨w.heap.size, 3, none⟩ (.int .i64 0))) := ((((HB0.out.setCell (Nat.le_refl _) _).setCell (Nat.le_refl _) _).setCell (Nat.le_refl _) _).setCell (Nat.le_refl _) _)
        have j0 : (w1.setCell ⟨w.heap.size, 0, none⟩ (.int .i64 0)).cell? ⟨w.heap.size, 0, none⟩ = some (.int .i64 0) := HZ0.out.cell 0
        have j1 : ((w1.setCell ⟨w.heap.size, 0, none⟩ (.int .i64 0)).setCell ⟨w.heap.size, 1, none⟩ (.int .i64 0)).cell? ⟨w.heap.size, 1, none⟩ = some (.int .i64 0) := HZ1.out.cell 1
        have j2 : (((w1.setCell ⟨w.heap.size, 0, none⟩ (.int .i64 0)).setCell ⟨w.heap.size, 1, none⟩ (.int .i64 0)).setCell ⟨w.heap.size, 2, none⟩ (.int .i64 0)).cell? ⟨w.heap.size, 2, none⟩ = some (.int .i64 0) := HZ2.out.cell 2
        have j3 : ((((w1.setCell ⟨w.heap.size, 0, none⟩ (.int .i64 0)).setCell ⟨w.heap.size, 1, none⟩ (.int .i64 0)).setCell ⟨w.heap.size, 2, none⟩ (.int .i64 0)).setCell ⟨w.heap.size, 3, none⟩ (.int .i64 0)).cell? ⟨w.heap.size, 3, none⟩ = some (.int .i64 0) := HZ3.out.cell 3
        have k0 : ((((w1.setCell ⟨w.heap.size, 0, none⟩ (.int .i64 0)).setCell ⟨w.heap.size, 1, none⟩ (.int .i64 0)).setCell ⟨w.heap.size, 2, none⟩ (.int .i64 0)).setCell ⟨w.heap.size, 3, none⟩ (.int .i64 0)).cell? ⟨w.heap.size, 0, none⟩ = some (.int .i64 0) := HZ3.out.cell 0
        have k1 : ((((w1.setCell ⟨w.heap.size, 0, none⟩ (.int .i64 0)).setCell ⟨w.heap.size, 1, none⟩ (.int .i64 0)).setCell ⟨w.heap.size, 2, none⟩ (.int .i64 0)).setCell ⟨w.heap.size, 3, none⟩ (.int .i64 0)).cell? ⟨w.heap.size, 1, none⟩ = some (.int .i64 0) := HZ3.out.cell 1
        have k2 : ((((w1.setCell ⟨w.heap.size, 0, none⟩ (.int .i64 0)).setCell ⟨w.heap.size, 1, none⟩ (.int .i64 0)).setCell ⟨w.heap.size, 2, none⟩ (.int .i64 0)).setCell ⟨w.heap.size, 3, none⟩ (.int .i64 0)).cell? ⟨w.heap.size, 2, none⟩ = some (.int .i64 0) := HZ3.out.cell 2
        have k3 : ((((w1.setCell ⟨w.heap.size, 0, none⟩ (.int .i64 0)).setCell ⟨w.heap.size, 1, none⟩ (.int .i64 0)).setCell ⟨w.heap.size, 2, none⟩ (.int .i64 0)).setCell ⟨w.heap.size, 3, none⟩ (.int .i64 0)).cell? ⟨w.heap.size, 3, none⟩ = some (.int .i64 0) := HZ3.out.cell 3
        go_wp2
        exact bodyPost_ret (v := .tuple #[.agg #[.int .i64 0, .int .i64 0, .int .i64 0, .int .i64 0], .bool false]) (by simp [results, Tryd.results65, go_sem, j0, j1, j2, j3, k0, k1, k2, k3]) rfl (RetSp.no HBC.out HNO.out)

    · have hcb : (c.toList == [99, 114, 97, 110, 101]) = false := by have h0 := text_ne hcr; rw [crane_list] at h0; exact h0
      have hcp : ¬ c.toList = [99, 114, 97, 110, 101] := fun h => by rw [h] at hcb; cases hcb
      have HNO : Hid (∀ p, ¬ TkSp q.data.toList p) := fun p hp => by
        obtain ⟨a', d', l', x', y', k1, _⟩ := hp.w
        rw [HW5.out] at k1
        simp only [List.cons.injEq, and_true] at k1
        exact hcr (bytes_eq k1.2.1)
      clear hcr
      have c0 : w1.cell? ⟨w.heap.size, 0, none⟩ = some (.int .i64 0) := HP1.out.cell 0
      have f0 := HP1.out.frozen 0
      have c1 : w1.cell? ⟨w.heap.size, 1, none⟩ = some (.int .i64 0) := HP1.out.cell 1
      have f1 := HP1.out.frozen 1
      have c2 : w1.cell? ⟨w.heap.size, 2, none⟩ = some (.int .i64 0) := HP1.out.cell 2
      have f2 := HP1.out.frozen 2
      have c3 : w1.cell? ⟨w.heap.size, 3, none⟩ = some (.int .i64 0) := HP1.out.cell 3
      have f3 := HP1.out.frozen 3
      have HZ0 := Lib.hid (HP1.out.set_ 0 (.int .i64 0))
      have HZ1 := Lib.hid ((HP1.out.set_ 0 (.int .i64 0)).set_ 1 (.int .i64 0))
      have HZ2 := Lib.hid (((HP1.out.set_ 0 (.int .i64 0)).set_ 1 (.int .i64 0)).set_ 2 (.int .i64 0))
      have HZ3 := Lib.hid ((((HP1.out.set_ 0 (.int .i64 0)).set_ 1 (.int .i64 0)).set_ 2 (.int .i64 0)).set_ 3 (.int .i64 0))
      have HBC : Hid (Below w.heap.size w ((((w1.setCell ⟨w.heap.size, 0, none⟩ (.int .i64 0)).setCell ⟨w.heap.size, 1, none⟩ (.int .i64 0)).setCell ⟨w.heap.size, 2, none⟩ (.int .i64 0)).setCell ⟨w.heap.size, 3, none⟩ (.int .i64 0))) := ((((HB0.out.setCell (Nat.le_refl _) _).setCell (Nat.le_refl _) _).setCell (Nat.le_refl _) _).setCell (Nat.le_refl _) _)
      have j0 : (w1.setCell ⟨w.heap.size, 0, none⟩ (.int .i64 0)).cell? ⟨w.heap.size, 0, none⟩ = some (.int .i64 0) := HZ0.out.cell 0
      have j1 : ((w1.setCell ⟨w.heap.size, 0, none⟩ (.int .i64 0)).setCell ⟨w.heap.size, 1, none⟩ (.int .i64 0)).cell? ⟨w.heap.size, 1, none⟩ = some (.int .i64 0) := HZ1.out.cell 1
      have j2 : (((w1.setCell ⟨w.heap.size, 0, none⟩ (.int .i64 0)).setCell ⟨w.heap.size, 1, none⟩ (.int .i64 0)).setCell ⟨w.heap.size, 2, none⟩ (.int .i64 0)).cell? ⟨w.heap.size, 2, none⟩ = some (.int .i64 0) := HZ2.out.cell 2
      have j3 : ((((w1.setCell ⟨w.heap.size, 0, none⟩ (.int .i64 0)).setCell ⟨w.heap.size, 1, none⟩ (.int .i64 0)).setCell ⟨w.heap.size, 2, none⟩ (.int .i64 0)).setCell ⟨w.heap.size, 3, none⟩ (.int .i64 0)).cell? ⟨w.heap.size, 3, none⟩ = some (.int .i64 0) := HZ3.out.cell 3
      have k0 : ((((w1.setCell ⟨w.heap.size, 0, none⟩ (.int .i64 0)).setCell ⟨w.heap.size, 1, none⟩ (.int .i64 0)).setCell ⟨w.heap.size, 2, none⟩ (.int .i64 0)).setCell ⟨w.heap.size, 3, none⟩ (.int .i64 0)).cell? ⟨w.heap.size, 0, none⟩ = some (.int .i64 0) := HZ3.out.cell 0
      have k1 : ((((w1.setCell ⟨w.heap.size, 0, none⟩ (.int .i64 0)).setCell ⟨w.heap.size, 1, none⟩ (.int .i64 0)).setCell ⟨w.heap.size, 2, none⟩ (.int .i64 0)).setCell ⟨w.heap.size, 3, none⟩ (.int .i64 0)).cell? ⟨w.heap.size, 1, none⟩ = some (.int .i64 0) := HZ3.out.cell 1
      have k2 : ((((w1.setCell ⟨w.heap.size, 0, none⟩ (.int .i64 0)).setCell ⟨w.heap.size, 1, none⟩ (.int .i64 0)).setCell ⟨w.heap.size, 2, none⟩ (.int .i64 0)).setCell ⟨w.heap.size, 3, none⟩ (.int .i64 0)).cell? ⟨w.heap.size, 2, none⟩ = some (.int .i64 0) := HZ3.out.cell 2
      have k3 : ((((w1.setCell ⟨w.heap.size, 0, none⟩ (.int .i64 0)).setCell ⟨w.heap.size, 1, none⟩ (.int .i64 0)).setCell ⟨w.heap.size, 2, none⟩ (.int .i64 0)).setCell ⟨w.heap.size, 3, none⟩ (.int .i64 0)).cell? ⟨w.heap.size, 3, none⟩ = some (.int .i64 0) := HZ3.out.cell 3
      go_wp2
      exact bodyPost_ret (v := .tuple #[.agg #[.int .i64 0, .int .i64 0, .int .i64 0, .int .i64 0], .bool false]) (by simp [results, Tryd.results65, go_sem, j0, j1, j2, j3, k0, k1, k2, k3]) rfl (RetSp.no HBC.out HNO.out)

  · have h5i : ((n : Int) != 5) = true := by rw [bne_iff_ne]; omega
    have HNO : Hid (∀ p, ¬ TkSp q.data.toList p) := fun p hp => by
      obtain ⟨a', d', l', x', y', k1, _⟩ := hp.w
      have := congrArg List.length (spl_list 32 q)
      rw [k1, List.length_map, ← HN.out] at this
      exact h5 this
    have c0 : w1.cell? ⟨w.heap.size, 0, none⟩ = some (.int .i64 0) := HP1.out.cell 0
    have f0 := HP1.out.frozen 0
    have c1 : w1.cell? ⟨w.heap.size, 1, none⟩ = some (.int .i64 0) := HP1.out.cell 1
    have f1 := HP1.out.frozen 1
    have c2 : w1.cell? ⟨w.heap.size, 2, none⟩ = some (.int .i64 0) := HP1.out.cell 2
    have f2 := HP1.out.frozen 2
    have c3 : w1.cell? ⟨w.heap.size, 3, none⟩ = some (.int .i64 0) := HP1.out.cell 3
    have f3 := HP1.out.frozen 3
    have HZ0 := Lib.hid (HP1.out.set_ 0 (.int .i64 0))
    have HZ1 := Lib.hid ((HP1.out.set_ 0 (.int .i64 0)).set_ 1 (.int .i64 0))
    have HZ2 := Lib.hid (((HP1.out.set_ 0 (.int .i64 0)).set_ 1 (.int .i64 0)).set_ 2 (.int .i64 0))
    have HZ3 := Lib.hid ((((HP1.out.set_ 0 (.int .i64 0)).set_ 1 (.int .i64 0)).set_ 2 (.int .i64 0)).set_ 3 (.int .i64 0))
    have HBC : Hid (Below w.heap.size w ((((w1.setCell ⟨w.heap.size, 0, none⟩ (.int .i64 0)).setCell ⟨w.heap.size, 1, none⟩ (.int .i64 0)).setCell ⟨w.heap.size, 2, none⟩ (.int .i64 0)).setCell ⟨w.heap.size, 3, none⟩ (.int .i64 0))) := ((((HB0.out.setCell (Nat.le_refl _) _).setCell (Nat.le_refl _) _).setCell (Nat.le_refl _) _).setCell (Nat.le_refl _) _)
    have j0 : (w1.setCell ⟨w.heap.size, 0, none⟩ (.int .i64 0)).cell? ⟨w.heap.size, 0, none⟩ = some (.int .i64 0) := HZ0.out.cell 0
    have j1 : ((w1.setCell ⟨w.heap.size, 0, none⟩ (.int .i64 0)).setCell ⟨w.heap.size, 1, none⟩ (.int .i64 0)).cell? ⟨w.heap.size, 1, none⟩ = some (.int .i64 0) := HZ1.out.cell 1
    have j2 : (((w1.setCell ⟨w.heap.size, 0, none⟩ (.int .i64 0)).setCell ⟨w.heap.size, 1, none⟩ (.int .i64 0)).setCell ⟨w.heap.size, 2, none⟩ (.int .i64 0)).cell? ⟨w.heap.size, 2, none⟩ = some (.int .i64 0) := HZ2.out.cell 2
    have j3 : ((((w1.setCell ⟨w.heap.size, 0, none⟩ (.int .i64 0)).setCell ⟨w.heap.size, 1, none⟩ (.int .i64 0)).setCell ⟨w.heap.size, 2, none⟩ (.int .i64 0)).setCell ⟨w.heap.size, 3, none⟩ (.int .i64 0)).cell? ⟨w.heap.size, 3, none⟩ = some (.int .i64 0) := HZ3.out.cell 3
    have k0 : ((((w1.setCell ⟨w.heap.size, 0, none⟩ (.int .i64 0)).setCell ⟨w.heap.size, 1, none⟩ (.int .i64 0)).setCell ⟨w.heap.size, 2, none⟩ (.int .i64 0)).setCell ⟨w.heap.size, 3, none⟩ (.int .i64 0)).cell? ⟨w.heap.size, 0, none⟩ = some (.int .i64 0) := HZ3.out.cell 0
    have k1 : ((((w1.setCell ⟨w.heap.size, 0, none⟩ (.int .i64 0)).setCell ⟨w.heap.size, 1, none⟩ (.int .i64 0)).setCell ⟨w.heap.size, 2, none⟩ (.int .i64 0)).setCell ⟨w.heap.size, 3, none⟩ (.int .i64 0)).cell? ⟨w.heap.size, 1, none⟩ = some (.int .i64 0) := HZ3.out.cell 1
    have k2 : ((((w1.setCell ⟨w.heap.size, 0, none⟩ (.int .i64 0)).setCell ⟨w.heap.size, 1, none⟩ (.int .i64 0)).setCell ⟨w.heap.size, 2, none⟩ (.int .i64 0)).setCell ⟨w.heap.size, 3, none⟩ (.int .i64 0)).cell? ⟨w.heap.size, 2, none⟩ = some (.int .i64 0) := HZ3.out.cell 2
    have k3 : ((((w1.setCell ⟨w.heap.size, 0, none⟩ (.int .i64 0)).setCell ⟨w.heap.size, 1, none⟩ (.int .i64 0)).setCell ⟨w.heap.size, 2, none⟩ (.int .i64 0)).setCell ⟨w.heap.size, 3, none⟩ (.int .i64 0)).cell? ⟨w.heap.size, 3, none⟩ = some (.int .i64 0) := HZ3.out.cell 3
    go_wp2
    exact bodyPost_ret (v := .tuple #[.agg #[.int .i64 0, .int .i64 0, .int .i64 0, .int .i64 0], .bool false]) (by simp [results, Tryd.results65, go_sem, j0, j1, j2, j3, k0, k1, k2, k3]) rfl (RetSp.no HBC.out HNO.out)

end Go.Proofs.YtkegncanmfmmmaaDoor
