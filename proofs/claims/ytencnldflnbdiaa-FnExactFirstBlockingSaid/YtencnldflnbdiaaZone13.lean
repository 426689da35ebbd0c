/- meets and LineMeetsZone of the program. -/
import Derived.Test.YtencnldflnbdiaaZone12
import Derived.Test.YtencnldflnbdiaaZone6
namespace Go.Proofs.Ytencnldflnbdiaa
open Go.RowKit Go.Sort
set_option linter.unusedVariables false

theorem fb_low {m r : Nat → Int} {n : Nat} (h : ∀ j, j < n → (-800000000 ≤ m j ∧ m j ≤ 800000000) ∧ (-800000000 ≤ r j ∧ r j ≤ 800000000)) {k : Nat} (hk : k ≤ n) : FB (lowTo m r k) := by
  rcases low_is (m := m) (r := r) k with e | ⟨j, hj, h1, h2, e⟩ <;> rw [e]
  · exact ⟨by decide, by decide, by decide, by decide⟩
  · have := h j (by omega)
    exact ⟨by show 0 ≤ -m j; omega, by show -m j ≤ _; omega, by show 0 < r j - m j; omega, by show r j - m j ≤ _; omega⟩
theorem fb_high {m r : Nat → Int} {n : Nat} (h : ∀ j, j < n → (-800000000 ≤ m j ∧ m j ≤ 800000000) ∧ (-800000000 ≤ r j ∧ r j ≤ 800000000)) {k : Nat} (hk : k ≤ n) : FB (highTo m r k) := by
  rcases high_is (m := m) (r := r) k with e | ⟨j, hj, h1, h2, e⟩ <;> rw [e]
  · exact ⟨by decide, by decide, by decide, by decide⟩
  · have := h j (by omega)
    exact ⟨by show 0 ≤ m j; omega, by show m j ≤ _; omega, by show 0 < m j - r j; omega, by show m j - r j ≤ _; omega⟩
theorem sdN_small {cs : List Pnt} {n k : Nat} {p : Pnt} (hl : cs.length = n) (hok : cornersTo cs n = true) (hk : k < n) (hp : plcB p.x p.y = true) : -800000000 ≤ sdN cs k p ∧ sdN cs k p ≤ 800000000 := by
  unfold sdN
  rw [hl]
  have := crs_small (cornersTo_at hok hk) (cornersTo_at hok (nx_lt (n := n) (k := k) (by omega))) hp
  exact ⟨this.1, this.2.1⟩
set_option maxRecDepth 100000 in
set_option maxHeartbeats 3200000 in
theorem meets_any (z : Zone) (p q : Pnt) (w : World) (lo : Nat) (h : Arr Pnt.cs 2 w lo w.heap.size z.r.a z.r.n z.r.xs) (hn : z.r.n ≤ 1048576) (hok : cornersTo z.r.xs z.r.n = true) (hp : plcB p.x p.y = true) (hq : plcB q.x q.y = true) :
    Calls Try.prog 55 #[.agg #[.int .i64 z.v.kind, .int .i64 z.v.storeys, .int .i64 z.v.each, .slice z.r.a z.r.n z.r.cap], .agg #[.int .i64 p.x, .int .i64 p.y], .agg #[.int .i64 q.x, .int .i64 q.y]] w fun e w' => e = .returned (.bool (clipB z.r.xs p q)) ∧ Below w.heap.size w w' := by
  have HL : Hid (z.r.xs.length = z.r.n) := h.1
  obtain ⟨W, hW⟩ : ∃ W : World, W = ((((w.alloc (.cells #[.int .i64 z.v.kind, .int .i64 z.v.storeys, .int .i64 z.v.each, .slice z.r.a z.r.n z.r.cap] 48)).alloc (.cells #[.int .i64 p.x, .int .i64 p.y] 50)).alloc (.cells #[.int .i64 q.x, .int .i64 q.y] 50)).alloc (.cells #[.int .i64 0, .int .i64 1] 132)).alloc (.cells #[.int .i64 1, .int .i64 1] 132) := ⟨_, rfl⟩
  have B0 : Below w.heap.size w W := by rw [hW]; exact (((((Below.refl _ _).alloc (Nat.le_refl _) _).alloc (by simp) _).alloc (by simp; omega) _).alloc (by simp; omega) _).alloc (by simp; omega) _
  have Z0 : Blk W w.heap.size 48 #[.int .i64 z.v.kind, .int .i64 z.v.storeys, .int .i64 z.v.each, .slice z.r.a z.r.n z.r.cap] := by rw [hW]; exact ((((Blk.new _ _ _).alloc _).alloc _).alloc _).alloc _
  have C0 : CI (w.heap.size + 1) (w.heap.size + 1 + 1) (w.heap.size + 1 + 1 + 1) p q (0, 1) (1, 1) W := by
    rw [hW]
    exact ⟨(((Blk.new_at rfl (by simp)).alloc _).alloc _).alloc _, ((Blk.new_at rfl (by simp)).alloc _).alloc _, (Blk.new_at rfl (by simp)).alloc _, Blk.new_at rfl (by simp)⟩
  have HC0 := Lib.hid C0
  have HB0 := Lib.hid B0
  have HZ0 := Lib.hid Z0
  have hbd : ∀ j, j < z.r.n → (-800000000 ≤ sdN z.r.xs j p ∧ sdN z.r.xs j p ≤ 800000000) ∧ (-800000000 ≤ sdN z.r.xs j q ∧ sdN z.r.xs j q ≤ 800000000) := fun j hj => ⟨sdN_small h.1 hok hj hp, sdN_small h.1 hok hj hq⟩
  have HBD := Lib.hid hbd
  have HS := Lib.hid (sidesMeets_any z (w.heap.size + 1) (w.heap.size + 1 + 1) (w.heap.size + 1 + 1 + 1) p q (fun k => (lowTo (fun k => sdN z.r.xs k p) (fun k => sdN z.r.xs k q) k, highTo (fun k => sdN z.r.xs k p) (fun k => sdN z.r.xs k q) k)) (fun j => sdN z.r.xs j p < 0 ∧ sdN z.r.xs j q < 0) W lo ((h.below B0).more (by omega)) hn C0 (fun k X hk hX => by
    have h9 := clip1_any (w.heap.size + 1) (w.heap.size + 1 + 1) (w.heap.size + 1 + 1 + 1) k (pt z.r.xs k) (pt z.r.xs (nxN z.r.n k)) p q _ _ X hX (by omega) (by omega) (cornersTo_at hok hk) (cornersTo_at hok (nx_lt (by omega))) hp hq (fb_low hbd (Nat.le_of_lt hk)) (fb_high hbd (Nat.le_of_lt hk))
    have e1 : crs (pt z.r.xs k) (pt z.r.xs (nxN z.r.n k)) p = sdN z.r.xs k p := by unfold sdN; rw [h.1]
    have e2 : crs (pt z.r.xs k) (pt z.r.xs (nxN z.r.n k)) q = sdN z.r.xs k q := by unfold sdN; rw [h.1]
    rw [e1, e2] at h9
    exact h9))
  have HCL : Hid (clipB z.r.xs p q = (allTo (fun j => !(decide (sdN z.r.xs j p < 0) && decide (sdN z.r.xs j q < 0))) z.r.n && decide ((lowTo (fun k => sdN z.r.xs k p) (fun k => sdN z.r.xs k q) z.r.n).1 * (highTo (fun k => sdN z.r.xs k p) (fun k => sdN z.r.xs k q) z.r.n).2 ≤ (highTo (fun k => sdN z.r.xs k p) (fun k => sdN z.r.xs k q) z.r.n).1 * (lowTo (fun k => sdN z.r.xs k p) (fun k => sdN z.r.xs k q) z.r.n).2))) := by show _ = _; unfold clipB; rw [h.1]
  have HFL := Lib.hid (fb_low hbd (Nat.le_refl _))
  have HFH := Lib.hid (fb_high hbd (Nat.le_refl _))
  have HAT : Hid ((∀ j, j < z.r.n → ¬ (sdN z.r.xs j p < 0 ∧ sdN z.r.xs j q < 0)) → allTo (fun j => !(decide (sdN z.r.xs j p < 0) && decide (sdN z.r.xs j q < 0))) z.r.n = true) := fun h9 => allTo_iff.2 fun j hj => by
    have := h9 j hj
    rw [Bool.not_eq_true', Bool.eq_false_iff]
    intro h8
    rw [Bool.and_eq_true, decide_eq_true_eq, decide_eq_true_eq] at h8
    exact this h8
  have HAF : Hid ((∃ j, j < z.r.n ∧ (sdN z.r.xs j p < 0 ∧ sdN z.r.xs j q < 0)) → allTo (fun j => !(decide (sdN z.r.xs j p < 0) && decide (sdN z.r.xs j q < 0))) z.r.n = false) := fun ⟨j, hj, h1, h2⟩ => allTo_bad hj (by rw [decide_eq_true h1, decide_eq_true h2]; rfl)
  generalize allTo (fun j => !(decide (sdN z.r.xs j p < 0) && decide (sdN z.r.xs j q < 0))) z.r.n = AT at *
  unfold SidesEnd at HS
  dsimp only at HS
  generalize lowTo (fun k => sdN z.r.xs k p) (fun k => sdN z.r.xs k q) z.r.n = L at *
  generalize highTo (fun k => sdN z.r.xs k p) (fun k => sdN z.r.xs k q) z.r.n = H at *
  clear h hok hp hq B0 Z0 C0 hbd
  have z0 : W.cell? ⟨w.heap.size, 0, none⟩ = some (.int .i64 z.v.kind) := (HZ0.out.cell 0).trans rfl
  have z1 : W.cell? ⟨w.heap.size, 1, none⟩ = some (.int .i64 z.v.storeys) := (HZ0.out.cell 1).trans rfl
  have z2 : W.cell? ⟨w.heap.size, 2, none⟩ = some (.int .i64 z.v.each) := (HZ0.out.cell 2).trans rfl
  have z3 : W.cell? ⟨w.heap.size, 3, none⟩ = some (.slice z.r.a z.r.n z.r.cap) := (HZ0.out.cell 3).trans rfl
  go_enter Try.func55, Try.ntmps55
  go_wp2_with fail
  rw [← hW]
  clear hW z0 z1 z2 z3
  refine HS.out.mono ?_
  rintro e w1 ⟨hw1, ⟨rfl, hnb, hc⟩ | ⟨rfl, hbad⟩⟩
  · have HE : Hid (clipB z.r.xs p q = decide (L.1 * H.2 ≤ H.1 * L.2)) := by show _ = _; rw [HCL.out, HAT.out hnb]; rfl
    have HB1 : Hid (Below w.heap.size w w1) := Below.within HB0.out hw1 (by omega) HB0.out.size
    obtain ⟨l0, l1⟩ := Pnt.blk hc.ll
    obtain ⟨g0, g1⟩ := Pnt.blk hc.hh
    obtain ⟨m1, m2⟩ := HFL.out.mul HFH.out
    obtain ⟨m3, m4⟩ := HFH.out.mul HFL.out
    clear hw1 hnb hc HS
    go_wp2
    go_ret
    exact ⟨by rw [HE.out]; rfl, HB1.out⟩
  · have HE : Hid (clipB z.r.xs p q = false) := by show _ = _; rw [HCL.out, HAF.out hbad]; rfl
    have HB1 : Hid (Below w.heap.size w w1) := Below.within HB0.out hw1 (by omega) HB0.out.size
    clear hw1 hbad HS
    go_wp2
    go_ret
    exact ⟨by rw [HE.out]; rfl, HB1.out⟩
set_option maxRecDepth 100000 in
set_option maxHeartbeats 6400000 in
theorem lineMeetsZone_any (z : Zone) (p q : Pnt) (w : World) (lo : Nat) (h : Arr Pnt.cs 2 w lo w.heap.size z.r.a z.r.n z.r.xs) (hn : z.r.n ≤ 1048576) :
    Calls Try.prog 20 #[.agg #[.int .i64 z.v.kind, .int .i64 z.v.storeys, .int .i64 z.v.each, .slice z.r.a z.r.n z.r.cap], .agg #[.int .i64 p.x, .int .i64 p.y], .agg #[.int .i64 q.x, .int .i64 q.y]] w (LM z.val p q w) := by
  obtain ⟨W, hW⟩ : ∃ W : World, W = ((w.alloc (.cells #[.int .i64 z.v.kind, .int .i64 z.v.storeys, .int .i64 z.v.each, .slice z.r.a z.r.n z.r.cap] 48)).alloc (.cells #[.int .i64 p.x, .int .i64 p.y] 50)).alloc (.cells #[.int .i64 q.x, .int .i64 q.y] 50) := ⟨_, rfl⟩
  have B0 : Below w.heap.size w W := by rw [hW]; exact (((Below.refl _ _).alloc (Nat.le_refl _) _).alloc (by simp) _).alloc (by simp; omega) _
  have Z0 : Blk W w.heap.size 48 #[.int .i64 z.v.kind, .int .i64 z.v.storeys, .int .i64 z.v.each, .slice z.r.a z.r.n z.r.cap] := by rw [hW]; exact ((Blk.new _ _ _).alloc _).alloc _
  have P0 : Blk W (w.heap.size + 1) 50 #[.int .i64 p.x, .int .i64 p.y] := by rw [hW]; exact (Blk.new_at rfl (by simp)).alloc _
  have P1 : Blk W (w.heap.size + 1 + 1) 50 #[.int .i64 q.x, .int .i64 q.y] := by rw [hW]; exact Blk.new_at rfl (by simp)
  have HZ0 := Lib.hid Z0
  have HP0 := Lib.hid P0
  have HP1 := Lib.hid P1
  have HB0 := Lib.hid B0
  have HA := Lib.hid ((h.below B0).more B0.size)
  have HLE := Lib.hid h.1
  have HOKZ := Lib.hid (fun (v : Bool) (hv : zoneOk z.val = v) => show Calls Try.prog 53 #[.agg #[.int .i64 z.v.kind, .int .i64 z.v.storeys, .int .i64 z.v.each, .slice z.r.a z.r.n z.r.cap]] W fun e w' => e = .returned (.bool v) ∧ Below W.heap.size W w' by subst hv; exact validZone_any z W lo HA.out hn)
  clear h B0 Z0 P0 P1
  go_enter Try.func20, Try.ntmps20
  go_wp2_with fail
  rw [← hW]
  clear hW
  cases hz : zoneOk z.val
  · have HE := Lib.hid (lm_no (z := z.val) (p := p) (q := q) (by rw [hz]; rfl))
    refine (HOKZ.out _ hz).mono ?_
    rintro e w1 ⟨rfl, hb1⟩
    go_wp2
    go_ret2
    exact ⟨by rw [HE.out.1, HE.out.2]; rfl, HB0.out.trans (hb1.mono HB0.out.size)⟩
  · refine (HOKZ.out _ hz).mono ?_
    rintro e w1 ⟨rfl, hb1⟩
    have HZV := Lib.hid hz
    have HP0' := Lib.hid (HP0.out.bel hb1)
    have HP1' := Lib.hid (HP1.out.bel hb1)
    obtain ⟨a0, a1⟩ := Pnt.blk HP0'.out
    have HB1 := Lib.hid (HB0.out.trans (hb1.mono HB0.out.size))
    have HBW := Lib.hid hb1
    clear hz hb1
    cases hp : plcB p.x p.y
    · have HE := Lib.hid (lm_no (z := z.val) (p := p) (q := q) (by rw [hp]; simp))
      have HV := Lib.hid hp
      clear hp
      go_wp2_with fail
      refine (ok5_eq (validPlace_any p.x p.y) _ HV.out).mono ?_
      rintro e w2 ⟨rfl, hb2⟩
      go_wp2
      go_ret2
      exact ⟨by rw [HE.out.1, HE.out.2]; rfl, HB1.out.trans (hb2.mono HB1.out.size)⟩
    · have HV := Lib.hid hp
      clear hp
      go_wp2_with fail
      refine (ok5_eq (validPlace_any p.x p.y) _ HV.out).mono ?_
      rintro e w2 ⟨rfl, hb2⟩
      have HB2 := Lib.hid (HB1.out.trans (hb2.mono HB1.out.size))
      have HBW2 := Lib.hid (bel2 HBW.out hb2)
      have HP0'' := Lib.hid (HP0'.out.bel hb2)
      have HP1'' := Lib.hid (HP1'.out.bel hb2)
      obtain ⟨b0, b1⟩ := Pnt.blk HP1''.out
      clear hb2 a0 a1
      cases hq : plcB q.x q.y
      · have HE := Lib.hid (lm_no (z := z.val) (p := p) (q := q) (by rw [hq]; simp))
        have HVQ := Lib.hid hq
        clear hq
        go_wp2_with fail
        refine (ok5_eq (validPlace_any q.x q.y) _ HVQ.out).mono ?_
        rintro e w3 ⟨rfl, hb3⟩
        go_wp2
        go_ret2
        exact ⟨by rw [HE.out.1, HE.out.2]; rfl, HB2.out.trans (hb3.mono HB2.out.size)⟩
      · have HE := Lib.hid (lm_yes HZV.out HV.out hq)
        have HVQ := Lib.hid hq
        clear hq
        go_wp2_with fail
        refine (ok5_eq (validPlace_any q.x q.y) _ HVQ.out).mono ?_
        rintro e w3 ⟨rfl, hb3⟩
        have HB3 := Lib.hid (HB2.out.trans (hb3.mono HB2.out.size))
        have HBW3 := Lib.hid (bel2 HBW2.out hb3)
        obtain ⟨a0, a1⟩ := Pnt.blk (HP0''.out.bel hb3)
        clear b0 b1
        obtain ⟨b0, b1⟩ := Pnt.blk (HP1''.out.bel hb3)
        have HZ3 := Lib.hid (HZ0.out.bel HBW3.out)
        have z0 : w3.cell? ⟨w.heap.size, 0, none⟩ = some (.int .i64 z.v.kind) := (HZ3.out.cell 0).trans rfl
        have z1 : w3.cell? ⟨w.heap.size, 1, none⟩ = some (.int .i64 z.v.storeys) := (HZ3.out.cell 1).trans rfl
        have z2 : w3.cell? ⟨w.heap.size, 2, none⟩ = some (.int .i64 z.v.each) := (HZ3.out.cell 2).trans rfl
        have z3 : w3.cell? ⟨w.heap.size, 3, none⟩ = some (.slice z.r.a z.r.n z.r.cap) := (HZ3.out.cell 3).trans rfl
        have HM : Hid (meetB z.val.2 p q = clipB z.r.xs p q) := (clip_meet (by have := HZV.out; unfold zoneOk at this; rw [Bool.and_eq_true] at this; exact this.2)).symm
        clear hb3
        go_wp2_with fail
        refine (meets_any z p q _ lo ((HA.out.below HBW3.out).more HBW3.out.size) hn (by have := zoneOk_corners HZV.out; rw [← HLE.out]; exact this) HV.out HVQ.out).mono ?_
        rintro e w4 ⟨rfl, hb4⟩
        go_wp2
        go_ret2
        exact ⟨by rw [HE.out.1, HE.out.2, HM.out]; rfl, HB3.out.trans (hb4.mono HB3.out.size)⟩
end Go.Proofs.Ytencnldflnbdiaa
