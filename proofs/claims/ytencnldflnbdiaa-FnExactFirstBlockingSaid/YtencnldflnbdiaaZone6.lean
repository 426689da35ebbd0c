/- l05Meets and LineMeetsZone of the reference. -/
import Derived.Test.YtencnldflnbdiaaZone5
namespace Go.Proofs.Ytencnldflnbdiaa
open Go.RowKit Go.Sort
set_option linter.unusedVariables false

theorem l05In_eq (b off : Nat) (z : Zone) (p : Pnt) (w : World) (lo : Nat) (hz : ZoneAt w b off z) (hb0 : b < w.heap.size) (h : Arr Pnt.cs 2 w lo w.heap.size z.r.a z.r.n z.r.xs) (hn : z.r.n ≤ 1048576) (hok : cornersTo z.r.xs z.r.n = true) (hp : plcB p.x p.y = true) {X : Int} (hX : inV z.r.xs p = X) :
    Calls Try.prog 81 #[.pointer (some ⟨b, off, none⟩), .agg #[.int .i64 p.x, .int .i64 p.y]] w fun e w' => e = .returned (.int .i64 X) ∧ Below w.heap.size w w' := by subst hX; exact l05In_any b off z p w lo hz hb0 h hn hok hp
theorem lines_eq (a b c d : Pnt) (w : World) (ha : plcB a.x a.y = true) (hb : plcB b.x b.y = true) (hc : plcB c.x c.y = true) (hd : plcB d.x d.y = true) {v : Bool} (h : linesB a b c d = v) :
    Calls Try.prog 82 #[.agg #[.int .i64 a.x, .int .i64 a.y], .agg #[.int .i64 b.x, .int .i64 b.y], .agg #[.int .i64 c.x, .int .i64 c.y], .agg #[.int .i64 d.x, .int .i64 d.y]] w fun e w' => e = .returned (.bool v) ∧ Below w.heap.size w w' := by subst h; exact l05Lines_any a b c d w ha hb hc hd
theorem line_step {cs : List Pnt} {p q : Pnt} {k : Nat} (h : noLine cs p q k = true) (h2 : linesB p q (pt cs k) (pt cs (nxN cs.length k)) = false) : noLine cs p q (k + 1) = true := allTo_step h (by rw [h2]; rfl)
theorem line_bad {cs : List Pnt} {p q : Pnt} {k n : Nat} (hk : k < n) (h2 : linesB p q (pt cs k) (pt cs (nxN cs.length k)) = true) : noLine cs p q n = false := allTo_bad hk (by rw [h2]; rfl)
theorem inV_nn (cs : List Pnt) (p : Pnt) : 0 ≤ inV cs p := by unfold inV outTo; split <;> (try split) <;> decide
set_option maxRecDepth 100000 in
set_option maxHeartbeats 6400000 in
theorem l05Meets_any (b off : Nat) (z : Zone) (p q : Pnt) (w : World) (lo : Nat) (hz : ZoneAt w b off z) (hb0 : b < w.heap.size) (h : Arr Pnt.cs 2 w lo w.heap.size z.r.a z.r.n z.r.xs) (hn : z.r.n ≤ 1048576) (hok : cornersTo z.r.xs z.r.n = true) (hp : plcB p.x p.y = true) (hq : plcB q.x q.y = true) :
    Calls Try.prog 51 #[.pointer (some ⟨b, off, none⟩), .agg #[.int .i64 p.x, .int .i64 p.y], .agg #[.int .i64 q.x, .int .i64 q.y]] w fun e w' => e = .returned (.bool (meetB z.r.xs p q)) ∧ Below w.heap.size w w' := by
  have HL : Hid (z.r.xs.length = z.r.n) := h.1
  have HM : Hid (meetB z.r.xs p q = (inTo z.r.xs p z.r.xs.length || (inTo z.r.xs q z.r.xs.length || !noLine z.r.xs p q z.r.n))) := by show _ = _; rw [← h.1]; rfl
  obtain ⟨W, hW⟩ : ∃ W : World, W = (w.alloc (.cells #[.int .i64 p.x, .int .i64 p.y] 50)).alloc (.cells #[.int .i64 q.x, .int .i64 q.y] 50) := ⟨_, rfl⟩
  have B0 : Below w.heap.size w W := by rw [hW]; exact ((Below.refl _ _).alloc (Nat.le_refl _) _).alloc (by simp) _
  have P0 : Blk W w.heap.size 50 #[.int .i64 p.x, .int .i64 p.y] := by rw [hW]; exact (Blk.new _ _ _).alloc _
  have P1 : Blk W (w.heap.size + 1) 50 #[.int .i64 q.x, .int .i64 q.y] := by rw [hW]; exact Blk.new_at rfl (by simp)
  have HS : Hid (w.heap.size + 1 < W.heap.size) := P1.lt
  have HP0 := Lib.hid P0
  have HP1 := Lib.hid P1
  have HZ := Lib.hid (hz.below B0 hb0)
  have HA := Lib.hid ((h.below B0).more B0.size)
  have HOK := Lib.hid hok
  have HP := Lib.hid hp
  have HQ := Lib.hid hq
  have HB0 := Lib.hid B0
  have hbW : b < W.heap.size := by have := B0.size; omega
  have i1 := inV_nn z.r.xs p
  have i2 := inV_nn z.r.xs q
  have HI1 := Lib.hid (fun W' X hX (hW : Below W.heap.size W W') => l05In_eq b off z p W' lo (HZ.out.below hW hbW) (by have := hW.size; omega) ((HA.out.below hW).more hW.size) hn hok hp (X := X) hX)
  have HI2 := Lib.hid (fun W' X hX (hW : Below W.heap.size W W') => l05In_eq b off z q W' lo (HZ.out.below hW hbW) (by have := hW.size; omega) ((HA.out.below hW).more hW.size) hn hok hq (X := X) hX)
  have J1 : Hid (decide (0 < inV z.r.xs p) = inTo z.r.xs p z.r.xs.length) := inV_pos
  have J2 : Hid (decide (0 < inV z.r.xs q) = inTo z.r.xs q z.r.xs.length) := inV_pos
  obtain ⟨v, ⟨A, n, c, cs⟩⟩ := z
  dsimp only at *
  obtain ⟨X, hX⟩ : ∃ X, inV cs p = X := ⟨_, rfl⟩
  obtain ⟨Y, hY⟩ : ∃ Y, inV cs q = Y := ⟨_, rfl⟩
  rw [hX] at i1 J1
  rw [hY] at i2 J2
  have HX := Lib.hid hX
  have HY := Lib.hid hY
  clear hz h hok hp hq B0 P0 P1 hX hY
  by_cases hx : 0 < X
  · have HE : Hid (meetB cs p q = true) := by show _ = _; rw [HM.out, ← J1.out, decide_eq_true hx]; rfl
    have C0 := Pnt.blk HP0.out
    have C1 := Pnt.blk HP1.out
    obtain ⟨a0, a1⟩ := C0
    obtain ⟨b0, b1⟩ := C1
    go_enter Try.func51, Try.ntmps51
    go_wp2_with fail
    rw [← hW]
    clear hW
    go_wp2_with fail
    refine (HI1.out _ X HX.out (Below.refl _ _)).mono ?_
    rintro e w1 ⟨rfl, hb1⟩
    go_wp2
    go_ret
    exact ⟨by rw [HE.out]; rfl, HB0.out.trans (hb1.mono HB0.out.size)⟩
  · by_cases hy : 0 < Y
    · have HE : Hid (meetB cs p q = true) := by show _ = _; rw [HM.out, ← J2.out, decide_eq_true hy]; simp
      have C0 := Pnt.blk HP0.out
      have C1 := Pnt.blk HP1.out
      obtain ⟨a0, a1⟩ := C0
      obtain ⟨b0, b1⟩ := C1
      go_enter Try.func51, Try.ntmps51
      go_wp2_with fail
      rw [← hW]
      clear hW
      go_wp2_with fail
      refine (HI1.out _ X HX.out (Below.refl _ _)).mono ?_
      rintro e w1 ⟨rfl, hb1⟩
      clear a0 a1 b0 b1
      obtain ⟨b0, b1⟩ := Pnt.blk (HP1.out.bel hb1)
      go_wp2_with fail
      refine (HI2.out _ Y HY.out hb1).mono ?_
      rintro e w2 ⟨rfl, hb2⟩
      go_wp2
      go_ret
      exact ⟨by rw [HE.out]; rfl, (HB0.out.trans (hb1.mono HB0.out.size)).trans (hb2.mono (by have := HB0.out.size; have := hb1.size; omega))⟩
    · have HMM : Hid (meetB cs p q = !noLine cs p q n) := by show _ = _; rw [HM.out, ← J1.out, ← J2.out, decide_eq_false hx, decide_eq_false hy]; rfl
      have C0 := Pnt.blk HP0.out
      have C1 := Pnt.blk HP1.out
      obtain ⟨a0, a1⟩ := C0
      obtain ⟨b0, b1⟩ := C1
      go_enter Try.func51, Try.ntmps51
      go_wp2_with fail
      rw [← hW]
      clear hW
      go_wp2_with fail
      refine (HI1.out _ X HX.out (Below.refl _ _)).mono ?_
      rintro e w1 ⟨rfl, hb1⟩
      clear a0 a1 b0 b1
      obtain ⟨b0, b1⟩ := Pnt.blk (HP1.out.bel hb1)
      go_wp2_with fail
      refine (HI2.out _ Y HY.out hb1).mono ?_
      rintro e w2 ⟨rfl, hb2⟩
      have HB2 : Hid (Below W.heap.size W w2) := bel2 hb1 hb2
      have hs2 := HB2.out.size
      clear b0 b1 hb1 hb2 HM J1 J2 HI1 HI2 HX HY
      go_wp2
      go_loopw [7] (fun v7 wr => ∃ k : Nat, k ≤ n ∧ v7 = .int .i64 k ∧ noLine cs p q k = true ∧ Below W.heap.size W wr) (fun v7 _ => n - (intOf v7).toNat)
      case atStart => exact ⟨0, Nat.zero_le _, rfl, rfl, HB2.out⟩
      case round =>
        obtain ⟨k, hk, rfl, ht, hb⟩ := hrel
        have HT := Lib.hid ht
        have HBB := Lib.hid (HB0.out.trans (hb.mono HB0.out.size))
        obtain ⟨c0, c1, c2, c3⟩ := HZ.out.below hb hbW
        dsimp only at c0 c1 c2 c3
        have HA2 := Lib.hid ((HA.out.below hb).more hb.size)
        obtain ⟨a0, a1⟩ := Pnt.blk (HP0.out.bel hb)
        obtain ⟨b0, b1⟩ := Pnt.blk (HP1.out.bel hb)
        clear ht
        by_cases hlt : k < n
        · have hk0 : (0 : Int) ≤ (k : Int) := by omega
          have hk1 : (k : Int) < (n : Int) := by omega
          obtain ⟨b', off', r, eA, hr, _, hbl, d0, d1⟩ := Pnt.at HA2.out hlt
          subst eA
          have HN := Lib.hid (fun d os => l05Next_any (some ⟨b', off', none⟩) n c k cs (grow (redrawn wr d) os) lo ((HA2.out.below (below_regrown wr d os)).more (below_regrown wr d os).size) hn hlt)
          have HPT : Hid (pt cs k = r) := pt_at hr
          have HST : Hid (linesB p q r (pt cs (nxN n k)) = false → noLine cs p q (k + 1) = true) := fun h9 => line_step HT.out (by rw [HPT.out, HL.out]; exact h9)
          have HBD : Hid (linesB p q r (pt cs (nxN n k)) = true → noLine cs p q n = false) := fun h9 => line_bad hlt (by rw [HPT.out, HL.out]; exact h9)
          have HLN : Hid (∀ W' {v : Bool}, linesB p q r (pt cs (nxN n k)) = v → Calls Try.prog 82 #[.agg #[.int .i64 p.x, .int .i64 p.y], .agg #[.int .i64 q.x, .int .i64 q.y], .agg #[.int .i64 r.x, .int .i64 r.y], .agg #[.int .i64 (pt cs (nxN n k)).x, .int .i64 (pt cs (nxN n k)).y]] W' fun e w' => e = .returned (.bool v) ∧ Below W'.heap.size W' w') := fun W' v hv =>
            lines_eq p q r (pt cs (nxN n k)) W' HP.out HQ.out (by have := cornersTo_at HOK.out hlt; rwa [HPT.out] at this) (cornersTo_at HOK.out (nx_lt (by omega))) hv
          have c3' := cell_regrown c3
          have a0' := cell_regrown a0
          have a1' := cell_regrown a1
          have b0' := cell_regrown b0
          have b1' := cell_regrown b1
          have d0' := cell_regrown d0
          have d1' := cell_regrown d1
          clear hr
          cases hv : linesB p q r (pt cs (nxN n k))
          · have HE2 : Hid (noLine cs p q (k + 1) = true) := HST.out hv
            have HV := Lib.hid hv
            clear hv
            go_wp2
            refine wp_region_quiet_below (by kernel_rfl) (by kernel_rfl) ?_
            repeat (go_big_quiet_step (first | (go_at_call 83; exact Calls.regrown_of (HN.out _ _)) | (go_at_call 82; exact Calls.regrown_of (HLN.out _ HV.out))))
            refine wpQuiet_nil ?_
            intro _ hw9
            obtain ⟨⟨dq, osq⟩, hw9⟩ := hw9
            subst hw9
            have hb5 := below_regrown wr dq osq
            dsimp only at hb5 ⊢
            generalize grow (redrawn wr dq) osq = w5 at hb5 ⊢
            go_wp2
            go_roundw
            case rel => exact ⟨k + 1, by omega, by go_num, HE2.out, hb.trans (hb5.mono hb.size)⟩
            case measure => simp [intOf]; omega
          · have HE : Hid (meetB cs p q = true) := by show _ = _; rw [HMM.out, HBD.out hv]; rfl
            have HV := Lib.hid hv
            clear hv
            go_wp2
            refine wp_region_quiet_below (by kernel_rfl) (by kernel_rfl) ?_
            repeat (go_big_quiet_step (first | (go_at_call 83; exact Calls.regrown_of (HN.out _ _)) | (go_at_call 82; exact Calls.regrown_of (HLN.out _ HV.out))))
            refine wpQuiet_nil ?_
            intro _ hw9
            obtain ⟨⟨dq, osq⟩, hw9⟩ := hw9
            subst hw9
            have hb5 := below_regrown wr dq osq
            dsimp only at hb5 ⊢
            generalize grow (redrawn wr dq) osq = w5 at hb5 ⊢
            go_wp2
            go_ret
            exact ⟨by rw [HE.out]; rfl, HBB.out.trans (hb5.mono HBB.out.size)⟩
        · obtain rfl : k = n := by omega
          have HE : Hid (meetB cs p q = false) := by show _ = _; rw [HMM.out, HT.out]; rfl
          go_wp2
          go_ret
          exact ⟨by rw [HE.out]; rfl, HBB.out⟩
theorem zoneOk_corners {z : ZV} (h : zoneOk z = true) : cornersTo z.2 z.2.length = true := (zoneOk_shape h).2.1
theorem ok5_eq {f : FuncId} {x y : Int} (h : ∀ W, Calls Try.prog f #[.agg #[.int .i64 x, .int .i64 y]] W fun e w' => e = .returned (.bool (plcB x y)) ∧ Below W.heap.size W w') (W : World) {v : Bool} (hv : plcB x y = v) : Calls Try.prog f #[.agg #[.int .i64 x, .int .i64 y]] W fun e w' => e = .returned (.bool v) ∧ Below W.heap.size W w' := by subst hv; exact h W
def LM (z : ZV) (p q : Pnt) (w : World) (e : Ending) (w' : World) : Prop := e = .returned (.tuple #[.bool (lmVal z p q), .int .i64 (lmCode z p q)]) ∧ Below w.heap.size w w'
theorem lm_no {z : ZV} {p q : Pnt} (h : (zoneOk z && (plcB p.x p.y && plcB q.x q.y)) = false) : lmVal z p q = false ∧ lmCode z p q = 1 := by unfold lmVal lmCode; rw [h]; exact ⟨rfl, rfl⟩
theorem lm_yes {z : ZV} {p q : Pnt} (h1 : zoneOk z = true) (h2 : plcB p.x p.y = true) (h3 : plcB q.x q.y = true) : lmVal z p q = meetB z.2 p q ∧ lmCode z p q = 0 := by unfold lmVal lmCode; rw [h1, h2, h3]; exact ⟨rfl, rfl⟩
set_option maxRecDepth 100000 in
set_option maxHeartbeats 6400000 in
theorem specLineMeetsZone_any (z : Zone) (p q : Pnt) (w : World) (lo : Nat) (h : Arr Pnt.cs 2 w lo w.heap.size z.r.a z.r.n z.r.xs) (hn : z.r.n ≤ 1048576) :
    Calls Try.prog 17 #[.agg #[.int .i64 z.v.kind, .int .i64 z.v.storeys, .int .i64 z.v.each, .slice z.r.a z.r.n z.r.cap], .agg #[.int .i64 p.x, .int .i64 p.y], .agg #[.int .i64 q.x, .int .i64 q.y]] w (LM z.val p q w) := by
  obtain ⟨W, hW⟩ : ∃ W : World, W = ((w.alloc (.cells #[.int .i64 z.v.kind, .int .i64 z.v.storeys, .int .i64 z.v.each, .slice z.r.a z.r.n z.r.cap] 48)).alloc (.cells #[.int .i64 p.x, .int .i64 p.y] 50)).alloc (.cells #[.int .i64 q.x, .int .i64 q.y] 50) := ⟨_, rfl⟩
  have B0 : Below w.heap.size w W := by rw [hW]; exact (((Below.refl _ _).alloc (Nat.le_refl _) _).alloc (by simp) _).alloc (by simp; omega) _
  have Z0 : Blk W w.heap.size 48 #[.int .i64 z.v.kind, .int .i64 z.v.storeys, .int .i64 z.v.each, .slice z.r.a z.r.n z.r.cap] := by rw [hW]; exact ((Blk.new _ _ _).alloc _).alloc _
  have P0 : Blk W (w.heap.size + 1) 50 #[.int .i64 p.x, .int .i64 p.y] := by rw [hW]; exact (Blk.new_at rfl (by simp)).alloc _
  have P1 : Blk W (w.heap.size + 1 + 1) 50 #[.int .i64 q.x, .int .i64 q.y] := by rw [hW]; exact Blk.new_at rfl (by simp)
  have HZ0 := Lib.hid Z0
  have HP0 := Lib.hid P0
  have HP1 := Lib.hid P1
  have HB0 := Lib.hid B0
  have HA := Lib.hid ((h.below B0).more B0.size)
  have HLE := Lib.hid h.1
  have HOKZ := Lib.hid (fun (v : Bool) (hv : zoneOk z.val = v) => show Calls Try.prog 49 #[.pointer (some ⟨w.heap.size, 0, none⟩)] W fun e w' => e = .returned (.bool v) ∧ Below W.heap.size W w' by subst hv; exact l05Ok_any w.heap.size 0 z W lo (ZoneAt.blk HZ0.out) Z0.lt HA.out hn)
  clear h B0 Z0 P0 P1
  go_enter Try.func17, Try.ntmps17
  go_wp2_with fail
  rw [← hW]
  clear hW
  cases hz : zoneOk z.val
  · have HE := Lib.hid (lm_no (z := z.val) (p := p) (q := q) (by rw [hz]; rfl))
    refine (HOKZ.out _ hz).mono ?_
    rintro e w1 ⟨rfl, hb1⟩
    go_wp2
    go_ret2
    exact ⟨by rw [HE.out.1, HE.out.2]; rfl, HB0.out.trans (hb1.mono HB0.out.size)⟩
  · refine (HOKZ.out _ hz).mono ?_
    rintro e w1 ⟨rfl, hb1⟩
    have HZV := Lib.hid hz
    have HP0' := Lib.hid (HP0.out.bel hb1)
    have HP1' := Lib.hid (HP1.out.bel hb1)
    obtain ⟨a0, a1⟩ := Pnt.blk HP0'.out
    have HB1 := Lib.hid (HB0.out.trans (hb1.mono HB0.out.size))
    have HBW := Lib.hid hb1
    clear hz hb1
    cases hp : plcB p.x p.y
    · have HE := Lib.hid (lm_no (z := z.val) (p := p) (q := q) (by rw [hp]; simp))
      have HV := Lib.hid hp
      clear hp
      go_wp2_with fail
      refine (ok5_eq (l02Ok_any p.x p.y) _ HV.out).mono ?_
      rintro e w2 ⟨rfl, hb2⟩
      go_wp2
      go_ret2
      exact ⟨by rw [HE.out.1, HE.out.2]; rfl, HB1.out.trans (hb2.mono HB1.out.size)⟩
    · have HV := Lib.hid hp
      clear hp
      go_wp2_with fail
      refine (ok5_eq (l02Ok_any p.x p.y) _ HV.out).mono ?_
      rintro e w2 ⟨rfl, hb2⟩
      have HB2 := Lib.hid (HB1.out.trans (hb2.mono HB1.out.size))
      have HBW2 := Lib.hid (bel2 HBW.out hb2)
      have HP0'' := Lib.hid (HP0'.out.bel hb2)
      have HP1'' := Lib.hid (HP1'.out.bel hb2)
      obtain ⟨b0, b1⟩ := Pnt.blk HP1''.out
      clear hb2 a0 a1
      cases hq : plcB q.x q.y
      · have HE := Lib.hid (lm_no (z := z.val) (p := p) (q := q) (by rw [hq]; simp))
        have HVQ := Lib.hid hq
        clear hq
        go_wp2_with fail
        refine (ok5_eq (l02Ok_any q.x q.y) _ HVQ.out).mono ?_
        rintro e w3 ⟨rfl, hb3⟩
        go_wp2
        go_ret2
        exact ⟨by rw [HE.out.1, HE.out.2]; rfl, HB2.out.trans (hb3.mono HB2.out.size)⟩
      · have HE := Lib.hid (lm_yes HZV.out HV.out hq)
        have HVQ := Lib.hid hq
        clear hq
        go_wp2_with fail
        refine (ok5_eq (l02Ok_any q.x q.y) _ HVQ.out).mono ?_
        rintro e w3 ⟨rfl, hb3⟩
        have HB3 := Lib.hid (HB2.out.trans (hb3.mono HB2.out.size))
        have HBW3 := Lib.hid (bel2 HBW2.out hb3)
        obtain ⟨a0, a1⟩ := Pnt.blk (HP0''.out.bel hb3)
        clear b0 b1
        obtain ⟨b0, b1⟩ := Pnt.blk (HP1''.out.bel hb3)
        have HZ3 := Lib.hid (HZ0.out.bel HBW3.out)
        clear hb3
        go_wp2_with fail
        refine (l05Meets_any w.heap.size 0 z p q _ lo (ZoneAt.blk HZ3.out) HZ3.out.lt ((HA.out.below HBW3.out).more HBW3.out.size) hn (by have := zoneOk_corners HZV.out; rw [← HLE.out]; exact this) HV.out HVQ.out).mono ?_
        rintro e w4 ⟨rfl, hb4⟩
        go_wp2
        go_ret2
        exact ⟨by rw [HE.out.1, HE.out.2]; rfl, HB3.out.trans (hb4.mono HB3.out.size)⟩
end Go.Proofs.Ytencnldflnbdiaa
