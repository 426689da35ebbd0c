/- Made by merge.py of XZone3, XZone4, XZone5, XZone6. -/
import Derived.Test.YtdhobglhjdgboaaDoorZone2
/- XZone3: l05Ok of the reference: zoneOk. -/
namespace Go.Proofs.YtdhobglhjdgboaaDoor
open Go.RowKit Go.Sort
set_option linter.unusedVariables false

/-- a zone lies at that place -/
structure ZoneAt (w : World) (b off : Nat) (z : Zone) : Prop where
  c0 : w.cell? ⟨b, off, none⟩ = some (.int .i64 z.v.kind)
  c1 : w.cell? ⟨b, off + 1, none⟩ = some (.int .i64 z.v.storeys)
  c2 : w.cell? ⟨b, off + 2, none⟩ = some (.int .i64 z.v.each)
  c3 : w.cell? ⟨b, off + 3, none⟩ = some (.slice z.r.a z.r.n z.r.cap)
theorem ZoneAt.below {w w' : World} {b off B : Nat} {z : Zone} (h : ZoneAt w b off z) (hb : Below B w w') (hB : b < B) : ZoneAt w' b off z :=
  ⟨(hb.cell (p := ⟨b, off, none⟩) hB).trans h.c0, (hb.cell (p := ⟨b, off + 1, none⟩) hB).trans h.c1, (hb.cell (p := ⟨b, off + 2, none⟩) hB).trans h.c2, (hb.cell (p := ⟨b, off + 3, none⟩) hB).trans h.c3⟩
theorem ZoneAt.blk {w : World} {g : Nat} {t : TypeId} {z : Zone} (h : Blk w g t #[.int .i64 z.v.kind, .int .i64 z.v.storeys, .int .i64 z.v.each, .slice z.r.a z.r.n z.r.cap]) : ZoneAt w g 0 z := ⟨h.cell 0, h.cell 1, h.cell 2, h.cell 3⟩
theorem corner_step {cs : List Pnt} {k : Nat} {p : Pnt} (h : cornersTo cs k = true) (hp : cs[k]? = some p) (h2 : plcB p.x p.y = true) : cornersTo cs (k + 1) = true := allTo_step h (by rw [pt_at hp]; exact h2)
theorem corner_bad {cs : List Pnt} {k n : Nat} {p : Pnt} (hk : k < n) (hp : cs[k]? = some p) (h2 : plcB p.x p.y = false) : cornersTo cs n = false := allTo_bad hk (by rw [pt_at hp]; exact h2)
theorem shape_no {cs : List Pnt} (h : inB cs.length 3 12 = false) : shapeB cs = false := by unfold shapeB; rw [h]; rfl
theorem zone_no {z : ZV} (h : shapeB z.2 = false) : zoneOk z = false := by unfold zoneOk; rw [h, Bool.and_false]
theorem zHd_kind {v : ZoneV} (h : inB v.kind 1 3 = false) : zHd v = false := by
  rw [inB_false] at h
  unfold zHd
  rw [if_neg (by omega), decide_eq_false (by omega), decide_eq_false (by omega)]; rfl
set_option maxRecDepth 100000 in
set_option maxHeartbeats 6400000 in
theorem l05Ok_any (b off : Nat) (z : Zone) (w : World) (lo : Nat) (hz : ZoneAt w b off z) (hb0 : b < w.heap.size) (h : Arr Pnt.cs 2 w lo w.heap.size z.r.a z.r.n z.r.xs) (hn : z.r.n ≤ 1048576) :
    Calls Tryd.prog 160 #[.pointer (some ⟨b, off, none⟩)] w fun e w' => e = .returned (.bool (zoneOk z.val)) ∧ Below w.heap.size w w' := by
  have HO : Hid (zoneOk z.val = (zHd z.v && shapeB z.r.xs)) := rfl
  have HS : Hid (shapeB z.r.xs = (inB z.r.n 3 12 && (cornersTo z.r.xs z.r.n && turnsTo z.r.xs z.r.xs.length))) := by show _ = _; unfold shapeB; rw [h.1]
  have HKN : Hid (inB z.v.kind 1 3 = false → zHd z.v = false) := zHd_kind
  have HHD : Hid (zHd z.v = if z.v.kind = 1 then bldB z.v else (decide (z.v.kind = 2) || decide (z.v.kind = 3)) && nilB z.v) := rfl
  have HBL : Hid (bldB z.v = (inB z.v.storeys 1 60 && (inB z.v.each 20 60 && decide (z.v.storeys * z.v.each ≤ 2000)))) := rfl
  have HNL : Hid (nilB z.v = (decide (z.v.storeys = 0) && decide (z.v.each = 0))) := rfl
  obtain ⟨⟨kind, storeys, each⟩, ⟨A, n, c, cs⟩⟩ := z
  dsimp only at *
  have HZ := Lib.hid hz
  have HA := Lib.hid h
  obtain ⟨c0, c1, c2, c3⟩ := hz
  dsimp only at c0 c1 c2 c3
  clear h
  cases hk : inB kind 1 3
  · have HE : Hid (zoneOk (Zone.val ⟨⟨kind, storeys, each⟩, ⟨A, n, c, cs⟩⟩) = false) := by show _ = _; rw [HO.out, HKN.out hk]; rfl
    go_enter Tryd.func160, Tryd.ntmps160
    go_wp2_with (go_at_call 146; refine (in5_eq _ _ _ _ (by assumption)).mono ?_; rintro e w1 ⟨rfl, rfl⟩)
    go_ret
    exact ⟨by rw [HE.out]; rfl, Below.refl _ _⟩
  · cases hl : inB (n : Int) 3 12
    · have HE : Hid (zoneOk (Zone.val ⟨⟨kind, storeys, each⟩, ⟨A, n, c, cs⟩⟩) = false) := by show _ = _; rw [HO.out, HS.out, hl]; simp
      go_enter Tryd.func160, Tryd.ntmps160
      go_wp2_with (go_at_call 146; refine (in5_eq _ _ _ _ (by assumption)).mono ?_; rintro e w1 ⟨rfl, rfl⟩)
      go_ret
      exact ⟨by rw [HE.out]; rfl, Below.refl _ _⟩
    · have HLN : Hid (3 ≤ n ∧ n ≤ 12) := by have := inB_true.1 hl; exact ⟨by omega, by omega⟩
      have HK : Hid (1 ≤ kind ∧ kind ≤ 3) := inB_true.1 hk
      go_enter Tryd.func160, Tryd.ntmps160
      go_wp2_with (go_at_call 146; refine (in5_eq _ _ _ _ (by assumption)).mono ?_; rintro e w1 ⟨rfl, rfl⟩)
      have HSL : Hid (shapeB cs = (cornersTo cs n && turnsTo cs cs.length)) := by show _ = _; rw [HS.out, hl]; rfl
      clear hk hl c0 c1 c2 c3 HS HKN
      go_loopw [3] (fun v3 wr => ∃ k : Nat, k ≤ n ∧ v3 = .int .i64 k ∧ cornersTo cs k = true ∧ Below w.heap.size w wr) (fun v3 _ => n - (intOf v3).toNat)
      case atStart => exact ⟨0, Nat.zero_le _, rfl, rfl, Below.refl _ _⟩
      case round =>
        obtain ⟨k, hk, rfl, ht, hb⟩ := hrel
        have HT := Lib.hid ht
        have HZ2 := Lib.hid (HZ.out.below hb hb0)
        obtain ⟨c0, c1, c2, c3⟩ := HZ2.out
        dsimp only at c0 c1 c2 c3
        have HA2 := Lib.hid ((HA.out.below hb).more hb.size)
        clear ht
        by_cases hlt : k < n
        · have hk0 : (0 : Int) ≤ (k : Int) := by omega
          have hk1 : (k : Int) < (n : Int) := by omega
          obtain ⟨b', off', p, eA, hp, _, hbl, d0, d1⟩ := Pnt.at HA2.out hlt
          have HP := Lib.hid hp
          clear hp
          subst eA
          cases hq : plcB p.x p.y
          · have HE : Hid (zoneOk (Zone.val ⟨⟨kind, storeys, each⟩, ⟨some ⟨b', off', none⟩, n, c, cs⟩⟩) = false) := by show _ = _; rw [HO.out, HSL.out, corner_bad hlt HP.out hq]; simp
            have HQ : Hid (∀ W, Calls Tryd.prog 98 #[.agg #[.int .i64 p.x, .int .i64 p.y]] W fun e w' => e = .returned (.bool false) ∧ Below W.heap.size W w') := fun W => by have := l02Ok_any p.x p.y W; rwa [hq] at this
            clear hq
            go_wp2_with (go_at_call 98; refine (HQ.out _).mono ?_; rintro e w1 ⟨rfl, hb1⟩)
            go_ret
            exact ⟨by rw [HE.out]; rfl, hb.trans (hb1.mono hb.size)⟩
          · have HQ : Hid (∀ W, Calls Tryd.prog 98 #[.agg #[.int .i64 p.x, .int .i64 p.y]] W fun e w' => e = .returned (.bool true) ∧ Below W.heap.size W w') := fun W => by have := l02Ok_any p.x p.y W; rwa [hq] at this
            have HC2 : Hid (cornersTo cs (k + 1) = true) := corner_step HT.out HP.out hq
            clear hq
            go_wp2_with (go_at_call 98; refine (HQ.out _).mono ?_; rintro e w1 ⟨rfl, hb1⟩)
            go_roundw
            case rel => exact ⟨k + 1, by omega, by go_num, HC2.out, hb.trans (hb1.mono hb.size)⟩
            case measure => simp [intOf]; omega
        · obtain rfl : k = n := by omega
          have HSS : Hid (shapeB cs = turnsTo cs cs.length) := by show _ = _; rw [HSL.out, HT.out]; rfl
          have HTU := Lib.hid (fun W (hW : Below wr.heap.size wr W) => l05Turns_any A k c cs W lo ((HA2.out.below hW).more hW.size) (by have := HLN.out; omega) HT.out)
          by_cases e1 : kind = 1
          · subst e1
            have HB2 : Hid (zHd ⟨1, storeys, each⟩ = (inB storeys 1 60 && (inB each 20 60 && decide (storeys * each ≤ 2000)))) := by
              have h9 := HHD.out
              rw [if_pos rfl] at h9
              show _ = _
              rw [h9]; exact HBL.out
            have d1 := cell_regrown c1
            have d2 := cell_regrown c2
            have d3 := cell_regrown c3
            have HTR := Lib.hid (fun d os => HTU.out (grow (redrawn wr d) os) (below_regrown wr d os))
            clear HTU
            cases f1 : inB storeys 1 60
            · have HE : Hid (zoneOk (Zone.val ⟨⟨1, storeys, each⟩, ⟨A, k, c, cs⟩⟩) = false) := by show _ = _; rw [HO.out, HB2.out, f1]; rfl
              go_wp2
              refine wp_region_quiet_below (by kernel_rfl) (by kernel_rfl) ?_
              repeat (go_big_quiet_step (first | (go_at_call 146; exact Calls.regrown_of (same_bel (in5_eq _ _ _ _ (by assumption))))))
              refine wpQuiet_nil ?_
              intro _ hw9
              obtain ⟨⟨dq, osq⟩, hw9⟩ := hw9
              subst hw9
              have hb5 := below_regrown wr dq osq
              dsimp only at hb5 ⊢
              generalize grow (redrawn wr dq) osq = w5 at hb5 ⊢
              go_wp2
              go_ret
              exact ⟨by rw [HE.out]; rfl, hb.trans (hb5.mono hb.size)⟩
            · cases f2 : inB each 20 60
              · have HE : Hid (zoneOk (Zone.val ⟨⟨1, storeys, each⟩, ⟨A, k, c, cs⟩⟩) = false) := by show _ = _; rw [HO.out, HB2.out, f2]; simp
                go_wp2
                refine wp_region_quiet_below (by kernel_rfl) (by kernel_rfl) ?_
                repeat (go_big_quiet_step (first | (go_at_call 146; exact Calls.regrown_of (same_bel (in5_eq _ _ _ _ (by assumption))))))
                refine wpQuiet_nil ?_
                intro _ hw9
                obtain ⟨⟨dq, osq⟩, hw9⟩ := hw9
                subst hw9
                have hb5 := below_regrown wr dq osq
                dsimp only at hb5 ⊢
                generalize grow (redrawn wr dq) osq = w5 at hb5 ⊢
                go_wp2
                go_ret
                exact ⟨by rw [HE.out]; rfl, hb.trans (hb5.mono hb.size)⟩
              · have g1 := inB_true.1 f1
                have g2 := inB_true.1 f2
                have g3 : 0 ≤ storeys * each := Int.mul_nonneg (by omega) (by omega)
                have g4 : storeys * each ≤ 3600 := Int.mul_le_mul (c := 60) (d := 60) g1.2 g2.2 (by omega) (by omega)
                have HB3 : Hid (zHd ⟨1, storeys, each⟩ = decide (storeys * each ≤ 2000)) := by show _ = _; rw [HB2.out, f1, f2]; rfl
                by_cases f3 : storeys * each ≤ 2000
                · have HE : Hid (zoneOk (Zone.val ⟨⟨1, storeys, each⟩, ⟨A, k, c, cs⟩⟩) = turnsTo cs cs.length) := by show _ = _; rw [HO.out, HB3.out, decide_eq_true f3, HSS.out]; rfl
                  have F3 : Hid (decide (storeys * each ≤ 2000) = true) := decide_eq_true f3
                  clear f3
                  generalize turnsTo cs cs.length = T at *
                  go_wp2
                  have f3' := F3.out
                  refine wp_region_quiet_below (by kernel_rfl) (by kernel_rfl) ?_
                  repeat (go_big_quiet_step (first | (go_at_call 146; exact Calls.regrown_of (same_bel (in5_eq _ _ _ _ (by assumption)))) | (go_at_call 228; exact Calls.regrown_of (HTR.out _ _))))
                  refine wpQuiet_nil ?_
                  intro _ hw9
                  obtain ⟨⟨dq, osq⟩, hw9⟩ := hw9
                  subst hw9
                  have hb5 := below_regrown wr dq osq
                  dsimp only at hb5 ⊢
                  generalize grow (redrawn wr dq) osq = w5 at hb5 ⊢
                  go_wp2
                  go_ret
                  exact ⟨by rw [HE.out]; rfl, hb.trans (hb5.mono hb.size)⟩
                · have HE : Hid (zoneOk (Zone.val ⟨⟨1, storeys, each⟩, ⟨A, k, c, cs⟩⟩) = false) := by show _ = _; rw [HO.out, HB3.out, decide_eq_false f3]; rfl
                  have F3 : Hid (decide (storeys * each ≤ 2000) = false) := decide_eq_false f3
                  clear f3
                  go_wp2
                  have f3' := F3.out
                  refine wp_region_quiet_below (by kernel_rfl) (by kernel_rfl) ?_
                  repeat (go_big_quiet_step (first | (go_at_call 146; exact Calls.regrown_of (same_bel (in5_eq _ _ _ _ (by assumption))))))
                  refine wpQuiet_nil ?_
                  intro _ hw9
                  obtain ⟨⟨dq, osq⟩, hw9⟩ := hw9
                  subst hw9
                  have hb5 := below_regrown wr dq osq
                  dsimp only at hb5 ⊢
                  generalize grow (redrawn wr dq) osq = w5 at hb5 ⊢
                  go_wp2
                  go_ret
                  exact ⟨by rw [HE.out]; rfl, hb.trans (hb5.mono hb.size)⟩
          · have E1 : Hid ((kind != 1) = true) := bne_iff_ne.2 e1
            have HB2 : Hid (zHd ⟨kind, storeys, each⟩ = nilB ⟨kind, storeys, each⟩) := by
              have h9 := HHD.out
              have h8 := HK.out
              rw [if_neg e1] at h9
              show _ = _
              rw [h9]
              rcases (show kind = 2 ∨ kind = 3 by omega) with e | e
              · rw [decide_eq_true e]; simp
              · rw [decide_eq_true e]; simp
            by_cases e2 : storeys = 0
            · by_cases e3 : each = 0
              · have HE : Hid (zoneOk (Zone.val ⟨⟨kind, storeys, each⟩, ⟨A, k, c, cs⟩⟩) = turnsTo cs cs.length) := by show _ = _; rw [HO.out, HB2.out, HNL.out, HSS.out, decide_eq_true e2, decide_eq_true e3]; rfl
                subst e2 e3
                clear e1
                have e1' := E1.out
                go_wp2_with fail
                refine (HTU.out _ (Below.refl _ _)).mono ?_
                rintro e w1 ⟨rfl, hb1⟩
                go_wp2
                go_ret
                exact ⟨by rw [HE.out]; rfl, hb.trans (hb1.mono hb.size)⟩
              · have HE : Hid (zoneOk (Zone.val ⟨⟨kind, storeys, each⟩, ⟨A, k, c, cs⟩⟩) = false) := by show _ = _; rw [HO.out, HB2.out, HNL.out, decide_eq_false e3, Bool.and_false]; rfl
                have E3 : Hid ((each == 0) = false) := beq_eq_false_iff_ne.2 e3
                subst e2
                clear e1 e3
                have e1' := E1.out
                have e3' := E3.out
                go_wp2
                go_ret
                exact ⟨by rw [HE.out]; rfl, hb⟩
            · have HE : Hid (zoneOk (Zone.val ⟨⟨kind, storeys, each⟩, ⟨A, k, c, cs⟩⟩) = false) := by show _ = _; rw [HO.out, HB2.out, HNL.out, decide_eq_false e2, Bool.false_and]; rfl
              have E3 : Hid ((storeys == 0) = false) := beq_eq_false_iff_ne.2 e2
              clear e1 e2
              have e1' := E1.out
              have e3' := E3.out
              go_wp2
              go_ret
              exact ⟨by rw [HE.out]; rfl, hb⟩
end Go.Proofs.YtdhobglhjdgboaaDoor
/- XZone4: l05In and l05Lines of the reference. -/
namespace Go.Proofs.YtdhobglhjdgboaaDoor
open Go.RowKit Go.Sort
set_option linter.unusedVariables false

def outTo (cs : List Pnt) (p : Pnt) (k : Nat) : Int := if allTo (fun j => !decide (sdN cs j p = 0)) k then 2 else 1
theorem out_same {cs : List Pnt} {p : Pnt} {k : Nat} (h : ¬ sdN cs k p = 0) : outTo cs p (k + 1) = outTo cs p k := by unfold outTo; rw [allTo_succ, decide_eq_false h]; simp
theorem out_one {cs : List Pnt} {p : Pnt} {k : Nat} (h : sdN cs k p = 0) : outTo cs p (k + 1) = 1 := by unfold outTo; rw [allTo_succ, decide_eq_true h]; simp
def inV (cs : List Pnt) (p : Pnt) : Int := if inTo cs p cs.length then outTo cs p cs.length else 0
theorem inV_pos {cs : List Pnt} {p : Pnt} : decide (0 < inV cs p) = inTo cs p cs.length := by
  unfold inV outTo
  cases inTo cs p cs.length
  · rfl
  · simp only [if_true]; split <;> rfl
theorem in_step {cs : List Pnt} {p : Pnt} {k : Nat} (h : inTo cs p k = true) (h2 : ¬ sdN cs k p < 0) : inTo cs p (k + 1) = true := allTo_step h (decide_eq_true (by omega))
theorem in_bad {cs : List Pnt} {p : Pnt} {k n : Nat} (hk : k < n) (h2 : sdN cs k p < 0) : inTo cs p n = false := allTo_bad hk (decide_eq_false (by omega))
set_option maxRecDepth 100000 in
set_option maxHeartbeats 6400000 in
theorem l05In_any (b off : Nat) (z : Zone) (p : Pnt) (w : World) (lo : Nat) (hz : ZoneAt w b off z) (hb0 : b < w.heap.size) (h : Arr Pnt.cs 2 w lo w.heap.size z.r.a z.r.n z.r.xs) (hn : z.r.n ≤ 1048576) (hok : cornersTo z.r.xs z.r.n = true) (hp : plcW p.x p.y = true) :
    Calls Tryd.prog 161 #[.pointer (some ⟨b, off, none⟩), .agg #[.int .i64 p.x, .int .i64 p.y]] w fun e w' => e = .returned (.int .i64 (inV z.r.xs p)) ∧ Below w.heap.size w w' := by
  have HL : Hid (z.r.xs.length = z.r.n) := h.1
  obtain ⟨v, ⟨A, n, c, cs⟩⟩ := z
  dsimp only at *
  obtain ⟨W, hW⟩ : ∃ W : World, W = w.alloc (.cells #[.int .i64 p.x, .int .i64 p.y] 41) := ⟨_, rfl⟩
  have B0 : Below w.heap.size w W := by rw [hW]; exact (Below.refl _ _).alloc (Nat.le_refl _) _
  have P0 : Blk W w.heap.size 41 #[.int .i64 p.x, .int .i64 p.y] := by rw [hW]; exact Blk.new _ _ _
  have HS : Hid (w.heap.size < W.heap.size) := P0.lt
  have HP0 := Lib.hid P0
  have HZ := Lib.hid (hz.below B0 hb0)
  have HA := Lib.hid ((h.below B0).more B0.size)
  have HOK := Lib.hid hok
  have HP := Lib.hid hp
  have HB0 := Lib.hid B0
  clear hz h hok hp B0 P0
  go_enter Tryd.func161, Tryd.ntmps161
  go_wp2_with fail
  rw [← hW]
  clear hW
  have hwW := HB0.out.size
  obtain ⟨c0, c1, c2, c3⟩ := HZ.out
  dsimp only at c0 c1 c2 c3
  go_loopw [5, 6, 7] (fun v5 v6 v7 wr => ∃ k : Nat, k ≤ n ∧ v6 = .int .i64 k ∧ v5 = .int .i64 (outTo cs p k) ∧ inTo cs p k = true ∧ Below W.heap.size W wr) (fun _ v6 _ _ => n - (intOf v6).toNat)
  case atStart => exact ⟨0, Nat.zero_le _, rfl, rfl, rfl, Below.refl _ _⟩
  case round =>
    obtain ⟨k, hk, rfl, rfl, ht, hb⟩ := hrel
    have HT := Lib.hid ht
    have HBB := Lib.hid (HB0.out.trans (hb.mono hwW))
    have hbl0 : b < W.heap.size := by omega
    obtain ⟨c0, c1, c2, c3⟩ := HZ.out.below hb hbl0
    dsimp only at c0 c1 c2 c3
    have HA2 := Lib.hid ((HA.out.below hb).more hb.size)
    have HP2 := Lib.hid (HP0.out.bel hb)
    clear ht
    by_cases hlt : k < n
    · have hk0 : (0 : Int) ≤ (k : Int) := by omega
      have hk1 : (k : Int) < (n : Int) := by omega
      obtain ⟨b', off', q, eA, hq, _, hbl, d0, d1⟩ := Pnt.at HA2.out hlt
      subst eA
      obtain ⟨g0, g1⟩ := Pnt.blk HP2.out
      have HN := Lib.hid (fun d os => l05Next_any (some ⟨b', off', none⟩) n c k cs (grow (redrawn wr d) os) lo ((HA2.out.below (below_regrown wr d os)).more (below_regrown wr d os).size) hn hlt)
      have HC : Hid (∀ W, Calls Tryd.prog 229 #[.agg #[.int .i64 q.x, .int .i64 q.y], .agg #[.int .i64 (pt cs (nxN n k)).x, .int .i64 (pt cs (nxN n k)).y], .agg #[.int .i64 p.x, .int .i64 p.y]] W fun e w' => e = .returned (.int .i64 (sdN cs k p)) ∧ Below W.heap.size W w') := fun W => by
        have h9 := l05Cross_any (pt cs k) (pt cs (nxN n k)) p W (cornersTo_at HOK.out hlt) (cornersTo_at HOK.out (nx_lt (by omega))) HP.out
        unfold sdN
        rw [HL.out]
        rw [pt_at hq] at h9 ⊢
        exact h9
      have c3' := cell_regrown c3
      have d0' := cell_regrown d0
      have d1' := cell_regrown d1
      have g0' := cell_regrown g0
      have g1' := cell_regrown g1
      have HST : Hid (¬ sdN cs k p < 0 → inTo cs p (k + 1) = true) := in_step HT.out
      have HBD : Hid (sdN cs k p < 0 → inTo cs p n = false) := in_bad hlt
      have HO1 : Hid (¬ sdN cs k p = 0 → outTo cs p (k + 1) = outTo cs p k) := out_same
      have HO2 : Hid (sdN cs k p = 0 → outTo cs p (k + 1) = 1) := out_one
      clear hq
      generalize sdN cs k p = X at *
      rcases Int.lt_trichotomy X 0 with hx | hx | hx
      · have HE : Hid (inV cs p = 0) := by show _ = _; unfold inV; rw [HL.out, HBD.out hx]; rfl
        go_wp2
        refine wp_region_quiet_below (by kernel_rfl) (by kernel_rfl) ?_
        repeat (go_big_quiet_step (first | (go_at_call 163; exact Calls.regrown_of (HN.out _ _)) | (go_at_call 229; exact Calls.regrown_of (HC.out _))))
        refine wpQuiet_nil ?_
        intro _ hw9
        obtain ⟨⟨dq, osq⟩, hw9⟩ := hw9
        subst hw9
        have hb5 := below_regrown wr dq osq
        dsimp only at hb5 ⊢
        generalize grow (redrawn wr dq) osq = w5 at hb5 ⊢
        go_wp2
        go_ret
        exact ⟨by rw [HE.out]; rfl, HBB.out.trans (hb5.mono HBB.out.size)⟩
      · have HE : Hid (outTo cs p (k + 1) = 1) := HO2.out hx
        have HE2 : Hid (inTo cs p (k + 1) = true) := HST.out (by omega)
        subst hx
        go_wp2
        refine wp_region_quiet_below (by kernel_rfl) (by kernel_rfl) ?_
        repeat (go_big_quiet_step (first | (go_at_call 163; exact Calls.regrown_of (HN.out _ _)) | (go_at_call 229; exact Calls.regrown_of (HC.out _))))
        refine wpQuiet_nil ?_
        intro _ hw9
        obtain ⟨⟨dq, osq⟩, hw9⟩ := hw9
        subst hw9
        have hb5 := below_regrown wr dq osq
        dsimp only at hb5 ⊢
        generalize grow (redrawn wr dq) osq = w5 at hb5 ⊢
        go_wp2
        go_roundw
        case rel => exact ⟨k + 1, by omega, by go_num, by rw [HE.out], HE2.out, hb.trans (hb5.mono hb.size)⟩
        case measure => simp [intOf]; omega
      · have HE : Hid (outTo cs p (k + 1) = outTo cs p k) := HO1.out (by omega)
        have HE2 : Hid (inTo cs p (k + 1) = true) := HST.out (by omega)
        have hx1 : ¬ X < 0 := by omega
        have HX2 : Hid ((X == 0) = false) := beq_eq_false_iff_ne.2 (by omega)
        go_wp2
        refine wp_region_quiet_below (by kernel_rfl) (by kernel_rfl) ?_
        repeat (go_big_quiet_step (first | (go_at_call 163; exact Calls.regrown_of (HN.out _ _)) | (go_at_call 229; exact Calls.regrown_of (HC.out _))))
        refine wpQuiet_nil ?_
        intro _ hw9
        obtain ⟨⟨dq, osq⟩, hw9⟩ := hw9
        subst hw9
        have hb5 := below_regrown wr dq osq
        dsimp only at hb5 ⊢
        generalize grow (redrawn wr dq) osq = w5 at hb5 ⊢
        have hx2 := HX2.out
        go_wp2
        go_roundw
        case rel => exact ⟨k + 1, by omega, by go_num, by rw [HE.out], HE2.out, hb.trans (hb5.mono hb.size)⟩
        case measure => simp [intOf]; omega
    · obtain rfl : k = n := by omega
      have HE : Hid (inV cs p = outTo cs p k) := by show _ = _; unfold inV; rw [HL.out, HT.out]; rfl
      go_wp2
      go_ret
      exact ⟨by rw [HE.out]; rfl, HBB.out⟩
end Go.Proofs.YtdhobglhjdgboaaDoor
/- XZone5: l05Lines of the reference: linesB. -/
namespace Go.Proofs.YtdhobglhjdgboaaDoor
open Go.RowKit Go.Sort
set_option linter.unusedVariables false

/-- four points lie in boxes from block G on -/
structure Four (w0 : World) (G : Nat) (a b c d : Pnt) (w : World) : Prop where
  bel : Below w0.heap.size w0 w
  gt : w0.heap.size ≤ G
  pa : Blk w G 41 #[.int .i64 a.x, .int .i64 a.y]
  pb : Blk w (G + 1) 41 #[.int .i64 b.x, .int .i64 b.y]
  pc : Blk w (G + 1 + 1) 41 #[.int .i64 c.x, .int .i64 c.y]
  pd : Blk w (G + 1 + 1 + 1) 41 #[.int .i64 d.x, .int .i64 d.y]
theorem Four.next {w0 w1 w2 : World} {G : Nat} {a b c d : Pnt} (hb : Below w1.heap.size w1 w2) (h : Four w0 G a b c d w1) : Four w0 G a b c d w2 :=
  ⟨h.bel.trans (hb.mono h.bel.size), h.gt, h.pa.bel hb, h.pb.bel hb, h.pc.bel hb, h.pd.bel hb⟩
theorem box5_eq (a b c : Pnt) (w : World) {v : Bool} (h : boxB a b c = v) : Calls Tryd.prog 231 #[.agg #[.int .i64 a.x, .int .i64 a.y], .agg #[.int .i64 b.x, .int .i64 b.y], .agg #[.int .i64 c.x, .int .i64 c.y]] w fun e w' => e = .returned (.bool v) ∧ Below w.heap.size w w' := by subst h; exact l05Box_any a b c w
theorem sgn_bd (n : Int) : -1 ≤ sgn n ∧ sgn n ≤ 1 := by unfold sgn; split <;> (try split) <;> omega
theorem sgn_mul (m n : Int) : -1 ≤ sgn m * sgn n ∧ sgn m * sgn n ≤ 1 := by
  unfold sgn; split <;> split <;> (try split) <;> (try split) <;> decide
set_option maxRecDepth 100000 in
set_option maxHeartbeats 25600000 in
theorem l05Lines_any (a b c d : Pnt) (w : World) (ha : plcW a.x a.y = true) (hb : plcW b.x b.y = true) (hc : plcW c.x c.y = true) (hd : plcW d.x d.y = true) :
    Calls Tryd.prog 162 #[.agg #[.int .i64 a.x, .int .i64 a.y], .agg #[.int .i64 b.x, .int .i64 b.y], .agg #[.int .i64 c.x, .int .i64 c.y], .agg #[.int .i64 d.x, .int .i64 d.y]] w fun e w' => e = .returned (.bool (linesB a b c d)) ∧ Below w.heap.size w w' := by
  obtain ⟨W, hW⟩ : ∃ W : World, W = (((w.alloc (.cells #[.int .i64 a.x, .int .i64 a.y] 41)).alloc (.cells #[.int .i64 b.x, .int .i64 b.y] 41)).alloc (.cells #[.int .i64 c.x, .int .i64 c.y] 41)).alloc (.cells #[.int .i64 d.x, .int .i64 d.y] 41) := ⟨_, rfl⟩
  have HF : Four w w.heap.size a b c d W := by
    rw [hW]
    exact ⟨((((Below.refl _ _).alloc (Nat.le_refl _) _).alloc (by simp) _).alloc (by simp; omega) _).alloc (by simp; omega) _, Nat.le_refl _, (((Blk.new _ _ _).alloc _).alloc _).alloc _, ((Blk.new_at rfl (by simp)).alloc _).alloc _, (Blk.new_at rfl (by simp)).alloc _, Blk.new_at rfl (by simp)⟩
  have HL : Hid (linesB a b c d = ((decide (sgn (crs a b c) * sgn (crs a b d) < 0) && decide (sgn (crs c d a) * sgn (crs c d b) < 0)) || (decide (sgn (crs a b c) = 0) && boxB a b c) || (decide (sgn (crs a b d) = 0) && boxB a b d) || (decide (sgn (crs c d a) = 0) && boxB c d a) || (decide (sgn (crs c d b) = 0) && boxB c d b))) := rfl
  have X1 : Hid (∀ W, Calls Tryd.prog 229 #[.agg #[.int .i64 a.x, .int .i64 a.y], .agg #[.int .i64 b.x, .int .i64 b.y], .agg #[.int .i64 c.x, .int .i64 c.y]] W fun e w' => e = .returned (.int .i64 (crs a b c)) ∧ Below W.heap.size W w') := fun W => l05Cross_any a b c W ha hb hc
  have X2 : Hid (∀ W, Calls Tryd.prog 229 #[.agg #[.int .i64 a.x, .int .i64 a.y], .agg #[.int .i64 b.x, .int .i64 b.y], .agg #[.int .i64 d.x, .int .i64 d.y]] W fun e w' => e = .returned (.int .i64 (crs a b d)) ∧ Below W.heap.size W w') := fun W => l05Cross_any a b d W ha hb hd
  have X3 : Hid (∀ W, Calls Tryd.prog 229 #[.agg #[.int .i64 c.x, .int .i64 c.y], .agg #[.int .i64 d.x, .int .i64 d.y], .agg #[.int .i64 a.x, .int .i64 a.y]] W fun e w' => e = .returned (.int .i64 (crs c d a)) ∧ Below W.heap.size W w') := fun W => l05Cross_any c d a W hc hd ha
  have X4 : Hid (∀ W, Calls Tryd.prog 229 #[.agg #[.int .i64 c.x, .int .i64 c.y], .agg #[.int .i64 d.x, .int .i64 d.y], .agg #[.int .i64 b.x, .int .i64 b.y]] W fun e w' => e = .returned (.int .i64 (crs c d b)) ∧ Below W.heap.size W w') := fun W => l05Cross_any c d b W hc hd hb
  clear ha hb hc hd
  generalize crs a b c = s1 at *
  generalize crs a b d = s2 at *
  generalize crs c d a = s3 at *
  generalize crs c d b = s4 at *
  have M1 := Lib.hid (sgn_mul s1 s2)
  have M2 := Lib.hid (sgn_mul s3 s4)
  have S1 := Lib.hid (fun W => l05Sign_any s1 W)
  have S2 := Lib.hid (fun W => l05Sign_any s2 W)
  have S3 := Lib.hid (fun W => l05Sign_any s3 W)
  have S4 := Lib.hid (fun W => l05Sign_any s4 W)
  generalize sgn s1 = t1 at *
  generalize sgn s2 = t2 at *
  generalize sgn s3 = t3 at *
  generalize sgn s4 = t4 at *
  go_enter Tryd.func162, Tryd.ntmps162
  go_wp2_with fail
  rw [← hW]
  clear hW
  obtain ⟨a0, a1⟩ := Pnt.blk HF.pa
  obtain ⟨b0, b1⟩ := Pnt.blk HF.pb
  obtain ⟨c0, c1⟩ := Pnt.blk HF.pc
  obtain ⟨d0, d1⟩ := Pnt.blk HF.pd
  have HF0 := Lib.hid HF
  clear HF
  go_wp2_with fail
  refine (X1.out _).mono ?_
  rintro e w1 ⟨rfl, hb1⟩
  have HF1 := Lib.hid (Four.next hb1 HF0.out)
  clear a0 a1 b0 b1 c0 c1 d0 d1 hb1
  obtain ⟨a0, a1⟩ := Pnt.blk HF1.out.pa
  obtain ⟨b0, b1⟩ := Pnt.blk HF1.out.pb
  obtain ⟨c0, c1⟩ := Pnt.blk HF1.out.pc
  obtain ⟨d0, d1⟩ := Pnt.blk HF1.out.pd
  go_wp2_with fail
  refine (S1.out _).mono ?_
  rintro _ _ ⟨rfl, rfl⟩
  go_wp2_with fail
  refine (X2.out _).mono ?_
  rintro e w2 ⟨rfl, hb2⟩
  have HF2 := Lib.hid (Four.next hb2 HF1.out)
  clear a0 a1 b0 b1 c0 c1 d0 d1 hb2
  obtain ⟨a0, a1⟩ := Pnt.blk HF2.out.pa
  obtain ⟨b0, b1⟩ := Pnt.blk HF2.out.pb
  obtain ⟨c0, c1⟩ := Pnt.blk HF2.out.pc
  obtain ⟨d0, d1⟩ := Pnt.blk HF2.out.pd
  go_wp2_with fail
  refine (S2.out _).mono ?_
  rintro _ _ ⟨rfl, rfl⟩
  go_wp2_with fail
  refine (X3.out _).mono ?_
  rintro e w3 ⟨rfl, hb3⟩
  have HF3 := Lib.hid (Four.next hb3 HF2.out)
  clear a0 a1 b0 b1 c0 c1 d0 d1 hb3
  obtain ⟨a0, a1⟩ := Pnt.blk HF3.out.pa
  obtain ⟨b0, b1⟩ := Pnt.blk HF3.out.pb
  obtain ⟨c0, c1⟩ := Pnt.blk HF3.out.pc
  obtain ⟨d0, d1⟩ := Pnt.blk HF3.out.pd
  go_wp2_with fail
  refine (S3.out _).mono ?_
  rintro _ _ ⟨rfl, rfl⟩
  go_wp2_with fail
  refine (X4.out _).mono ?_
  rintro e w4 ⟨rfl, hb4⟩
  have HF4 := Lib.hid (Four.next hb4 HF3.out)
  clear a0 a1 b0 b1 c0 c1 d0 d1 hb4
  obtain ⟨a0, a1⟩ := Pnt.blk HF4.out.pa
  obtain ⟨b0, b1⟩ := Pnt.blk HF4.out.pb
  obtain ⟨c0, c1⟩ := Pnt.blk HF4.out.pc
  obtain ⟨d0, d1⟩ := Pnt.blk HF4.out.pd
  go_wp2_with fail
  refine (S4.out _).mono ?_
  rintro _ _ ⟨rfl, rfl⟩
  clear X1 X2 X3 X4 S1 S2 S3 S4 HF0 HF1 HF2 HF3
  have hm1 := M1.out
  have hm2 := M2.out
  have HBB : Hid (Below w.heap.size w w4) := HF4.out.bel
  generalize hβ1 : boxB a b c = β1 at *
  generalize hβ2 : boxB a b d = β2 at *
  generalize hβ3 : boxB c d a = β3 at *
  generalize hβ4 : boxB c d b = β4 at *
  have HX1 := Lib.hid hβ1
  have HX2 := Lib.hid hβ2
  have HX3 := Lib.hid hβ3
  have HX4 := Lib.hid hβ4
  clear hβ1 hβ2 hβ3 hβ4
  have D1 : (t1 = 0 ∧ β1 = true) ∨ (t1 = 0 ∧ β1 = false) ∨ ¬ t1 = 0 := by cases β1 <;> simp <;> omega
  have D2 : (t2 = 0 ∧ β2 = true) ∨ (t2 = 0 ∧ β2 = false) ∨ ¬ t2 = 0 := by cases β2 <;> simp <;> omega
  have D3 : (t3 = 0 ∧ β3 = true) ∨ (t3 = 0 ∧ β3 = false) ∨ ¬ t3 = 0 := by cases β3 <;> simp <;> omega
  have D4 : (t4 = 0 ∧ β4 = true) ∨ (t4 = 0 ∧ β4 = false) ∨ ¬ t4 = 0 := by cases β4 <;> simp <;> omega
  by_cases hP : t1 * t2 < 0
  · by_cases hR : t3 * t4 < 0
    · have HE : Hid (linesB a b c d = true) := by show _ = _; rw [HL.out]; simp [hP, hR]
      clear D1 D2 D3 D4
      go_wp2
      go_ret
      exact ⟨by rw [HE.out]; rfl, HF4.out.bel⟩
    · have n1 : ¬ t1 = 0 := by rintro rfl; simp at hP
      have n2 : ¬ t2 = 0 := by rintro rfl; simp at hP
      rcases D3 with ⟨z3, q3⟩ | ⟨z3, q3⟩ | z3
      · have HE : Hid (linesB a b c d = true) := by show _ = _; rw [HL.out]; simp [hP, z3, q3, n1, n2]
        have E3 : Hid ((t3 == 0) = true) := by show _ = _; simp [z3]
        have Y3 := Lib.hid (HX3.out.trans q3)
        have E1 : Hid ((t1 == 0) = false) := by show _ = _; simp [n1]
        have E2 : Hid ((t2 == 0) = false) := by show _ = _; simp [n2]
        clear n1 n2
        clear z3 q3
        clear D1 D2 D4
        have e1 := E1.out
        have e2 := E2.out
        have e3 := E3.out
        go_wp2_with fail
        refine (box5_eq c d a _ Y3.out).mono ?_
        rintro e v3 ⟨rfl, hv3⟩
        have HG3 := Lib.hid (Four.next hv3 HF4.out)
        clear a0 a1 b0 b1 c0 c1 d0 d1 hv3
        obtain ⟨a0, a1⟩ := Pnt.blk HG3.out.pa
        obtain ⟨b0, b1⟩ := Pnt.blk HG3.out.pb
        obtain ⟨c0, c1⟩ := Pnt.blk HG3.out.pc
        obtain ⟨d0, d1⟩ := Pnt.blk HG3.out.pd
        go_wp2
        go_ret
        exact ⟨by rw [HE.out]; rfl, HG3.out.bel⟩
      · rcases D4 with ⟨z4, q4⟩ | ⟨z4, q4⟩ | z4
        · have HE : Hid (linesB a b c d = true) := by show _ = _; rw [HL.out]; simp [hP, z3, z4, q3, q4, n1, n2]
          have E3 : Hid ((t3 == 0) = true) := by show _ = _; simp [z3]
          have Y3 := Lib.hid (HX3.out.trans q3)
          have E4 : Hid ((t4 == 0) = true) := by show _ = _; simp [z4]
          have Y4 := Lib.hid (HX4.out.trans q4)
          have E1 : Hid ((t1 == 0) = false) := by show _ = _; simp [n1]
          have E2 : Hid ((t2 == 0) = false) := by show _ = _; simp [n2]
          clear n1 n2
          clear z3 z4 q3 q4
          clear D1 D2
          have e1 := E1.out
          have e2 := E2.out
          have e3 := E3.out
          have e4 := E4.out
          go_wp2_with fail
          refine (box5_eq c d a _ Y3.out).mono ?_
          rintro e v3 ⟨rfl, hv3⟩
          have HG3 := Lib.hid (Four.next hv3 HF4.out)
          clear a0 a1 b0 b1 c0 c1 d0 d1 hv3
          obtain ⟨a0, a1⟩ := Pnt.blk HG3.out.pa
          obtain ⟨b0, b1⟩ := Pnt.blk HG3.out.pb
          obtain ⟨c0, c1⟩ := Pnt.blk HG3.out.pc
          obtain ⟨d0, d1⟩ := Pnt.blk HG3.out.pd
          go_wp2_with fail
          refine (box5_eq c d b _ Y4.out).mono ?_
          rintro e v4 ⟨rfl, hv4⟩
          have HG4 := Lib.hid (Four.next hv4 HG3.out)
          clear a0 a1 b0 b1 c0 c1 d0 d1 hv4
          obtain ⟨a0, a1⟩ := Pnt.blk HG4.out.pa
          obtain ⟨b0, b1⟩ := Pnt.blk HG4.out.pb
          obtain ⟨c0, c1⟩ := Pnt.blk HG4.out.pc
          obtain ⟨d0, d1⟩ := Pnt.blk HG4.out.pd
          go_wp2
          go_ret
          exact ⟨by rw [HE.out]; rfl, HG4.out.bel⟩
        · have HE : Hid (linesB a b c d = false) := by show _ = _; rw [HL.out]; simp [hP, z3, z4, q3, q4, n1, n2]
          have E3 : Hid ((t3 == 0) = true) := by show _ = _; simp [z3]
          have Y3 := Lib.hid (HX3.out.trans q3)
          have E4 : Hid ((t4 == 0) = true) := by show _ = _; simp [z4]
          have Y4 := Lib.hid (HX4.out.trans q4)
          have E1 : Hid ((t1 == 0) = false) := by show _ = _; simp [n1]
          have E2 : Hid ((t2 == 0) = false) := by show _ = _; simp [n2]
          clear n1 n2
          clear z3 z4 q3 q4
          clear D1 D2
          have e1 := E1.out
          have e2 := E2.out
          have e3 := E3.out
          have e4 := E4.out
          go_wp2_with fail
          refine (box5_eq c d a _ Y3.out).mono ?_
          rintro e v3 ⟨rfl, hv3⟩
          have HG3 := Lib.hid (Four.next hv3 HF4.out)
          clear a0 a1 b0 b1 c0 c1 d0 d1 hv3
          obtain ⟨a0, a1⟩ := Pnt.blk HG3.out.pa
          obtain ⟨b0, b1⟩ := Pnt.blk HG3.out.pb
          obtain ⟨c0, c1⟩ := Pnt.blk HG3.out.pc
          obtain ⟨d0, d1⟩ := Pnt.blk HG3.out.pd
          go_wp2_with fail
          refine (box5_eq c d b _ Y4.out).mono ?_
          rintro e v4 ⟨rfl, hv4⟩
          have HG4 := Lib.hid (Four.next hv4 HG3.out)
          clear a0 a1 b0 b1 c0 c1 d0 d1 hv4
          obtain ⟨a0, a1⟩ := Pnt.blk HG4.out.pa
          obtain ⟨b0, b1⟩ := Pnt.blk HG4.out.pb
          obtain ⟨c0, c1⟩ := Pnt.blk HG4.out.pc
          obtain ⟨d0, d1⟩ := Pnt.blk HG4.out.pd
          go_wp2
          go_ret
          exact ⟨by rw [HE.out]; rfl, HG4.out.bel⟩
        · have HE : Hid (linesB a b c d = false) := by show _ = _; rw [HL.out]; simp [hP, z3, z4, q3, n1, n2]
          have E3 : Hid ((t3 == 0) = true) := by show _ = _; simp [z3]
          have Y3 := Lib.hid (HX3.out.trans q3)
          have E4 : Hid ((t4 == 0) = false) := by show _ = _; simp [z4]
          have E1 : Hid ((t1 == 0) = false) := by show _ = _; simp [n1]
          have E2 : Hid ((t2 == 0) = false) := by show _ = _; simp [n2]
          clear n1 n2
          clear z3 z4 q3
          clear D1 D2
          have e1 := E1.out
          have e2 := E2.out
          have e3 := E3.out
          have e4 := E4.out
          go_wp2_with fail
          refine (box5_eq c d a _ Y3.out).mono ?_
          rintro e v3 ⟨rfl, hv3⟩
          have HG3 := Lib.hid (Four.next hv3 HF4.out)
          clear a0 a1 b0 b1 c0 c1 d0 d1 hv3
          obtain ⟨a0, a1⟩ := Pnt.blk HG3.out.pa
          obtain ⟨b0, b1⟩ := Pnt.blk HG3.out.pb
          obtain ⟨c0, c1⟩ := Pnt.blk HG3.out.pc
          obtain ⟨d0, d1⟩ := Pnt.blk HG3.out.pd
          go_wp2
          go_ret
          exact ⟨by rw [HE.out]; rfl, HG3.out.bel⟩
      · rcases D4 with ⟨z4, q4⟩ | ⟨z4, q4⟩ | z4
        · have HE : Hid (linesB a b c d = true) := by show _ = _; rw [HL.out]; simp [hP, z3, z4, q4, n1, n2]
          have E3 : Hid ((t3 == 0) = false) := by show _ = _; simp [z3]
          have E4 : Hid ((t4 == 0) = true) := by show _ = _; simp [z4]
          have Y4 := Lib.hid (HX4.out.trans q4)
          have E1 : Hid ((t1 == 0) = false) := by show _ = _; simp [n1]
          have E2 : Hid ((t2 == 0) = false) := by show _ = _; simp [n2]
          clear n1 n2
          clear z3 z4 q4
          clear D1 D2
          have e1 := E1.out
          have e2 := E2.out
          have e3 := E3.out
          have e4 := E4.out
          go_wp2_with fail
          refine (box5_eq c d b _ Y4.out).mono ?_
          rintro e v4 ⟨rfl, hv4⟩
          have HG4 := Lib.hid (Four.next hv4 HF4.out)
          clear a0 a1 b0 b1 c0 c1 d0 d1 hv4
          obtain ⟨a0, a1⟩ := Pnt.blk HG4.out.pa
          obtain ⟨b0, b1⟩ := Pnt.blk HG4.out.pb
          obtain ⟨c0, c1⟩ := Pnt.blk HG4.out.pc
          obtain ⟨d0, d1⟩ := Pnt.blk HG4.out.pd
          go_wp2
          go_ret
          exact ⟨by rw [HE.out]; rfl, HG4.out.bel⟩
        · have HE : Hid (linesB a b c d = false) := by show _ = _; rw [HL.out]; simp [hP, z3, z4, q4, n1, n2]
          have E3 : Hid ((t3 == 0) = false) := by show _ = _; simp [z3]
          have E4 : Hid ((t4 == 0) = true) := by show _ = _; simp [z4]
          have Y4 := Lib.hid (HX4.out.trans q4)
          have E1 : Hid ((t1 == 0) = false) := by show _ = _; simp [n1]
          have E2 : Hid ((t2 == 0) = false) := by show _ = _; simp [n2]
          clear n1 n2
          clear z3 z4 q4
          clear D1 D2
          have e1 := E1.out
          have e2 := E2.out
          have e3 := E3.out
          have e4 := E4.out
          go_wp2_with fail
          refine (box5_eq c d b _ Y4.out).mono ?_
          rintro e v4 ⟨rfl, hv4⟩
          have HG4 := Lib.hid (Four.next hv4 HF4.out)
          clear a0 a1 b0 b1 c0 c1 d0 d1 hv4
          obtain ⟨a0, a1⟩ := Pnt.blk HG4.out.pa
          obtain ⟨b0, b1⟩ := Pnt.blk HG4.out.pb
          obtain ⟨c0, c1⟩ := Pnt.blk HG4.out.pc
          obtain ⟨d0, d1⟩ := Pnt.blk HG4.out.pd
          go_wp2
          go_ret
          exact ⟨by rw [HE.out]; rfl, HG4.out.bel⟩
        · have HE : Hid (linesB a b c d = false) := by show _ = _; rw [HL.out]; simp [hP, hR, z3, z4, n1, n2]
          have E3 : Hid ((t3 == 0) = false) := by show _ = _; simp [z3]
          have E4 : Hid ((t4 == 0) = false) := by show _ = _; simp [z4]
          have E1 : Hid ((t1 == 0) = false) := by show _ = _; simp [n1]
          have E2 : Hid ((t2 == 0) = false) := by show _ = _; simp [n2]
          clear n1 n2
          clear z3 z4
          clear D1 D2
          have e1 := E1.out
          have e2 := E2.out
          have e3 := E3.out
          have e4 := E4.out
          go_wp2
          go_ret
          exact ⟨by rw [HE.out]; rfl, HF4.out.bel⟩
  · rcases D1 with ⟨z1, q1⟩ | ⟨z1, q1⟩ | z1
    · have HE : Hid (linesB a b c d = true) := by show _ = _; rw [HL.out]; simp [z1, q1]
      have E1 : Hid ((t1 == 0) = true) := by show _ = _; simp [z1]
      have Y1 := Lib.hid (HX1.out.trans q1)
      clear z1 q1
      clear D2 D3 D4
      have e1 := E1.out
      go_wp2_with fail
      refine (box5_eq a b c _ Y1.out).mono ?_
      rintro e v1 ⟨rfl, hv1⟩
      have HG1 := Lib.hid (Four.next hv1 HF4.out)
      clear a0 a1 b0 b1 c0 c1 d0 d1 hv1
      obtain ⟨a0, a1⟩ := Pnt.blk HG1.out.pa
      obtain ⟨b0, b1⟩ := Pnt.blk HG1.out.pb
      obtain ⟨c0, c1⟩ := Pnt.blk HG1.out.pc
      obtain ⟨d0, d1⟩ := Pnt.blk HG1.out.pd
      go_wp2
      go_ret
      exact ⟨by rw [HE.out]; rfl, HG1.out.bel⟩
    · rcases D2 with ⟨z2, q2⟩ | ⟨z2, q2⟩ | z2
      · have HE : Hid (linesB a b c d = true) := by show _ = _; rw [HL.out]; simp [z1, z2, q1, q2]
        have E1 : Hid ((t1 == 0) = true) := by show _ = _; simp [z1]
        have Y1 := Lib.hid (HX1.out.trans q1)
        have E2 : Hid ((t2 == 0) = true) := by show _ = _; simp [z2]
        have Y2 := Lib.hid (HX2.out.trans q2)
        clear z1 z2 q1 q2
        clear D3 D4
        have e1 := E1.out
        have e2 := E2.out
        go_wp2_with fail
        refine (box5_eq a b c _ Y1.out).mono ?_
        rintro e v1 ⟨rfl, hv1⟩
        have HG1 := Lib.hid (Four.next hv1 HF4.out)
        clear a0 a1 b0 b1 c0 c1 d0 d1 hv1
        obtain ⟨a0, a1⟩ := Pnt.blk HG1.out.pa
        obtain ⟨b0, b1⟩ := Pnt.blk HG1.out.pb
        obtain ⟨c0, c1⟩ := Pnt.blk HG1.out.pc
        obtain ⟨d0, d1⟩ := Pnt.blk HG1.out.pd
        go_wp2_with fail
        refine (box5_eq a b d _ Y2.out).mono ?_
        rintro e v2 ⟨rfl, hv2⟩
        have HG2 := Lib.hid (Four.next hv2 HG1.out)
        clear a0 a1 b0 b1 c0 c1 d0 d1 hv2
        obtain ⟨a0, a1⟩ := Pnt.blk HG2.out.pa
        obtain ⟨b0, b1⟩ := Pnt.blk HG2.out.pb
        obtain ⟨c0, c1⟩ := Pnt.blk HG2.out.pc
        obtain ⟨d0, d1⟩ := Pnt.blk HG2.out.pd
        go_wp2
        go_ret
        exact ⟨by rw [HE.out]; rfl, HG2.out.bel⟩
      · rcases D3 with ⟨z3, q3⟩ | ⟨z3, q3⟩ | z3
        · have HE : Hid (linesB a b c d = true) := by show _ = _; rw [HL.out]; simp [z1, z2, z3, q1, q2, q3]
          have E1 : Hid ((t1 == 0) = true) := by show _ = _; simp [z1]
          have Y1 := Lib.hid (HX1.out.trans q1)
          have E2 : Hid ((t2 == 0) = true) := by show _ = _; simp [z2]
          have Y2 := Lib.hid (HX2.out.trans q2)
          have E3 : Hid ((t3 == 0) = true) := by show _ = _; simp [z3]
          have Y3 := Lib.hid (HX3.out.trans q3)
          clear z1 z2 z3 q1 q2 q3
          clear D4
          have e1 := E1.out
          have e2 := E2.out
          have e3 := E3.out
          go_wp2_with fail
          refine (box5_eq a b c _ Y1.out).mono ?_
          rintro e v1 ⟨rfl, hv1⟩
          have HG1 := Lib.hid (Four.next hv1 HF4.out)
          clear a0 a1 b0 b1 c0 c1 d0 d1 hv1
          obtain ⟨a0, a1⟩ := Pnt.blk HG1.out.pa
          obtain ⟨b0, b1⟩ := Pnt.blk HG1.out.pb
          obtain ⟨c0, c1⟩ := Pnt.blk HG1.out.pc
          obtain ⟨d0, d1⟩ := Pnt.blk HG1.out.pd
          go_wp2_with fail
          refine (box5_eq a b d _ Y2.out).mono ?_
          rintro e v2 ⟨rfl, hv2⟩
          have HG2 := Lib.hid (Four.next hv2 HG1.out)
          clear a0 a1 b0 b1 c0 c1 d0 d1 hv2
          obtain ⟨a0, a1⟩ := Pnt.blk HG2.out.pa
          obtain ⟨b0, b1⟩ := Pnt.blk HG2.out.pb
          obtain ⟨c0, c1⟩ := Pnt.blk HG2.out.pc
          obtain ⟨d0, d1⟩ := Pnt.blk HG2.out.pd
          go_wp2_with fail
          refine (box5_eq c d a _ Y3.out).mono ?_
          rintro e v3 ⟨rfl, hv3⟩
          have HG3 := Lib.hid (Four.next hv3 HG2.out)
          clear a0 a1 b0 b1 c0 c1 d0 d1 hv3
          obtain ⟨a0, a1⟩ := Pnt.blk HG3.out.pa
          obtain ⟨b0, b1⟩ := Pnt.blk HG3.out.pb
          obtain ⟨c0, c1⟩ := Pnt.blk HG3.out.pc
          obtain ⟨d0, d1⟩ := Pnt.blk HG3.out.pd
          go_wp2
          go_ret
          exact ⟨by rw [HE.out]; rfl, HG3.out.bel⟩
        · rcases D4 with ⟨z4, q4⟩ | ⟨z4, q4⟩ | z4
          · have HE : Hid (linesB a b c d = true) := by show _ = _; rw [HL.out]; simp [z1, z2, z3, z4, q1, q2, q3, q4]
            have E1 : Hid ((t1 == 0) = true) := by show _ = _; simp [z1]
            have Y1 := Lib.hid (HX1.out.trans q1)
            have E2 : Hid ((t2 == 0) = true) := by show _ = _; simp [z2]
            have Y2 := Lib.hid (HX2.out.trans q2)
            have E3 : Hid ((t3 == 0) = true) := by show _ = _; simp [z3]
            have Y3 := Lib.hid (HX3.out.trans q3)
            have E4 : Hid ((t4 == 0) = true) := by show _ = _; simp [z4]
            have Y4 := Lib.hid (HX4.out.trans q4)
            clear z1 z2 z3 z4 q1 q2 q3 q4
            have e1 := E1.out
            have e2 := E2.out
            have e3 := E3.out
            have e4 := E4.out
            go_wp2_with fail
            refine (box5_eq a b c _ Y1.out).mono ?_
            rintro e v1 ⟨rfl, hv1⟩
            have HG1 := Lib.hid (Four.next hv1 HF4.out)
            clear a0 a1 b0 b1 c0 c1 d0 d1 hv1
            obtain ⟨a0, a1⟩ := Pnt.blk HG1.out.pa
            obtain ⟨b0, b1⟩ := Pnt.blk HG1.out.pb
            obtain ⟨c0, c1⟩ := Pnt.blk HG1.out.pc
            obtain ⟨d0, d1⟩ := Pnt.blk HG1.out.pd
            go_wp2_with fail
            refine (box5_eq a b d _ Y2.out).mono ?_
            rintro e v2 ⟨rfl, hv2⟩
            have HG2 := Lib.hid (Four.next hv2 HG1.out)
            clear a0 a1 b0 b1 c0 c1 d0 d1 hv2
            obtain ⟨a0, a1⟩ := Pnt.blk HG2.out.pa
            obtain ⟨b0, b1⟩ := Pnt.blk HG2.out.pb
            obtain ⟨c0, c1⟩ := Pnt.blk HG2.out.pc
            obtain ⟨d0, d1⟩ := Pnt.blk HG2.out.pd
            go_wp2_with fail
            refine (box5_eq c d a _ Y3.out).mono ?_
            rintro e v3 ⟨rfl, hv3⟩
            have HG3 := Lib.hid (Four.next hv3 HG2.out)
            clear a0 a1 b0 b1 c0 c1 d0 d1 hv3
            obtain ⟨a0, a1⟩ := Pnt.blk HG3.out.pa
            obtain ⟨b0, b1⟩ := Pnt.blk HG3.out.pb
            obtain ⟨c0, c1⟩ := Pnt.blk HG3.out.pc
            obtain ⟨d0, d1⟩ := Pnt.blk HG3.out.pd
            go_wp2_with fail
            refine (box5_eq c d b _ Y4.out).mono ?_
            rintro e v4 ⟨rfl, hv4⟩
            have HG4 := Lib.hid (Four.next hv4 HG3.out)
            clear a0 a1 b0 b1 c0 c1 d0 d1 hv4
            obtain ⟨a0, a1⟩ := Pnt.blk HG4.out.pa
            obtain ⟨b0, b1⟩ := Pnt.blk HG4.out.pb
            obtain ⟨c0, c1⟩ := Pnt.blk HG4.out.pc
            obtain ⟨d0, d1⟩ := Pnt.blk HG4.out.pd
            go_wp2
            go_ret
            exact ⟨by rw [HE.out]; rfl, HG4.out.bel⟩
          · have HE : Hid (linesB a b c d = false) := by show _ = _; rw [HL.out]; simp [z1, z2, z3, z4, q1, q2, q3, q4]
            have E1 : Hid ((t1 == 0) = true) := by show _ = _; simp [z1]
            have Y1 := Lib.hid (HX1.out.trans q1)
            have E2 : Hid ((t2 == 0) = true) := by show _ = _; simp [z2]
            have Y2 := Lib.hid (HX2.out.trans q2)
            have E3 : Hid ((t3 == 0) = true) := by show _ = _; simp [z3]
            have Y3 := Lib.hid (HX3.out.trans q3)
            have E4 : Hid ((t4 == 0) = true) := by show _ = _; simp [z4]
            have Y4 := Lib.hid (HX4.out.trans q4)
            clear z1 z2 z3 z4 q1 q2 q3 q4
            have e1 := E1.out
            have e2 := E2.out
            have e3 := E3.out
            have e4 := E4.out
            go_wp2_with fail
            refine (box5_eq a b c _ Y1.out).mono ?_
            rintro e v1 ⟨rfl, hv1⟩
            have HG1 := Lib.hid (Four.next hv1 HF4.out)
            clear a0 a1 b0 b1 c0 c1 d0 d1 hv1
            obtain ⟨a0, a1⟩ := Pnt.blk HG1.out.pa
            obtain ⟨b0, b1⟩ := Pnt.blk HG1.out.pb
            obtain ⟨c0, c1⟩ := Pnt.blk HG1.out.pc
            obtain ⟨d0, d1⟩ := Pnt.blk HG1.out.pd
            go_wp2_with fail
            refine (box5_eq a b d _ Y2.out).mono ?_
            rintro e v2 ⟨rfl, hv2⟩
            have HG2 := Lib.hid (Four.next hv2 HG1.out)
            clear a0 a1 b0 b1 c0 c1 d0 d1 hv2
            obtain ⟨a0, a1⟩ := Pnt.blk HG2.out.pa
            obtain ⟨b0, b1⟩ := Pnt.blk HG2.out.pb
            obtain ⟨c0, c1⟩ := Pnt.blk HG2.out.pc
            obtain ⟨d0, d1⟩ := Pnt.blk HG2.out.pd
            go_wp2_with fail
            refine (box5_eq c d a _ Y3.out).mono ?_
            rintro e v3 ⟨rfl, hv3⟩
            have HG3 := Lib.hid (Four.next hv3 HG2.out)
            clear a0 a1 b0 b1 c0 c1 d0 d1 hv3
            obtain ⟨a0, a1⟩ := Pnt.blk HG3.out.pa
            obtain ⟨b0, b1⟩ := Pnt.blk HG3.out.pb
            obtain ⟨c0, c1⟩ := Pnt.blk HG3.out.pc
            obtain ⟨d0, d1⟩ := Pnt.blk HG3.out.pd
            go_wp2_with fail
            refine (box5_eq c d b _ Y4.out).mono ?_
            rintro e v4 ⟨rfl, hv4⟩
            have HG4 := Lib.hid (Four.next hv4 HG3.out)
            clear a0 a1 b0 b1 c0 c1 d0 d1 hv4
            obtain ⟨a0, a1⟩ := Pnt.blk HG4.out.pa
            obtain ⟨b0, b1⟩ := Pnt.blk HG4.out.pb
            obtain ⟨c0, c1⟩ := Pnt.blk HG4.out.pc
            obtain ⟨d0, d1⟩ := Pnt.blk HG4.out.pd
            go_wp2
            go_ret
            exact ⟨by rw [HE.out]; rfl, HG4.out.bel⟩
          · have HE : Hid (linesB a b c d = false) := by show _ = _; rw [HL.out]; simp [z1, z2, z3, z4, q1, q2, q3]
            have E1 : Hid ((t1 == 0) = true) := by show _ = _; simp [z1]
            have Y1 := Lib.hid (HX1.out.trans q1)
            have E2 : Hid ((t2 == 0) = true) := by show _ = _; simp [z2]
            have Y2 := Lib.hid (HX2.out.trans q2)
            have E3 : Hid ((t3 == 0) = true) := by show _ = _; simp [z3]
            have Y3 := Lib.hid (HX3.out.trans q3)
            have E4 : Hid ((t4 == 0) = false) := by show _ = _; simp [z4]
            clear z1 z2 z3 z4 q1 q2 q3
            have e1 := E1.out
            have e2 := E2.out
            have e3 := E3.out
            have e4 := E4.out
            go_wp2_with fail
            refine (box5_eq a b c _ Y1.out).mono ?_
            rintro e v1 ⟨rfl, hv1⟩
            have HG1 := Lib.hid (Four.next hv1 HF4.out)
            clear a0 a1 b0 b1 c0 c1 d0 d1 hv1
            obtain ⟨a0, a1⟩ := Pnt.blk HG1.out.pa
            obtain ⟨b0, b1⟩ := Pnt.blk HG1.out.pb
            obtain ⟨c0, c1⟩ := Pnt.blk HG1.out.pc
            obtain ⟨d0, d1⟩ := Pnt.blk HG1.out.pd
            go_wp2_with fail
            refine (box5_eq a b d _ Y2.out).mono ?_
            rintro e v2 ⟨rfl, hv2⟩
            have HG2 := Lib.hid (Four.next hv2 HG1.out)
            clear a0 a1 b0 b1 c0 c1 d0 d1 hv2
            obtain ⟨a0, a1⟩ := Pnt.blk HG2.out.pa
            obtain ⟨b0, b1⟩ := Pnt.blk HG2.out.pb
            obtain ⟨c0, c1⟩ := Pnt.blk HG2.out.pc
            obtain ⟨d0, d1⟩ := Pnt.blk HG2.out.pd
            go_wp2_with fail
            refine (box5_eq c d a _ Y3.out).mono ?_
            rintro e v3 ⟨rfl, hv3⟩
            have HG3 := Lib.hid (Four.next hv3 HG2.out)
            clear a0 a1 b0 b1 c0 c1 d0 d1 hv3
            obtain ⟨a0, a1⟩ := Pnt.blk HG3.out.pa
            obtain ⟨b0, b1⟩ := Pnt.blk HG3.out.pb
            obtain ⟨c0, c1⟩ := Pnt.blk HG3.out.pc
            obtain ⟨d0, d1⟩ := Pnt.blk HG3.out.pd
            go_wp2
            go_ret
            exact ⟨by rw [HE.out]; rfl, HG3.out.bel⟩
        · rcases D4 with ⟨z4, q4⟩ | ⟨z4, q4⟩ | z4
          · have HE : Hid (linesB a b c d = true) := by show _ = _; rw [HL.out]; simp [z1, z2, z3, z4, q1, q2, q4]
            have E1 : Hid ((t1 == 0) = true) := by show _ = _; simp [z1]
            have Y1 := Lib.hid (HX1.out.trans q1)
            have E2 : Hid ((t2 == 0) = true) := by show _ = _; simp [z2]
            have Y2 := Lib.hid (HX2.out.trans q2)
            have E3 : Hid ((t3 == 0) = false) := by show _ = _; simp [z3]
            have E4 : Hid ((t4 == 0) = true) := by show _ = _; simp [z4]
            have Y4 := Lib.hid (HX4.out.trans q4)
            clear z1 z2 z3 z4 q1 q2 q4
            have e1 := E1.out
            have e2 := E2.out
            have e3 := E3.out
            have e4 := E4.out
            go_wp2_with fail
            refine (box5_eq a b c _ Y1.out).mono ?_
            rintro e v1 ⟨rfl, hv1⟩
            have HG1 := Lib.hid (Four.next hv1 HF4.out)
            clear a0 a1 b0 b1 c0 c1 d0 d1 hv1
            obtain ⟨a0, a1⟩ := Pnt.blk HG1.out.pa
            obtain ⟨b0, b1⟩ := Pnt.blk HG1.out.pb
            obtain ⟨c0, c1⟩ := Pnt.blk HG1.out.pc
            obtain ⟨d0, d1⟩ := Pnt.blk HG1.out.pd
            go_wp2_with fail
            refine (box5_eq a b d _ Y2.out).mono ?_
            rintro e v2 ⟨rfl, hv2⟩
            have HG2 := Lib.hid (Four.next hv2 HG1.out)
            clear a0 a1 b0 b1 c0 c1 d0 d1 hv2
            obtain ⟨a0, a1⟩ := Pnt.blk HG2.out.pa
            obtain ⟨b0, b1⟩ := Pnt.blk HG2.out.pb
            obtain ⟨c0, c1⟩ := Pnt.blk HG2.out.pc
            obtain ⟨d0, d1⟩ := Pnt.blk HG2.out.pd
            go_wp2_with fail
            refine (box5_eq c d b _ Y4.out).mono ?_
            rintro e v4 ⟨rfl, hv4⟩
            have HG4 := Lib.hid (Four.next hv4 HG2.out)
            clear a0 a1 b0 b1 c0 c1 d0 d1 hv4
            obtain ⟨a0, a1⟩ := Pnt.blk HG4.out.pa
            obtain ⟨b0, b1⟩ := Pnt.blk HG4.out.pb
            obtain ⟨c0, c1⟩ := Pnt.blk HG4.out.pc
            obtain ⟨d0, d1⟩ := Pnt.blk HG4.out.pd
            go_wp2
            go_ret
            exact ⟨by rw [HE.out]; rfl, HG4.out.bel⟩
          · have HE : Hid (linesB a b c d = false) := by show _ = _; rw [HL.out]; simp [z1, z2, z3, z4, q1, q2, q4]
            have E1 : Hid ((t1 == 0) = true) := by show _ = _; simp [z1]
            have Y1 := Lib.hid (HX1.out.trans q1)
            have E2 : Hid ((t2 == 0) = true) := by show _ = _; simp [z2]
            have Y2 := Lib.hid (HX2.out.trans q2)
            have E3 : Hid ((t3 == 0) = false) := by show _ = _; simp [z3]
            have E4 : Hid ((t4 == 0) = true) := by show _ = _; simp [z4]
            have Y4 := Lib.hid (HX4.out.trans q4)
            clear z1 z2 z3 z4 q1 q2 q4
            have e1 := E1.out
            have e2 := E2.out
            have e3 := E3.out
            have e4 := E4.out
            go_wp2_with fail
            refine (box5_eq a b c _ Y1.out).mono ?_
            rintro e v1 ⟨rfl, hv1⟩
            have HG1 := Lib.hid (Four.next hv1 HF4.out)
            clear a0 a1 b0 b1 c0 c1 d0 d1 hv1
            obtain ⟨a0, a1⟩ := Pnt.blk HG1.out.pa
            obtain ⟨b0, b1⟩ := Pnt.blk HG1.out.pb
            obtain ⟨c0, c1⟩ := Pnt.blk HG1.out.pc
            obtain ⟨d0, d1⟩ := Pnt.blk HG1.out.pd
            go_wp2_with fail
            refine (box5_eq a b d _ Y2.out).mono ?_
            rintro e v2 ⟨rfl, hv2⟩
            have HG2 := Lib.hid (Four.next hv2 HG1.out)
            clear a0 a1 b0 b1 c0 c1 d0 d1 hv2
            obtain ⟨a0, a1⟩ := Pnt.blk HG2.out.pa
            obtain ⟨b0, b1⟩ := Pnt.blk HG2.out.pb
            obtain ⟨c0, c1⟩ := Pnt.blk HG2.out.pc
            obtain ⟨d0, d1⟩ := Pnt.blk HG2.out.pd
            go_wp2_with fail
            refine (box5_eq c d b _ Y4.out).mono ?_
            rintro e v4 ⟨rfl, hv4⟩
            have HG4 := Lib.hid (Four.next hv4 HG2.out)
            clear a0 a1 b0 b1 c0 c1 d0 d1 hv4
            obtain ⟨a0, a1⟩ := Pnt.blk HG4.out.pa
            obtain ⟨b0, b1⟩ := Pnt.blk HG4.out.pb
            obtain ⟨c0, c1⟩ := Pnt.blk HG4.out.pc
            obtain ⟨d0, d1⟩ := Pnt.blk HG4.out.pd
            go_wp2
            go_ret
            exact ⟨by rw [HE.out]; rfl, HG4.out.bel⟩
          · have HE : Hid (linesB a b c d = false) := by show _ = _; rw [HL.out]; simp [z1, z2, z3, z4, q1, q2]
            have E1 : Hid ((t1 == 0) = true) := by show _ = _; simp [z1]
            have Y1 := Lib.hid (HX1.out.trans q1)
            have E2 : Hid ((t2 == 0) = true) := by show _ = _; simp [z2]
            have Y2 := Lib.hid (HX2.out.trans q2)
            have E3 : Hid ((t3 == 0) = false) := by show _ = _; simp [z3]
            have E4 : Hid ((t4 == 0) = false) := by show _ = _; simp [z4]
            clear z1 z2 z3 z4 q1 q2
            have e1 := E1.out
            have e2 := E2.out
            have e3 := E3.out
            have e4 := E4.out
            go_wp2_with fail
            refine (box5_eq a b c _ Y1.out).mono ?_
            rintro e v1 ⟨rfl, hv1⟩
            have HG1 := Lib.hid (Four.next hv1 HF4.out)
            clear a0 a1 b0 b1 c0 c1 d0 d1 hv1
            obtain ⟨a0, a1⟩ := Pnt.blk HG1.out.pa
            obtain ⟨b0, b1⟩ := Pnt.blk HG1.out.pb
            obtain ⟨c0, c1⟩ := Pnt.blk HG1.out.pc
            obtain ⟨d0, d1⟩ := Pnt.blk HG1.out.pd
            go_wp2_with fail
            refine (box5_eq a b d _ Y2.out).mono ?_
            rintro e v2 ⟨rfl, hv2⟩
            have HG2 := Lib.hid (Four.next hv2 HG1.out)
            clear a0 a1 b0 b1 c0 c1 d0 d1 hv2
            obtain ⟨a0, a1⟩ := Pnt.blk HG2.out.pa
            obtain ⟨b0, b1⟩ := Pnt.blk HG2.out.pb
            obtain ⟨c0, c1⟩ := Pnt.blk HG2.out.pc
            obtain ⟨d0, d1⟩ := Pnt.blk HG2.out.pd
            go_wp2
            go_ret
            exact ⟨by rw [HE.out]; rfl, HG2.out.bel⟩
      · rcases D3 with ⟨z3, q3⟩ | ⟨z3, q3⟩ | z3
        · have HE : Hid (linesB a b c d = true) := by show _ = _; rw [HL.out]; simp [z1, z2, z3, q1, q3]
          have E1 : Hid ((t1 == 0) = true) := by show _ = _; simp [z1]
          have Y1 := Lib.hid (HX1.out.trans q1)
          have E2 : Hid ((t2 == 0) = false) := by show _ = _; simp [z2]
          have E3 : Hid ((t3 == 0) = true) := by show _ = _; simp [z3]
          have Y3 := Lib.hid (HX3.out.trans q3)
          clear z1 z2 z3 q1 q3
          clear D4
          have e1 := E1.out
          have e2 := E2.out
          have e3 := E3.out
          go_wp2_with fail
          refine (box5_eq a b c _ Y1.out).mono ?_
          rintro e v1 ⟨rfl, hv1⟩
          have HG1 := Lib.hid (Four.next hv1 HF4.out)
          clear a0 a1 b0 b1 c0 c1 d0 d1 hv1
          obtain ⟨a0, a1⟩ := Pnt.blk HG1.out.pa
          obtain ⟨b0, b1⟩ := Pnt.blk HG1.out.pb
          obtain ⟨c0, c1⟩ := Pnt.blk HG1.out.pc
          obtain ⟨d0, d1⟩ := Pnt.blk HG1.out.pd
          go_wp2_with fail
          refine (box5_eq c d a _ Y3.out).mono ?_
          rintro e v3 ⟨rfl, hv3⟩
          have HG3 := Lib.hid (Four.next hv3 HG1.out)
          clear a0 a1 b0 b1 c0 c1 d0 d1 hv3
          obtain ⟨a0, a1⟩ := Pnt.blk HG3.out.pa
          obtain ⟨b0, b1⟩ := Pnt.blk HG3.out.pb
          obtain ⟨c0, c1⟩ := Pnt.blk HG3.out.pc
          obtain ⟨d0, d1⟩ := Pnt.blk HG3.out.pd
          go_wp2
          go_ret
          exact ⟨by rw [HE.out]; rfl, HG3.out.bel⟩
        · rcases D4 with ⟨z4, q4⟩ | ⟨z4, q4⟩ | z4
          · have HE : Hid (linesB a b c d = true) := by show _ = _; rw [HL.out]; simp [z1, z2, z3, z4, q1, q3, q4]
            have E1 : Hid ((t1 == 0) = true) := by show _ = _; simp [z1]
            have Y1 := Lib.hid (HX1.out.trans q1)
            have E2 : Hid ((t2 == 0) = false) := by show _ = _; simp [z2]
            have E3 : Hid ((t3 == 0) = true) := by show _ = _; simp [z3]
            have Y3 := Lib.hid (HX3.out.trans q3)
            have E4 : Hid ((t4 == 0) = true) := by show _ = _; simp [z4]
            have Y4 := Lib.hid (HX4.out.trans q4)
            clear z1 z2 z3 z4 q1 q3 q4
            have e1 := E1.out
            have e2 := E2.out
            have e3 := E3.out
            have e4 := E4.out
            go_wp2_with fail
            refine (box5_eq a b c _ Y1.out).mono ?_
            rintro e v1 ⟨rfl, hv1⟩
            have HG1 := Lib.hid (Four.next hv1 HF4.out)
            clear a0 a1 b0 b1 c0 c1 d0 d1 hv1
            obtain ⟨a0, a1⟩ := Pnt.blk HG1.out.pa
            obtain ⟨b0, b1⟩ := Pnt.blk HG1.out.pb
            obtain ⟨c0, c1⟩ := Pnt.blk HG1.out.pc
            obtain ⟨d0, d1⟩ := Pnt.blk HG1.out.pd
            go_wp2_with fail
            refine (box5_eq c d a _ Y3.out).mono ?_
            rintro e v3 ⟨rfl, hv3⟩
            have HG3 := Lib.hid (Four.next hv3 HG1.out)
            clear a0 a1 b0 b1 c0 c1 d0 d1 hv3
            obtain ⟨a0, a1⟩ := Pnt.blk HG3.out.pa
            obtain ⟨b0, b1⟩ := Pnt.blk HG3.out.pb
            obtain ⟨c0, c1⟩ := Pnt.blk HG3.out.pc
            obtain ⟨d0, d1⟩ := Pnt.blk HG3.out.pd
            go_wp2_with fail
            refine (box5_eq c d b _ Y4.out).mono ?_
            rintro e v4 ⟨rfl, hv4⟩
            have HG4 := Lib.hid (Four.next hv4 HG3.out)
            clear a0 a1 b0 b1 c0 c1 d0 d1 hv4
            obtain ⟨a0, a1⟩ := Pnt.blk HG4.out.pa
            obtain ⟨b0, b1⟩ := Pnt.blk HG4.out.pb
            obtain ⟨c0, c1⟩ := Pnt.blk HG4.out.pc
            obtain ⟨d0, d1⟩ := Pnt.blk HG4.out.pd
            go_wp2
            go_ret
            exact ⟨by rw [HE.out]; rfl, HG4.out.bel⟩
          · have HE : Hid (linesB a b c d = false) := by show _ = _; rw [HL.out]; simp [z1, z2, z3, z4, q1, q3, q4]
            have E1 : Hid ((t1 == 0) = true) := by show _ = _; simp [z1]
            have Y1 := Lib.hid (HX1.out.trans q1)
            have E2 : Hid ((t2 == 0) = false) := by show _ = _; simp [z2]
            have E3 : Hid ((t3 == 0) = true) := by show _ = _; simp [z3]
            have Y3 := Lib.hid (HX3.out.trans q3)
            have E4 : Hid ((t4 == 0) = true) := by show _ = _; simp [z4]
            have Y4 := Lib.hid (HX4.out.trans q4)
            clear z1 z2 z3 z4 q1 q3 q4
            have e1 := E1.out
            have e2 := E2.out
            have e3 := E3.out
            have e4 := E4.out
            go_wp2_with fail
            refine (box5_eq a b c _ Y1.out).mono ?_
            rintro e v1 ⟨rfl, hv1⟩
            have HG1 := Lib.hid (Four.next hv1 HF4.out)
            clear a0 a1 b0 b1 c0 c1 d0 d1 hv1
            obtain ⟨a0, a1⟩ := Pnt.blk HG1.out.pa
            obtain ⟨b0, b1⟩ := Pnt.blk HG1.out.pb
            obtain ⟨c0, c1⟩ := Pnt.blk HG1.out.pc
            obtain ⟨d0, d1⟩ := Pnt.blk HG1.out.pd
            go_wp2_with fail
            refine (box5_eq c d a _ Y3.out).mono ?_
            rintro e v3 ⟨rfl, hv3⟩
            have HG3 := Lib.hid (Four.next hv3 HG1.out)
            clear a0 a1 b0 b1 c0 c1 d0 d1 hv3
            obtain ⟨a0, a1⟩ := Pnt.blk HG3.out.pa
            obtain ⟨b0, b1⟩ := Pnt.blk HG3.out.pb
            obtain ⟨c0, c1⟩ := Pnt.blk HG3.out.pc
            obtain ⟨d0, d1⟩ := Pnt.blk HG3.out.pd
            go_wp2_with fail
            refine (box5_eq c d b _ Y4.out).mono ?_
            rintro e v4 ⟨rfl, hv4⟩
            have HG4 := Lib.hid (Four.next hv4 HG3.out)
            clear a0 a1 b0 b1 c0 c1 d0 d1 hv4
            obtain ⟨a0, a1⟩ := Pnt.blk HG4.out.pa
            obtain ⟨b0, b1⟩ := Pnt.blk HG4.out.pb
            obtain ⟨c0, c1⟩ := Pnt.blk HG4.out.pc
            obtain ⟨d0, d1⟩ := Pnt.blk HG4.out.pd
            go_wp2
            go_ret
            exact ⟨by rw [HE.out]; rfl, HG4.out.bel⟩
          · have HE : Hid (linesB a b c d = false) := by show _ = _; rw [HL.out]; simp [z1, z2, z3, z4, q1, q3]
            have E1 : Hid ((t1 == 0) = true) := by show _ = _; simp [z1]
            have Y1 := Lib.hid (HX1.out.trans q1)
            have E2 : Hid ((t2 == 0) = false) := by show _ = _; simp [z2]
            have E3 : Hid ((t3 == 0) = true) := by show _ = _; simp [z3]
            have Y3 := Lib.hid (HX3.out.trans q3)
            have E4 : Hid ((t4 == 0) = false) := by show _ = _; simp [z4]
            clear z1 z2 z3 z4 q1 q3
            have e1 := E1.out
            have e2 := E2.out
            have e3 := E3.out
            have e4 := E4.out
            go_wp2_with fail
            refine (box5_eq a b c _ Y1.out).mono ?_
            rintro e v1 ⟨rfl, hv1⟩
            have HG1 := Lib.hid (Four.next hv1 HF4.out)
            clear a0 a1 b0 b1 c0 c1 d0 d1 hv1
            obtain ⟨a0, a1⟩ := Pnt.blk HG1.out.pa
            obtain ⟨b0, b1⟩ := Pnt.blk HG1.out.pb
            obtain ⟨c0, c1⟩ := Pnt.blk HG1.out.pc
            obtain ⟨d0, d1⟩ := Pnt.blk HG1.out.pd
            go_wp2_with fail
            refine (box5_eq c d a _ Y3.out).mono ?_
            rintro e v3 ⟨rfl, hv3⟩
            have HG3 := Lib.hid (Four.next hv3 HG1.out)
            clear a0 a1 b0 b1 c0 c1 d0 d1 hv3
            obtain ⟨a0, a1⟩ := Pnt.blk HG3.out.pa
            obtain ⟨b0, b1⟩ := Pnt.blk HG3.out.pb
            obtain ⟨c0, c1⟩ := Pnt.blk HG3.out.pc
            obtain ⟨d0, d1⟩ := Pnt.blk HG3.out.pd
            go_wp2
            go_ret
            exact ⟨by rw [HE.out]; rfl, HG3.out.bel⟩
        · rcases D4 with ⟨z4, q4⟩ | ⟨z4, q4⟩ | z4
          · have HE : Hid (linesB a b c d = true) := by show _ = _; rw [HL.out]; simp [z1, z2, z3, z4, q1, q4]
            have E1 : Hid ((t1 == 0) = true) := by show _ = _; simp [z1]
            have Y1 := Lib.hid (HX1.out.trans q1)
            have E2 : Hid ((t2 == 0) = false) := by show _ = _; simp [z2]
            have E3 : Hid ((t3 == 0) = false) := by show _ = _; simp [z3]
            have E4 : Hid ((t4 == 0) = true) := by show _ = _; simp [z4]
            have Y4 := Lib.hid (HX4.out.trans q4)
            clear z1 z2 z3 z4 q1 q4
            have e1 := E1.out
            have e2 := E2.out
            have e3 := E3.out
            have e4 := E4.out
            go_wp2_with fail
            refine (box5_eq a b c _ Y1.out).mono ?_
            rintro e v1 ⟨rfl, hv1⟩
            have HG1 := Lib.hid (Four.next hv1 HF4.out)
            clear a0 a1 b0 b1 c0 c1 d0 d1 hv1
            obtain ⟨a0, a1⟩ := Pnt.blk HG1.out.pa
            obtain ⟨b0, b1⟩ := Pnt.blk HG1.out.pb
            obtain ⟨c0, c1⟩ := Pnt.blk HG1.out.pc
            obtain ⟨d0, d1⟩ := Pnt.blk HG1.out.pd
            go_wp2_with fail
            refine (box5_eq c d b _ Y4.out).mono ?_
            rintro e v4 ⟨rfl, hv4⟩
            have HG4 := Lib.hid (Four.next hv4 HG1.out)
            clear a0 a1 b0 b1 c0 c1 d0 d1 hv4
            obtain ⟨a0, a1⟩ := Pnt.blk HG4.out.pa
            obtain ⟨b0, b1⟩ := Pnt.blk HG4.out.pb
            obtain ⟨c0, c1⟩ := Pnt.blk HG4.out.pc
            obtain ⟨d0, d1⟩ := Pnt.blk HG4.out.pd
            go_wp2
            go_ret
            exact ⟨by rw [HE.out]; rfl, HG4.out.bel⟩
          · have HE : Hid (linesB a b c d = false) := by show _ = _; rw [HL.out]; simp [z1, z2, z3, z4, q1, q4]
            have E1 : Hid ((t1 == 0) = true) := by show _ = _; simp [z1]
            have Y1 := Lib.hid (HX1.out.trans q1)
            have E2 : Hid ((t2 == 0) = false) := by show _ = _; simp [z2]
            have E3 : Hid ((t3 == 0) = false) := by show _ = _; simp [z3]
            have E4 : Hid ((t4 == 0) = true) := by show _ = _; simp [z4]
            have Y4 := Lib.hid (HX4.out.trans q4)
            clear z1 z2 z3 z4 q1 q4
            have e1 := E1.out
            have e2 := E2.out
            have e3 := E3.out
            have e4 := E4.out
            go_wp2_with fail
            refine (box5_eq a b c _ Y1.out).mono ?_
            rintro e v1 ⟨rfl, hv1⟩
            have HG1 := Lib.hid (Four.next hv1 HF4.out)
            clear a0 a1 b0 b1 c0 c1 d0 d1 hv1
            obtain ⟨a0, a1⟩ := Pnt.blk HG1.out.pa
            obtain ⟨b0, b1⟩ := Pnt.blk HG1.out.pb
            obtain ⟨c0, c1⟩ := Pnt.blk HG1.out.pc
            obtain ⟨d0, d1⟩ := Pnt.blk HG1.out.pd
            go_wp2_with fail
            refine (box5_eq c d b _ Y4.out).mono ?_
            rintro e v4 ⟨rfl, hv4⟩
            have HG4 := Lib.hid (Four.next hv4 HG1.out)
            clear a0 a1 b0 b1 c0 c1 d0 d1 hv4
            obtain ⟨a0, a1⟩ := Pnt.blk HG4.out.pa
            obtain ⟨b0, b1⟩ := Pnt.blk HG4.out.pb
            obtain ⟨c0, c1⟩ := Pnt.blk HG4.out.pc
            obtain ⟨d0, d1⟩ := Pnt.blk HG4.out.pd
            go_wp2
            go_ret
            exact ⟨by rw [HE.out]; rfl, HG4.out.bel⟩
          · have HE : Hid (linesB a b c d = false) := by show _ = _; rw [HL.out]; simp [z1, z2, z3, z4, q1]
            have E1 : Hid ((t1 == 0) = true) := by show _ = _; simp [z1]
            have Y1 := Lib.hid (HX1.out.trans q1)
            have E2 : Hid ((t2 == 0) = false) := by show _ = _; simp [z2]
            have E3 : Hid ((t3 == 0) = false) := by show _ = _; simp [z3]
            have E4 : Hid ((t4 == 0) = false) := by show _ = _; simp [z4]
            clear z1 z2 z3 z4 q1
            have e1 := E1.out
            have e2 := E2.out
            have e3 := E3.out
            have e4 := E4.out
            go_wp2_with fail
            refine (box5_eq a b c _ Y1.out).mono ?_
            rintro e v1 ⟨rfl, hv1⟩
            have HG1 := Lib.hid (Four.next hv1 HF4.out)
            clear a0 a1 b0 b1 c0 c1 d0 d1 hv1
            obtain ⟨a0, a1⟩ := Pnt.blk HG1.out.pa
            obtain ⟨b0, b1⟩ := Pnt.blk HG1.out.pb
            obtain ⟨c0, c1⟩ := Pnt.blk HG1.out.pc
            obtain ⟨d0, d1⟩ := Pnt.blk HG1.out.pd
            go_wp2
            go_ret
            exact ⟨by rw [HE.out]; rfl, HG1.out.bel⟩
    · rcases D2 with ⟨z2, q2⟩ | ⟨z2, q2⟩ | z2
      · have HE : Hid (linesB a b c d = true) := by show _ = _; rw [HL.out]; simp [z1, z2, q2]
        have E1 : Hid ((t1 == 0) = false) := by show _ = _; simp [z1]
        have E2 : Hid ((t2 == 0) = true) := by show _ = _; simp [z2]
        have Y2 := Lib.hid (HX2.out.trans q2)
        clear z1 z2 q2
        clear D3 D4
        have e1 := E1.out
        have e2 := E2.out
        go_wp2_with fail
        refine (box5_eq a b d _ Y2.out).mono ?_
        rintro e v2 ⟨rfl, hv2⟩
        have HG2 := Lib.hid (Four.next hv2 HF4.out)
        clear a0 a1 b0 b1 c0 c1 d0 d1 hv2
        obtain ⟨a0, a1⟩ := Pnt.blk HG2.out.pa
        obtain ⟨b0, b1⟩ := Pnt.blk HG2.out.pb
        obtain ⟨c0, c1⟩ := Pnt.blk HG2.out.pc
        obtain ⟨d0, d1⟩ := Pnt.blk HG2.out.pd
        go_wp2
        go_ret
        exact ⟨by rw [HE.out]; rfl, HG2.out.bel⟩
      · rcases D3 with ⟨z3, q3⟩ | ⟨z3, q3⟩ | z3
        · have HE : Hid (linesB a b c d = true) := by show _ = _; rw [HL.out]; simp [z1, z2, z3, q2, q3]
          have E1 : Hid ((t1 == 0) = false) := by show _ = _; simp [z1]
          have E2 : Hid ((t2 == 0) = true) := by show _ = _; simp [z2]
          have Y2 := Lib.hid (HX2.out.trans q2)
          have E3 : Hid ((t3 == 0) = true) := by show _ = _; simp [z3]
          have Y3 := Lib.hid (HX3.out.trans q3)
          clear z1 z2 z3 q2 q3
          clear D4
          have e1 := E1.out
          have e2 := E2.out
          have e3 := E3.out
          go_wp2_with fail
          refine (box5_eq a b d _ Y2.out).mono ?_
          rintro e v2 ⟨rfl, hv2⟩
          have HG2 := Lib.hid (Four.next hv2 HF4.out)
          clear a0 a1 b0 b1 c0 c1 d0 d1 hv2
          obtain ⟨a0, a1⟩ := Pnt.blk HG2.out.pa
          obtain ⟨b0, b1⟩ := Pnt.blk HG2.out.pb
          obtain ⟨c0, c1⟩ := Pnt.blk HG2.out.pc
          obtain ⟨d0, d1⟩ := Pnt.blk HG2.out.pd
          go_wp2_with fail
          refine (box5_eq c d a _ Y3.out).mono ?_
          rintro e v3 ⟨rfl, hv3⟩
          have HG3 := Lib.hid (Four.next hv3 HG2.out)
          clear a0 a1 b0 b1 c0 c1 d0 d1 hv3
          obtain ⟨a0, a1⟩ := Pnt.blk HG3.out.pa
          obtain ⟨b0, b1⟩ := Pnt.blk HG3.out.pb
          obtain ⟨c0, c1⟩ := Pnt.blk HG3.out.pc
          obtain ⟨d0, d1⟩ := Pnt.blk HG3.out.pd
          go_wp2
          go_ret
          exact ⟨by rw [HE.out]; rfl, HG3.out.bel⟩
        · rcases D4 with ⟨z4, q4⟩ | ⟨z4, q4⟩ | z4
          · have HE : Hid (linesB a b c d = true) := by show _ = _; rw [HL.out]; simp [z1, z2, z3, z4, q2, q3, q4]
            have E1 : Hid ((t1 == 0) = false) := by show _ = _; simp [z1]
            have E2 : Hid ((t2 == 0) = true) := by show _ = _; simp [z2]
            have Y2 := Lib.hid (HX2.out.trans q2)
            have E3 : Hid ((t3 == 0) = true) := by show _ = _; simp [z3]
            have Y3 := Lib.hid (HX3.out.trans q3)
            have E4 : Hid ((t4 == 0) = true) := by show _ = _; simp [z4]
            have Y4 := Lib.hid (HX4.out.trans q4)
            clear z1 z2 z3 z4 q2 q3 q4
            have e1 := E1.out
            have e2 := E2.out
            have e3 := E3.out
            have e4 := E4.out
            go_wp2_with fail
            refine (box5_eq a b d _ Y2.out).mono ?_
            rintro e v2 ⟨rfl, hv2⟩
            have HG2 := Lib.hid (Four.next hv2 HF4.out)
            clear a0 a1 b0 b1 c0 c1 d0 d1 hv2
            obtain ⟨a0, a1⟩ := Pnt.blk HG2.out.pa
            obtain ⟨b0, b1⟩ := Pnt.blk HG2.out.pb
            obtain ⟨c0, c1⟩ := Pnt.blk HG2.out.pc
            obtain ⟨d0, d1⟩ := Pnt.blk HG2.out.pd
            go_wp2_with fail
            refine (box5_eq c d a _ Y3.out).mono ?_
            rintro e v3 ⟨rfl, hv3⟩
            have HG3 := Lib.hid (Four.next hv3 HG2.out)
            clear a0 a1 b0 b1 c0 c1 d0 d1 hv3
            obtain ⟨a0, a1⟩ := Pnt.blk HG3.out.pa
            obtain ⟨b0, b1⟩ := Pnt.blk HG3.out.pb
            obtain ⟨c0, c1⟩ := Pnt.blk HG3.out.pc
            obtain ⟨d0, d1⟩ := Pnt.blk HG3.out.pd
            go_wp2_with fail
            refine (box5_eq c d b _ Y4.out).mono ?_
            rintro e v4 ⟨rfl, hv4⟩
            have HG4 := Lib.hid (Four.next hv4 HG3.out)
            clear a0 a1 b0 b1 c0 c1 d0 d1 hv4
            obtain ⟨a0, a1⟩ := Pnt.blk HG4.out.pa
            obtain ⟨b0, b1⟩ := Pnt.blk HG4.out.pb
            obtain ⟨c0, c1⟩ := Pnt.blk HG4.out.pc
            obtain ⟨d0, d1⟩ := Pnt.blk HG4.out.pd
            go_wp2
            go_ret
            exact ⟨by rw [HE.out]; rfl, HG4.out.bel⟩
          · have HE : Hid (linesB a b c d = false) := by show _ = _; rw [HL.out]; simp [z1, z2, z3, z4, q2, q3, q4]
            have E1 : Hid ((t1 == 0) = false) := by show _ = _; simp [z1]
            have E2 : Hid ((t2 == 0) = true) := by show _ = _; simp [z2]
            have Y2 := Lib.hid (HX2.out.trans q2)
            have E3 : Hid ((t3 == 0) = true) := by show _ = _; simp [z3]
            have Y3 := Lib.hid (HX3.out.trans q3)
            have E4 : Hid ((t4 == 0) = true) := by show _ = _; simp [z4]
            have Y4 := Lib.hid (HX4.out.trans q4)
            clear z1 z2 z3 z4 q2 q3 q4
            have e1 := E1.out
            have e2 := E2.out
            have e3 := E3.out
            have e4 := E4.out
            go_wp2_with fail
            refine (box5_eq a b d _ Y2.out).mono ?_
            rintro e v2 ⟨rfl, hv2⟩
            have HG2 := Lib.hid (Four.next hv2 HF4.out)
            clear a0 a1 b0 b1 c0 c1 d0 d1 hv2
            obtain ⟨a0, a1⟩ := Pnt.blk HG2.out.pa
            obtain ⟨b0, b1⟩ := Pnt.blk HG2.out.pb
            obtain ⟨c0, c1⟩ := Pnt.blk HG2.out.pc
            obtain ⟨d0, d1⟩ := Pnt.blk HG2.out.pd
            go_wp2_with fail
            refine (box5_eq c d a _ Y3.out).mono ?_
            rintro e v3 ⟨rfl, hv3⟩
            have HG3 := Lib.hid (Four.next hv3 HG2.out)
            clear a0 a1 b0 b1 c0 c1 d0 d1 hv3
            obtain ⟨a0, a1⟩ := Pnt.blk HG3.out.pa
            obtain ⟨b0, b1⟩ := Pnt.blk HG3.out.pb
            obtain ⟨c0, c1⟩ := Pnt.blk HG3.out.pc
            obtain ⟨d0, d1⟩ := Pnt.blk HG3.out.pd
            go_wp2_with fail
            refine (box5_eq c d b _ Y4.out).mono ?_
            rintro e v4 ⟨rfl, hv4⟩
            have HG4 := Lib.hid (Four.next hv4 HG3.out)
            clear a0 a1 b0 b1 c0 c1 d0 d1 hv4
            obtain ⟨a0, a1⟩ := Pnt.blk HG4.out.pa
            obtain ⟨b0, b1⟩ := Pnt.blk HG4.out.pb
            obtain ⟨c0, c1⟩ := Pnt.blk HG4.out.pc
            obtain ⟨d0, d1⟩ := Pnt.blk HG4.out.pd
            go_wp2
            go_ret
            exact ⟨by rw [HE.out]; rfl, HG4.out.bel⟩
          · have HE : Hid (linesB a b c d = false) := by show _ = _; rw [HL.out]; simp [z1, z2, z3, z4, q2, q3]
            have E1 : Hid ((t1 == 0) = false) := by show _ = _; simp [z1]
            have E2 : Hid ((t2 == 0) = true) := by show _ = _; simp [z2]
            have Y2 := Lib.hid (HX2.out.trans q2)
            have E3 : Hid ((t3 == 0) = true) := by show _ = _; simp [z3]
            have Y3 := Lib.hid (HX3.out.trans q3)
            have E4 : Hid ((t4 == 0) = false) := by show _ = _; simp [z4]
            clear z1 z2 z3 z4 q2 q3
            have e1 := E1.out
            have e2 := E2.out
            have e3 := E3.out
            have e4 := E4.out
            go_wp2_with fail
            refine (box5_eq a b d _ Y2.out).mono ?_
            rintro e v2 ⟨rfl, hv2⟩
            have HG2 := Lib.hid (Four.next hv2 HF4.out)
            clear a0 a1 b0 b1 c0 c1 d0 d1 hv2
            obtain ⟨a0, a1⟩ := Pnt.blk HG2.out.pa
            obtain ⟨b0, b1⟩ := Pnt.blk HG2.out.pb
            obtain ⟨c0, c1⟩ := Pnt.blk HG2.out.pc
            obtain ⟨d0, d1⟩ := Pnt.blk HG2.out.pd
            go_wp2_with fail
            refine (box5_eq c d a _ Y3.out).mono ?_
            rintro e v3 ⟨rfl, hv3⟩
            have HG3 := Lib.hid (Four.next hv3 HG2.out)
            clear a0 a1 b0 b1 c0 c1 d0 d1 hv3
            obtain ⟨a0, a1⟩ := Pnt.blk HG3.out.pa
            obtain ⟨b0, b1⟩ := Pnt.blk HG3.out.pb
            obtain ⟨c0, c1⟩ := Pnt.blk HG3.out.pc
            obtain ⟨d0, d1⟩ := Pnt.blk HG3.out.pd
            go_wp2
            go_ret
            exact ⟨by rw [HE.out]; rfl, HG3.out.bel⟩
        · rcases D4 with ⟨z4, q4⟩ | ⟨z4, q4⟩ | z4
          · have HE : Hid (linesB a b c d = true) := by show _ = _; rw [HL.out]; simp [z1, z2, z3, z4, q2, q4]
            have E1 : Hid ((t1 == 0) = false) := by show _ = _; simp [z1]
            have E2 : Hid ((t2 == 0) = true) := by show _ = _; simp [z2]
            have Y2 := Lib.hid (HX2.out.trans q2)
            have E3 : Hid ((t3 == 0) = false) := by show _ = _; simp [z3]
            have E4 : Hid ((t4 == 0) = true) := by show _ = _; simp [z4]
            have Y4 := Lib.hid (HX4.out.trans q4)
            clear z1 z2 z3 z4 q2 q4
            have e1 := E1.out
            have e2 := E2.out
            have e3 := E3.out
            have e4 := E4.out
            go_wp2_with fail
            refine (box5_eq a b d _ Y2.out).mono ?_
            rintro e v2 ⟨rfl, hv2⟩
            have HG2 := Lib.hid (Four.next hv2 HF4.out)
            clear a0 a1 b0 b1 c0 c1 d0 d1 hv2
            obtain ⟨a0, a1⟩ := Pnt.blk HG2.out.pa
            obtain ⟨b0, b1⟩ := Pnt.blk HG2.out.pb
            obtain ⟨c0, c1⟩ := Pnt.blk HG2.out.pc
            obtain ⟨d0, d1⟩ := Pnt.blk HG2.out.pd
            go_wp2_with fail
            refine (box5_eq c d b _ Y4.out).mono ?_
            rintro e v4 ⟨rfl, hv4⟩
            have HG4 := Lib.hid (Four.next hv4 HG2.out)
            clear a0 a1 b0 b1 c0 c1 d0 d1 hv4
            obtain ⟨a0, a1⟩ := Pnt.blk HG4.out.pa
            obtain ⟨b0, b1⟩ := Pnt.blk HG4.out.pb
            obtain ⟨c0, c1⟩ := Pnt.blk HG4.out.pc
            obtain ⟨d0, d1⟩ := Pnt.blk HG4.out.pd
            go_wp2
            go_ret
            exact ⟨by rw [HE.out]; rfl, HG4.out.bel⟩
          · have HE : Hid (linesB a b c d = false) := by show _ = _; rw [HL.out]; simp [z1, z2, z3, z4, q2, q4]
            have E1 : Hid ((t1 == 0) = false) := by show _ = _; simp [z1]
            have E2 : Hid ((t2 == 0) = true) := by show _ = _; simp [z2]
            have Y2 := Lib.hid (HX2.out.trans q2)
            have E3 : Hid ((t3 == 0) = false) := by show _ = _; simp [z3]
            have E4 : Hid ((t4 == 0) = true) := by show _ = _; simp [z4]
            have Y4 := Lib.hid (HX4.out.trans q4)
            clear z1 z2 z3 z4 q2 q4
            have e1 := E1.out
            have e2 := E2.out
            have e3 := E3.out
            have e4 := E4.out
            go_wp2_with fail
            refine (box5_eq a b d _ Y2.out).mono ?_
            rintro e v2 ⟨rfl, hv2⟩
            have HG2 := Lib.hid (Four.next hv2 HF4.out)
            clear a0 a1 b0 b1 c0 c1 d0 d1 hv2
            obtain ⟨a0, a1⟩ := Pnt.blk HG2.out.pa
            obtain ⟨b0, b1⟩ := Pnt.blk HG2.out.pb
            obtain ⟨c0, c1⟩ := Pnt.blk HG2.out.pc
            obtain ⟨d0, d1⟩ := Pnt.blk HG2.out.pd
            go_wp2_with fail
            refine (box5_eq c d b _ Y4.out).mono ?_
            rintro e v4 ⟨rfl, hv4⟩
            have HG4 := Lib.hid (Four.next hv4 HG2.out)
            clear a0 a1 b0 b1 c0 c1 d0 d1 hv4
            obtain ⟨a0, a1⟩ := Pnt.blk HG4.out.pa
            obtain ⟨b0, b1⟩ := Pnt.blk HG4.out.pb
            obtain ⟨c0, c1⟩ := Pnt.blk HG4.out.pc
            obtain ⟨d0, d1⟩ := Pnt.blk HG4.out.pd
            go_wp2
            go_ret
            exact ⟨by rw [HE.out]; rfl, HG4.out.bel⟩
          · have HE : Hid (linesB a b c d = false) := by show _ = _; rw [HL.out]; simp [z1, z2, z3, z4, q2]
            have E1 : Hid ((t1 == 0) = false) := by show _ = _; simp [z1]
            have E2 : Hid ((t2 == 0) = true) := by show _ = _; simp [z2]
            have Y2 := Lib.hid (HX2.out.trans q2)
            have E3 : Hid ((t3 == 0) = false) := by show _ = _; simp [z3]
            have E4 : Hid ((t4 == 0) = false) := by show _ = _; simp [z4]
            clear z1 z2 z3 z4 q2
            have e1 := E1.out
            have e2 := E2.out
            have e3 := E3.out
            have e4 := E4.out
            go_wp2_with fail
            refine (box5_eq a b d _ Y2.out).mono ?_
            rintro e v2 ⟨rfl, hv2⟩
            have HG2 := Lib.hid (Four.next hv2 HF4.out)
            clear a0 a1 b0 b1 c0 c1 d0 d1 hv2
            obtain ⟨a0, a1⟩ := Pnt.blk HG2.out.pa
            obtain ⟨b0, b1⟩ := Pnt.blk HG2.out.pb
            obtain ⟨c0, c1⟩ := Pnt.blk HG2.out.pc
            obtain ⟨d0, d1⟩ := Pnt.blk HG2.out.pd
            go_wp2
            go_ret
            exact ⟨by rw [HE.out]; rfl, HG2.out.bel⟩
      · rcases D3 with ⟨z3, q3⟩ | ⟨z3, q3⟩ | z3
        · have HE : Hid (linesB a b c d = true) := by show _ = _; rw [HL.out]; simp [hP, z1, z2, z3, q3]
          have E1 : Hid ((t1 == 0) = false) := by show _ = _; simp [z1]
          have E2 : Hid ((t2 == 0) = false) := by show _ = _; simp [z2]
          have E3 : Hid ((t3 == 0) = true) := by show _ = _; simp [z3]
          have Y3 := Lib.hid (HX3.out.trans q3)
          clear z1 z2 z3 q3
          clear D4
          have e1 := E1.out
          have e2 := E2.out
          have e3 := E3.out
          go_wp2_with fail
          refine (box5_eq c d a _ Y3.out).mono ?_
          rintro e v3 ⟨rfl, hv3⟩
          have HG3 := Lib.hid (Four.next hv3 HF4.out)
          clear a0 a1 b0 b1 c0 c1 d0 d1 hv3
          obtain ⟨a0, a1⟩ := Pnt.blk HG3.out.pa
          obtain ⟨b0, b1⟩ := Pnt.blk HG3.out.pb
          obtain ⟨c0, c1⟩ := Pnt.blk HG3.out.pc
          obtain ⟨d0, d1⟩ := Pnt.blk HG3.out.pd
          go_wp2
          go_ret
          exact ⟨by rw [HE.out]; rfl, HG3.out.bel⟩
        · rcases D4 with ⟨z4, q4⟩ | ⟨z4, q4⟩ | z4
          · have HE : Hid (linesB a b c d = true) := by show _ = _; rw [HL.out]; simp [hP, z1, z2, z3, z4, q3, q4]
            have E1 : Hid ((t1 == 0) = false) := by show _ = _; simp [z1]
            have E2 : Hid ((t2 == 0) = false) := by show _ = _; simp [z2]
            have E3 : Hid ((t3 == 0) = true) := by show _ = _; simp [z3]
            have Y3 := Lib.hid (HX3.out.trans q3)
            have E4 : Hid ((t4 == 0) = true) := by show _ = _; simp [z4]
            have Y4 := Lib.hid (HX4.out.trans q4)
            clear z1 z2 z3 z4 q3 q4
            have e1 := E1.out
            have e2 := E2.out
            have e3 := E3.out
            have e4 := E4.out
            go_wp2_with fail
            refine (box5_eq c d a _ Y3.out).mono ?_
            rintro e v3 ⟨rfl, hv3⟩
            have HG3 := Lib.hid (Four.next hv3 HF4.out)
            clear a0 a1 b0 b1 c0 c1 d0 d1 hv3
            obtain ⟨a0, a1⟩ := Pnt.blk HG3.out.pa
            obtain ⟨b0, b1⟩ := Pnt.blk HG3.out.pb
            obtain ⟨c0, c1⟩ := Pnt.blk HG3.out.pc
            obtain ⟨d0, d1⟩ := Pnt.blk HG3.out.pd
            go_wp2_with fail
            refine (box5_eq c d b _ Y4.out).mono ?_
            rintro e v4 ⟨rfl, hv4⟩
            have HG4 := Lib.hid (Four.next hv4 HG3.out)
            clear a0 a1 b0 b1 c0 c1 d0 d1 hv4
            obtain ⟨a0, a1⟩ := Pnt.blk HG4.out.pa
            obtain ⟨b0, b1⟩ := Pnt.blk HG4.out.pb
            obtain ⟨c0, c1⟩ := Pnt.blk HG4.out.pc
            obtain ⟨d0, d1⟩ := Pnt.blk HG4.out.pd
            go_wp2
            go_ret
            exact ⟨by rw [HE.out]; rfl, HG4.out.bel⟩
          · have HE : Hid (linesB a b c d = false) := by show _ = _; rw [HL.out]; simp [hP, z1, z2, z3, z4, q3, q4]
            have E1 : Hid ((t1 == 0) = false) := by show _ = _; simp [z1]
            have E2 : Hid ((t2 == 0) = false) := by show _ = _; simp [z2]
            have E3 : Hid ((t3 == 0) = true) := by show _ = _; simp [z3]
            have Y3 := Lib.hid (HX3.out.trans q3)
            have E4 : Hid ((t4 == 0) = true) := by show _ = _; simp [z4]
            have Y4 := Lib.hid (HX4.out.trans q4)
            clear z1 z2 z3 z4 q3 q4
            have e1 := E1.out
            have e2 := E2.out
            have e3 := E3.out
            have e4 := E4.out
            go_wp2_with fail
            refine (box5_eq c d a _ Y3.out).mono ?_
            rintro e v3 ⟨rfl, hv3⟩
            have HG3 := Lib.hid (Four.next hv3 HF4.out)
            clear a0 a1 b0 b1 c0 c1 d0 d1 hv3
            obtain ⟨a0, a1⟩ := Pnt.blk HG3.out.pa
            obtain ⟨b0, b1⟩ := Pnt.blk HG3.out.pb
            obtain ⟨c0, c1⟩ := Pnt.blk HG3.out.pc
            obtain ⟨d0, d1⟩ := Pnt.blk HG3.out.pd
            go_wp2_with fail
            refine (box5_eq c d b _ Y4.out).mono ?_
            rintro e v4 ⟨rfl, hv4⟩
            have HG4 := Lib.hid (Four.next hv4 HG3.out)
            clear a0 a1 b0 b1 c0 c1 d0 d1 hv4
            obtain ⟨a0, a1⟩ := Pnt.blk HG4.out.pa
            obtain ⟨b0, b1⟩ := Pnt.blk HG4.out.pb
            obtain ⟨c0, c1⟩ := Pnt.blk HG4.out.pc
            obtain ⟨d0, d1⟩ := Pnt.blk HG4.out.pd
            go_wp2
            go_ret
            exact ⟨by rw [HE.out]; rfl, HG4.out.bel⟩
          · have HE : Hid (linesB a b c d = false) := by show _ = _; rw [HL.out]; simp [hP, z1, z2, z3, z4, q3]
            have E1 : Hid ((t1 == 0) = false) := by show _ = _; simp [z1]
            have E2 : Hid ((t2 == 0) = false) := by show _ = _; simp [z2]
            have E3 : Hid ((t3 == 0) = true) := by show _ = _; simp [z3]
            have Y3 := Lib.hid (HX3.out.trans q3)
            have E4 : Hid ((t4 == 0) = false) := by show _ = _; simp [z4]
            clear z1 z2 z3 z4 q3
            have e1 := E1.out
            have e2 := E2.out
            have e3 := E3.out
            have e4 := E4.out
            go_wp2_with fail
            refine (box5_eq c d a _ Y3.out).mono ?_
            rintro e v3 ⟨rfl, hv3⟩
            have HG3 := Lib.hid (Four.next hv3 HF4.out)
            clear a0 a1 b0 b1 c0 c1 d0 d1 hv3
            obtain ⟨a0, a1⟩ := Pnt.blk HG3.out.pa
            obtain ⟨b0, b1⟩ := Pnt.blk HG3.out.pb
            obtain ⟨c0, c1⟩ := Pnt.blk HG3.out.pc
            obtain ⟨d0, d1⟩ := Pnt.blk HG3.out.pd
            go_wp2
            go_ret
            exact ⟨by rw [HE.out]; rfl, HG3.out.bel⟩
        · rcases D4 with ⟨z4, q4⟩ | ⟨z4, q4⟩ | z4
          · have HE : Hid (linesB a b c d = true) := by show _ = _; rw [HL.out]; simp [hP, z1, z2, z3, z4, q4]
            have E1 : Hid ((t1 == 0) = false) := by show _ = _; simp [z1]
            have E2 : Hid ((t2 == 0) = false) := by show _ = _; simp [z2]
            have E3 : Hid ((t3 == 0) = false) := by show _ = _; simp [z3]
            have E4 : Hid ((t4 == 0) = true) := by show _ = _; simp [z4]
            have Y4 := Lib.hid (HX4.out.trans q4)
            clear z1 z2 z3 z4 q4
            have e1 := E1.out
            have e2 := E2.out
            have e3 := E3.out
            have e4 := E4.out
            go_wp2_with fail
            refine (box5_eq c d b _ Y4.out).mono ?_
            rintro e v4 ⟨rfl, hv4⟩
            have HG4 := Lib.hid (Four.next hv4 HF4.out)
            clear a0 a1 b0 b1 c0 c1 d0 d1 hv4
            obtain ⟨a0, a1⟩ := Pnt.blk HG4.out.pa
            obtain ⟨b0, b1⟩ := Pnt.blk HG4.out.pb
            obtain ⟨c0, c1⟩ := Pnt.blk HG4.out.pc
            obtain ⟨d0, d1⟩ := Pnt.blk HG4.out.pd
            go_wp2
            go_ret
            exact ⟨by rw [HE.out]; rfl, HG4.out.bel⟩
          · have HE : Hid (linesB a b c d = false) := by show _ = _; rw [HL.out]; simp [hP, z1, z2, z3, z4, q4]
            have E1 : Hid ((t1 == 0) = false) := by show _ = _; simp [z1]
            have E2 : Hid ((t2 == 0) = false) := by show _ = _; simp [z2]
            have E3 : Hid ((t3 == 0) = false) := by show _ = _; simp [z3]
            have E4 : Hid ((t4 == 0) = true) := by show _ = _; simp [z4]
            have Y4 := Lib.hid (HX4.out.trans q4)
            clear z1 z2 z3 z4 q4
            have e1 := E1.out
            have e2 := E2.out
            have e3 := E3.out
            have e4 := E4.out
            go_wp2_with fail
            refine (box5_eq c d b _ Y4.out).mono ?_
            rintro e v4 ⟨rfl, hv4⟩
            have HG4 := Lib.hid (Four.next hv4 HF4.out)
            clear a0 a1 b0 b1 c0 c1 d0 d1 hv4
            obtain ⟨a0, a1⟩ := Pnt.blk HG4.out.pa
            obtain ⟨b0, b1⟩ := Pnt.blk HG4.out.pb
            obtain ⟨c0, c1⟩ := Pnt.blk HG4.out.pc
            obtain ⟨d0, d1⟩ := Pnt.blk HG4.out.pd
            go_wp2
            go_ret
            exact ⟨by rw [HE.out]; rfl, HG4.out.bel⟩
          · have HE : Hid (linesB a b c d = false) := by show _ = _; rw [HL.out]; simp [hP, z1, z2, z3, z4]
            have E1 : Hid ((t1 == 0) = false) := by show _ = _; simp [z1]
            have E2 : Hid ((t2 == 0) = false) := by show _ = _; simp [z2]
            have E3 : Hid ((t3 == 0) = false) := by show _ = _; simp [z3]
            have E4 : Hid ((t4 == 0) = false) := by show _ = _; simp [z4]
            clear z1 z2 z3 z4
            have e1 := E1.out
            have e2 := E2.out
            have e3 := E3.out
            have e4 := E4.out
            go_wp2
            go_ret
            exact ⟨by rw [HE.out]; rfl, HF4.out.bel⟩
end Go.Proofs.YtdhobglhjdgboaaDoor
/- XZone6: l05Meets and LineMeetsZone of the reference. -/
namespace Go.Proofs.YtdhobglhjdgboaaDoor
open Go.RowKit Go.Sort
set_option linter.unusedVariables false

theorem l05In_eq (b off : Nat) (z : Zone) (p : Pnt) (w : World) (lo : Nat) (hz : ZoneAt w b off z) (hb0 : b < w.heap.size) (h : Arr Pnt.cs 2 w lo w.heap.size z.r.a z.r.n z.r.xs) (hn : z.r.n ≤ 1048576) (hok : cornersTo z.r.xs z.r.n = true) (hp : plcW p.x p.y = true) {X : Int} (hX : inV z.r.xs p = X) :
    Calls Tryd.prog 161 #[.pointer (some ⟨b, off, none⟩), .agg #[.int .i64 p.x, .int .i64 p.y]] w fun e w' => e = .returned (.int .i64 X) ∧ Below w.heap.size w w' := by subst hX; exact l05In_any b off z p w lo hz hb0 h hn hok hp
theorem lines_eq (a b c d : Pnt) (w : World) (ha : plcW a.x a.y = true) (hb : plcW b.x b.y = true) (hc : plcW c.x c.y = true) (hd : plcW d.x d.y = true) {v : Bool} (h : linesB a b c d = v) :
    Calls Tryd.prog 162 #[.agg #[.int .i64 a.x, .int .i64 a.y], .agg #[.int .i64 b.x, .int .i64 b.y], .agg #[.int .i64 c.x, .int .i64 c.y], .agg #[.int .i64 d.x, .int .i64 d.y]] w fun e w' => e = .returned (.bool v) ∧ Below w.heap.size w w' := by subst h; exact l05Lines_any a b c d w ha hb hc hd
theorem line_step {cs : List Pnt} {p q : Pnt} {k : Nat} (h : noLine cs p q k = true) (h2 : linesB p q (pt cs k) (pt cs (nxN cs.length k)) = false) : noLine cs p q (k + 1) = true := allTo_step h (by rw [h2]; rfl)
theorem line_bad {cs : List Pnt} {p q : Pnt} {k n : Nat} (hk : k < n) (h2 : linesB p q (pt cs k) (pt cs (nxN cs.length k)) = true) : noLine cs p q n = false := allTo_bad hk (by rw [h2]; rfl)
theorem inV_nn (cs : List Pnt) (p : Pnt) : 0 ≤ inV cs p := by unfold inV outTo; split <;> (try split) <;> decide
set_option maxRecDepth 100000 in
set_option maxHeartbeats 6400000 in
theorem l05Meets_any (b off : Nat) (z : Zone) (p q : Pnt) (w : World) (lo : Nat) (hz : ZoneAt w b off z) (hb0 : b < w.heap.size) (h : Arr Pnt.cs 2 w lo w.heap.size z.r.a z.r.n z.r.xs) (hn : z.r.n ≤ 1048576) (hok : cornersTo z.r.xs z.r.n = true) (hp : plcW p.x p.y = true) (hq : plcW q.x q.y = true) :
    Calls Tryd.prog 75 #[.pointer (some ⟨b, off, none⟩), .agg #[.int .i64 p.x, .int .i64 p.y], .agg #[.int .i64 q.x, .int .i64 q.y]] w fun e w' => e = .returned (.bool (meetB z.r.xs p q)) ∧ Below w.heap.size w w' := by
  have HL : Hid (z.r.xs.length = z.r.n) := h.1
  have HM : Hid (meetB z.r.xs p q = (inTo z.r.xs p z.r.xs.length || (inTo z.r.xs q z.r.xs.length || !noLine z.r.xs p q z.r.n))) := by show _ = _; rw [← h.1]; rfl
  obtain ⟨W, hW⟩ : ∃ W : World, W = (w.alloc (.cells #[.int .i64 p.x, .int .i64 p.y] 41)).alloc (.cells #[.int .i64 q.x, .int .i64 q.y] 41) := ⟨_, rfl⟩
  have B0 : Below w.heap.size w W := by rw [hW]; exact ((Below.refl _ _).alloc (Nat.le_refl _) _).alloc (by simp) _
  have P0 : Blk W w.heap.size 41 #[.int .i64 p.x, .int .i64 p.y] := by rw [hW]; exact (Blk.new _ _ _).alloc _
  have P1 : Blk W (w.heap.size + 1) 41 #[.int .i64 q.x, .int .i64 q.y] := by rw [hW]; exact Blk.new_at rfl (by simp)
  have HS : Hid (w.heap.size + 1 < W.heap.size) := P1.lt
  have HP0 := Lib.hid P0
  have HP1 := Lib.hid P1
  have HZ := Lib.hid (hz.below B0 hb0)
  have HA := Lib.hid ((h.below B0).more B0.size)
  have HOK := Lib.hid hok
  have HP := Lib.hid hp
  have HQ := Lib.hid hq
  have HB0 := Lib.hid B0
  have hbW : b < W.heap.size := by have := B0.size; omega
  have i1 := inV_nn z.r.xs p
  have i2 := inV_nn z.r.xs q
  have HI1 := Lib.hid (fun W' X hX (hW : Below W.heap.size W W') => l05In_eq b off z p W' lo (HZ.out.below hW hbW) (by have := hW.size; omega) ((HA.out.below hW).more hW.size) hn hok hp (X := X) hX)
  have HI2 := Lib.hid (fun W' X hX (hW : Below W.heap.size W W') => l05In_eq b off z q W' lo (HZ.out.below hW hbW) (by have := hW.size; omega) ((HA.out.below hW).more hW.size) hn hok hq (X := X) hX)
  have J1 : Hid (decide (0 < inV z.r.xs p) = inTo z.r.xs p z.r.xs.length) := inV_pos
  have J2 : Hid (decide (0 < inV z.r.xs q) = inTo z.r.xs q z.r.xs.length) := inV_pos
  obtain ⟨v, ⟨A, n, c, cs⟩⟩ := z
  dsimp only at *
  obtain ⟨X, hX⟩ : ∃ X, inV cs p = X := ⟨_, rfl⟩
  obtain ⟨Y, hY⟩ : ∃ Y, inV cs q = Y := ⟨_, rfl⟩
  rw [hX] at i1 J1
  rw [hY] at i2 J2
  have HX := Lib.hid hX
  have HY := Lib.hid hY
  clear hz h hok hp hq B0 P0 P1 hX hY
  by_cases hx : 0 < X
  · have HE : Hid (meetB cs p q = true) := by show _ = _; rw [HM.out, ← J1.out, decide_eq_true hx]; rfl
    have C0 := Pnt.blk HP0.out
    have C1 := Pnt.blk HP1.out
    obtain ⟨a0, a1⟩ := C0
    obtain ⟨b0, b1⟩ := C1
    go_enter Tryd.func75, Tryd.ntmps75
    go_wp2_with fail
    rw [← hW]
    clear hW
    go_wp2_with fail
    refine (HI1.out _ X HX.out (Below.refl _ _)).mono ?_
    rintro e w1 ⟨rfl, hb1⟩
    go_wp2
    go_ret
    exact ⟨by rw [HE.out]; rfl, HB0.out.trans (hb1.mono HB0.out.size)⟩
  · by_cases hy : 0 < Y
    · have HE : Hid (meetB cs p q = true) := by show _ = _; rw [HM.out, ← J2.out, decide_eq_true hy]; simp
      have C0 := Pnt.blk HP0.out
      have C1 := Pnt.blk HP1.out
      obtain ⟨a0, a1⟩ := C0
      obtain ⟨b0, b1⟩ := C1
      go_enter Tryd.func75, Tryd.ntmps75
      go_wp2_with fail
      rw [← hW]
      clear hW
      go_wp2_with fail
      refine (HI1.out _ X HX.out (Below.refl _ _)).mono ?_
      rintro e w1 ⟨rfl, hb1⟩
      clear a0 a1 b0 b1
      obtain ⟨b0, b1⟩ := Pnt.blk (HP1.out.bel hb1)
      go_wp2_with fail
      refine (HI2.out _ Y HY.out hb1).mono ?_
      rintro e w2 ⟨rfl, hb2⟩
      go_wp2
      go_ret
      exact ⟨by rw [HE.out]; rfl, (HB0.out.trans (hb1.mono HB0.out.size)).trans (hb2.mono (by have := HB0.out.size; have := hb1.size; omega))⟩
    · have HMM : Hid (meetB cs p q = !noLine cs p q n) := by show _ = _; rw [HM.out, ← J1.out, ← J2.out, decide_eq_false hx, decide_eq_false hy]; rfl
      have C0 := Pnt.blk HP0.out
      have C1 := Pnt.blk HP1.out
      obtain ⟨a0, a1⟩ := C0
      obtain ⟨b0, b1⟩ := C1
      go_enter Tryd.func75, Tryd.ntmps75
      go_wp2_with fail
      rw [← hW]
      clear hW
      go_wp2_with fail
      refine (HI1.out _ X HX.out (Below.refl _ _)).mono ?_
      rintro e w1 ⟨rfl, hb1⟩
      clear a0 a1 b0 b1
      obtain ⟨b0, b1⟩ := Pnt.blk (HP1.out.bel hb1)
      go_wp2_with fail
      refine (HI2.out _ Y HY.out hb1).mono ?_
      rintro e w2 ⟨rfl, hb2⟩
      have HB2 : Hid (Below W.heap.size W w2) := bel2 hb1 hb2
      have hs2 := HB2.out.size
      clear b0 b1 hb1 hb2 HM J1 J2 HI1 HI2 HX HY
      go_wp2
      go_loopw [7] (fun v7 wr => ∃ k : Nat, k ≤ n ∧ v7 = .int .i64 k ∧ noLine cs p q k = true ∧ Below W.heap.size W wr) (fun v7 _ => n - (intOf v7).toNat)
      case atStart => exact ⟨0, Nat.zero_le _, rfl, rfl, HB2.out⟩
      case round =>
        obtain ⟨k, hk, rfl, ht, hb⟩ := hrel
        have HT := Lib.hid ht
        have HBB := Lib.hid (HB0.out.trans (hb.mono HB0.out.size))
        obtain ⟨c0, c1, c2, c3⟩ := HZ.out.below hb hbW
        dsimp only at c0 c1 c2 c3
        have HA2 := Lib.hid ((HA.out.below hb).more hb.size)
        obtain ⟨a0, a1⟩ := Pnt.blk (HP0.out.bel hb)
        obtain ⟨b0, b1⟩ := Pnt.blk (HP1.out.bel hb)
        clear ht
        by_cases hlt : k < n
        · have hk0 : (0 : Int) ≤ (k : Int) := by omega
          have hk1 : (k : Int) < (n : Int) := by omega
          obtain ⟨b', off', r, eA, hr, _, hbl, d0, d1⟩ := Pnt.at HA2.out hlt
          subst eA
          have HN := Lib.hid (fun d os => l05Next_any (some ⟨b', off', none⟩) n c k cs (grow (redrawn wr d) os) lo ((HA2.out.below (below_regrown wr d os)).more (below_regrown wr d os).size) hn hlt)
          have HPT : Hid (pt cs k = r) := pt_at hr
          have HST : Hid (linesB p q r (pt cs (nxN n k)) = false → noLine cs p q (k + 1) = true) := fun h9 => line_step HT.out (by rw [HPT.out, HL.out]; exact h9)
          have HBD : Hid (linesB p q r (pt cs (nxN n k)) = true → noLine cs p q n = false) := fun h9 => line_bad hlt (by rw [HPT.out, HL.out]; exact h9)
          have HLN : Hid (∀ W' {v : Bool}, linesB p q r (pt cs (nxN n k)) = v → Calls Tryd.prog 162 #[.agg #[.int .i64 p.x, .int .i64 p.y], .agg #[.int .i64 q.x, .int .i64 q.y], .agg #[.int .i64 r.x, .int .i64 r.y], .agg #[.int .i64 (pt cs (nxN n k)).x, .int .i64 (pt cs (nxN n k)).y]] W' fun e w' => e = .returned (.bool v) ∧ Below W'.heap.size W' w') := fun W' v hv =>
            lines_eq p q r (pt cs (nxN n k)) W' HP.out HQ.out (by have := cornersTo_at HOK.out hlt; rwa [HPT.out] at this) (cornersTo_at HOK.out (nx_lt (by omega))) hv
          have c3' := cell_regrown c3
          have a0' := cell_regrown a0
          have a1' := cell_regrown a1
          have b0' := cell_regrown b0
          have b1' := cell_regrown b1
          have d0' := cell_regrown d0
          have d1' := cell_regrown d1
          clear hr
          cases hv : linesB p q r (pt cs (nxN n k))
          · have HE2 : Hid (noLine cs p q (k + 1) = true) := HST.out hv
            have HV := Lib.hid hv
            clear hv
            go_wp2
            refine wp_region_quiet_below (by kernel_rfl) (by kernel_rfl) ?_
            repeat (go_big_quiet_step (first | (go_at_call 163; exact Calls.regrown_of (HN.out _ _)) | (go_at_call 162; exact Calls.regrown_of (HLN.out _ HV.out))))
            refine wpQuiet_nil ?_
            intro _ hw9
            obtain ⟨⟨dq, osq⟩, hw9⟩ := hw9
            subst hw9
            have hb5 := below_regrown wr dq osq
            dsimp only at hb5 ⊢
            generalize grow (redrawn wr dq) osq = w5 at hb5 ⊢
            go_wp2
            go_roundw
            case rel => exact ⟨k + 1, by omega, by go_num, HE2.out, hb.trans (hb5.mono hb.size)⟩
            case measure => simp [intOf]; omega
          · have HE : Hid (meetB cs p q = true) := by show _ = _; rw [HMM.out, HBD.out hv]; rfl
            have HV := Lib.hid hv
            clear hv
            go_wp2
            refine wp_region_quiet_below (by kernel_rfl) (by kernel_rfl) ?_
            repeat (go_big_quiet_step (first | (go_at_call 163; exact Calls.regrown_of (HN.out _ _)) | (go_at_call 162; exact Calls.regrown_of (HLN.out _ HV.out))))
            refine wpQuiet_nil ?_
            intro _ hw9
            obtain ⟨⟨dq, osq⟩, hw9⟩ := hw9
            subst hw9
            have hb5 := below_regrown wr dq osq
            dsimp only at hb5 ⊢
            generalize grow (redrawn wr dq) osq = w5 at hb5 ⊢
            go_wp2
            go_ret
            exact ⟨by rw [HE.out]; rfl, HBB.out.trans (hb5.mono HBB.out.size)⟩
        · obtain rfl : k = n := by omega
          have HE : Hid (meetB cs p q = false) := by show _ = _; rw [HMM.out, HT.out]; rfl
          go_wp2
          go_ret
          exact ⟨by rw [HE.out]; rfl, HBB.out⟩
theorem zoneOk_corners {z : ZV} (h : zoneOk z = true) : cornersTo z.2 z.2.length = true := (zoneOk_shape h).2.1
theorem ok5_eq {f : FuncId} {x y : Int} (h : ∀ W, Calls Tryd.prog f #[.agg #[.int .i64 x, .int .i64 y]] W fun e w' => e = .returned (.bool (plcB x y)) ∧ Below W.heap.size W w') (W : World) {v : Bool} (hv : plcB x y = v) : Calls Tryd.prog f #[.agg #[.int .i64 x, .int .i64 y]] W fun e w' => e = .returned (.bool v) ∧ Below W.heap.size W w' := by subst hv; exact h W
def LM (z : ZV) (p q : Pnt) (w : World) (e : Ending) (w' : World) : Prop := e = .returned (.tuple #[.bool (lmVal z p q), .int .i64 (lmCode z p q)]) ∧ Below w.heap.size w w'
theorem lm_no {z : ZV} {p q : Pnt} (h : (zoneOk z && (plcB p.x p.y && plcB q.x q.y)) = false) : lmVal z p q = false ∧ lmCode z p q = 1 := by unfold lmVal lmCode; rw [h]; exact ⟨rfl, rfl⟩
theorem lm_yes {z : ZV} {p q : Pnt} (h1 : zoneOk z = true) (h2 : plcB p.x p.y = true) (h3 : plcB q.x q.y = true) : lmVal z p q = meetB z.2 p q ∧ lmCode z p q = 0 := by unfold lmVal lmCode; rw [h1, h2, h3]; exact ⟨rfl, rfl⟩
end Go.Proofs.YtdhobglhjdgboaaDoor
