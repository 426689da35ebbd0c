/- l05Ok of the reference: zoneOk. -/
import Derived.Test.YtencnldflnbdiaaZone2
namespace Go.Proofs.Ytencnldflnbdiaa
open Go.RowKit Go.Sort
set_option linter.unusedVariables false

/-- a zone lies at that place -/
structure ZoneAt (w : World) (b off : Nat) (z : Zone) : Prop where
  c0 : w.cell? ⟨b, off, none⟩ = some (.int .i64 z.v.kind)
  c1 : w.cell? ⟨b, off + 1, none⟩ = some (.int .i64 z.v.storeys)
  c2 : w.cell? ⟨b, off + 2, none⟩ = some (.int .i64 z.v.each)
  c3 : w.cell? ⟨b, off + 3, none⟩ = some (.slice z.r.a z.r.n z.r.cap)
theorem ZoneAt.below {w w' : World} {b off B : Nat} {z : Zone} (h : ZoneAt w b off z) (hb : Below B w w') (hB : b < B) : ZoneAt w' b off z :=
  ⟨(hb.cell (p := ⟨b, off, none⟩) hB).trans h.c0, (hb.cell (p := ⟨b, off + 1, none⟩) hB).trans h.c1, (hb.cell (p := ⟨b, off + 2, none⟩) hB).trans h.c2, (hb.cell (p := ⟨b, off + 3, none⟩) hB).trans h.c3⟩
theorem ZoneAt.blk {w : World} {g : Nat} {t : TypeId} {z : Zone} (h : Blk w g t #[.int .i64 z.v.kind, .int .i64 z.v.storeys, .int .i64 z.v.each, .slice z.r.a z.r.n z.r.cap]) : ZoneAt w g 0 z := ⟨h.cell 0, h.cell 1, h.cell 2, h.cell 3⟩
theorem corner_step {cs : List Pnt} {k : Nat} {p : Pnt} (h : cornersTo cs k = true) (hp : cs[k]? = some p) (h2 : plcB p.x p.y = true) : cornersTo cs (k + 1) = true := allTo_step h (by rw [pt_at hp]; exact h2)
theorem corner_bad {cs : List Pnt} {k n : Nat} {p : Pnt} (hk : k < n) (hp : cs[k]? = some p) (h2 : plcB p.x p.y = false) : cornersTo cs n = false := allTo_bad hk (by rw [pt_at hp]; exact h2)
theorem shape_no {cs : List Pnt} (h : inB cs.length 3 12 = false) : shapeB cs = false := by unfold shapeB; rw [h]; rfl
theorem zone_no {z : ZV} (h : shapeB z.2 = false) : zoneOk z = false := by unfold zoneOk; rw [h, Bool.and_false]
theorem zHd_kind {v : ZoneV} (h : inB v.kind 1 3 = false) : zHd v = false := by
  rw [inB_false] at h
  unfold zHd
  rw [if_neg (by omega), decide_eq_false (by omega), decide_eq_false (by omega)]; rfl
set_option maxRecDepth 100000 in
set_option maxHeartbeats 6400000 in
theorem l05Ok_any (b off : Nat) (z : Zone) (w : World) (lo : Nat) (hz : ZoneAt w b off z) (hb0 : b < w.heap.size) (h : Arr Pnt.cs 2 w lo w.heap.size z.r.a z.r.n z.r.xs) (hn : z.r.n ≤ 1048576) :
    Calls Try.prog 49 #[.pointer (some ⟨b, off, none⟩)] w fun e w' => e = .returned (.bool (zoneOk z.val)) ∧ Below w.heap.size w w' := by
  have HO : Hid (zoneOk z.val = (zHd z.v && shapeB z.r.xs)) := rfl
  have HS : Hid (shapeB z.r.xs = (inB z.r.n 3 12 && (cornersTo z.r.xs z.r.n && turnsTo z.r.xs z.r.xs.length))) := by show _ = _; unfold shapeB; rw [h.1]
  have HKN : Hid (inB z.v.kind 1 3 = false → zHd z.v = false) := zHd_kind
  have HHD : Hid (zHd z.v = if z.v.kind = 1 then bldB z.v else (decide (z.v.kind = 2) || decide (z.v.kind = 3)) && nilB z.v) := rfl
  have HBL : Hid (bldB z.v = (inB z.v.storeys 1 60 && (inB z.v.each 20 60 && decide (z.v.storeys * z.v.each ≤ 2000)))) := rfl
  have HNL : Hid (nilB z.v = (decide (z.v.storeys = 0) && decide (z.v.each = 0))) := rfl
  obtain ⟨⟨kind, storeys, each⟩, ⟨A, n, c, cs⟩⟩ := z
  dsimp only at *
  have HZ := Lib.hid hz
  have HA := Lib.hid h
  obtain ⟨c0, c1, c2, c3⟩ := hz
  dsimp only at c0 c1 c2 c3
  clear h
  cases hk : inB kind 1 3
  · have HE : Hid (zoneOk (Zone.val ⟨⟨kind, storeys, each⟩, ⟨A, n, c, cs⟩⟩) = false) := by show _ = _; rw [HO.out, HKN.out hk]; rfl
    go_enter Try.func49, Try.ntmps49
    go_wp2_with (go_at_call 64; refine (in5_eq _ _ _ _ (by assumption)).mono ?_; rintro e w1 ⟨rfl, rfl⟩)
    go_ret
    exact ⟨by rw [HE.out]; rfl, Below.refl _ _⟩
  · cases hl : inB (n : Int) 3 12
    · have HE : Hid (zoneOk (Zone.val ⟨⟨kind, storeys, each⟩, ⟨A, n, c, cs⟩⟩) = false) := by show _ = _; rw [HO.out, HS.out, hl]; simp
      go_enter Try.func49, Try.ntmps49
      go_wp2_with (go_at_call 64; refine (in5_eq _ _ _ _ (by assumption)).mono ?_; rintro e w1 ⟨rfl, rfl⟩)
      go_ret
      exact ⟨by rw [HE.out]; rfl, Below.refl _ _⟩
    · have HLN : Hid (3 ≤ n ∧ n ≤ 12) := by have := inB_true.1 hl; exact ⟨by omega, by omega⟩
      have HK : Hid (1 ≤ kind ∧ kind ≤ 3) := inB_true.1 hk
      go_enter Try.func49, Try.ntmps49
      go_wp2_with (go_at_call 64; refine (in5_eq _ _ _ _ (by assumption)).mono ?_; rintro e w1 ⟨rfl, rfl⟩)
      have HSL : Hid (shapeB cs = (cornersTo cs n && turnsTo cs cs.length)) := by show _ = _; rw [HS.out, hl]; rfl
      clear hk hl c0 c1 c2 c3 HS HKN
      go_loopw [3] (fun v3 wr => ∃ k : Nat, k ≤ n ∧ v3 = .int .i64 k ∧ cornersTo cs k = true ∧ Below w.heap.size w wr) (fun v3 _ => n - (intOf v3).toNat)
      case atStart => exact ⟨0, Nat.zero_le _, rfl, rfl, Below.refl _ _⟩
      case round =>
        obtain ⟨k, hk, rfl, ht, hb⟩ := hrel
        have HT := Lib.hid ht
        have HZ2 := Lib.hid (HZ.out.below hb hb0)
        obtain ⟨c0, c1, c2, c3⟩ := HZ2.out
        dsimp only at c0 c1 c2 c3
        have HA2 := Lib.hid ((HA.out.below hb).more hb.size)
        clear ht
        by_cases hlt : k < n
        · have hk0 : (0 : Int) ≤ (k : Int) := by omega
          have hk1 : (k : Int) < (n : Int) := by omega
          obtain ⟨b', off', p, eA, hp, _, hbl, d0, d1⟩ := Pnt.at HA2.out hlt
          have HP := Lib.hid hp
          clear hp
          subst eA
          cases hq : plcB p.x p.y
          · have HE : Hid (zoneOk (Zone.val ⟨⟨kind, storeys, each⟩, ⟨some ⟨b', off', none⟩, n, c, cs⟩⟩) = false) := by show _ = _; rw [HO.out, HSL.out, corner_bad hlt HP.out hq]; simp
            have HQ : Hid (∀ W, Calls Try.prog 50 #[.agg #[.int .i64 p.x, .int .i64 p.y]] W fun e w' => e = .returned (.bool false) ∧ Below W.heap.size W w') := fun W => by have := l02Ok_any p.x p.y W; rwa [hq] at this
            clear hq
            go_wp2_with (go_at_call 50; refine (HQ.out _).mono ?_; rintro e w1 ⟨rfl, hb1⟩)
            go_ret
            exact ⟨by rw [HE.out]; rfl, hb.trans (hb1.mono hb.size)⟩
          · have HQ : Hid (∀ W, Calls Try.prog 50 #[.agg #[.int .i64 p.x, .int .i64 p.y]] W fun e w' => e = .returned (.bool true) ∧ Below W.heap.size W w') := fun W => by have := l02Ok_any p.x p.y W; rwa [hq] at this
            have HC2 : Hid (cornersTo cs (k + 1) = true) := corner_step HT.out HP.out hq
            clear hq
            go_wp2_with (go_at_call 50; refine (HQ.out _).mono ?_; rintro e w1 ⟨rfl, hb1⟩)
            go_roundw
            case rel => exact ⟨k + 1, by omega, by go_num, HC2.out, hb.trans (hb1.mono hb.size)⟩
            case measure => simp [intOf]; omega
        · obtain rfl : k = n := by omega
          have HSS : Hid (shapeB cs = turnsTo cs cs.length) := by show _ = _; rw [HSL.out, HT.out]; rfl
          have HTU := Lib.hid (fun W (hW : Below wr.heap.size wr W) => l05Turns_any A k c cs W lo ((HA2.out.below hW).more hW.size) (by have := HLN.out; omega) HT.out)
          by_cases e1 : kind = 1
          · subst e1
            have HB2 : Hid (zHd ⟨1, storeys, each⟩ = (inB storeys 1 60 && (inB each 20 60 && decide (storeys * each ≤ 2000)))) := by
              have h9 := HHD.out
              rw [if_pos rfl] at h9
              show _ = _
              rw [h9]; exact HBL.out
            have d1 := cell_regrown c1
            have d2 := cell_regrown c2
            have d3 := cell_regrown c3
            have HTR := Lib.hid (fun d os => HTU.out (grow (redrawn wr d) os) (below_regrown wr d os))
            clear HTU
            cases f1 : inB storeys 1 60
            · have HE : Hid (zoneOk (Zone.val ⟨⟨1, storeys, each⟩, ⟨A, k, c, cs⟩⟩) = false) := by show _ = _; rw [HO.out, HB2.out, f1]; rfl
              go_wp2
              refine wp_region_quiet_below (by kernel_rfl) (by kernel_rfl) ?_
              repeat (go_big_quiet_step (first | (go_at_call 64; exact Calls.regrown_of (same_bel (in5_eq _ _ _ _ (by assumption))))))
              refine wpQuiet_nil ?_
              intro _ hw9
              obtain ⟨⟨dq, osq⟩, hw9⟩ := hw9
              subst hw9
              have hb5 := below_regrown wr dq osq
              dsimp only at hb5 ⊢
              generalize grow (redrawn wr dq) osq = w5 at hb5 ⊢
              go_wp2
              go_ret
              exact ⟨by rw [HE.out]; rfl, hb.trans (hb5.mono hb.size)⟩
            · cases f2 : inB each 20 60
              · have HE : Hid (zoneOk (Zone.val ⟨⟨1, storeys, each⟩, ⟨A, k, c, cs⟩⟩) = false) := by show _ = _; rw [HO.out, HB2.out, f2]; simp
                go_wp2
                refine wp_region_quiet_below (by kernel_rfl) (by kernel_rfl) ?_
                repeat (go_big_quiet_step (first | (go_at_call 64; exact Calls.regrown_of (same_bel (in5_eq _ _ _ _ (by assumption))))))
                refine wpQuiet_nil ?_
                intro _ hw9
                obtain ⟨⟨dq, osq⟩, hw9⟩ := hw9
                subst hw9
                have hb5 := below_regrown wr dq osq
                dsimp only at hb5 ⊢
                generalize grow (redrawn wr dq) osq = w5 at hb5 ⊢
                go_wp2
                go_ret
                exact ⟨by rw [HE.out]; rfl, hb.trans (hb5.mono hb.size)⟩
              · have g1 := inB_true.1 f1
                have g2 := inB_true.1 f2
                have g3 : 0 ≤ storeys * each := Int.mul_nonneg (by omega) (by omega)
                have g4 : storeys * each ≤ 3600 := Int.mul_le_mul (c := 60) (d := 60) g1.2 g2.2 (by omega) (by omega)
                have HB3 : Hid (zHd ⟨1, storeys, each⟩ = decide (storeys * each ≤ 2000)) := by show _ = _; rw [HB2.out, f1, f2]; rfl
                by_cases f3 : storeys * each ≤ 2000
                · have HE : Hid (zoneOk (Zone.val ⟨⟨1, storeys, each⟩, ⟨A, k, c, cs⟩⟩) = turnsTo cs cs.length) := by show _ = _; rw [HO.out, HB3.out, decide_eq_true f3, HSS.out]; rfl
                  have F3 : Hid (decide (storeys * each ≤ 2000) = true) := decide_eq_true f3
                  clear f3
                  generalize turnsTo cs cs.length = T at *
                  go_wp2
                  have f3' := F3.out
                  refine wp_region_quiet_below (by kernel_rfl) (by kernel_rfl) ?_
                  repeat (go_big_quiet_step (first | (go_at_call 64; exact Calls.regrown_of (same_bel (in5_eq _ _ _ _ (by assumption)))) | (go_at_call 80; exact Calls.regrown_of (HTR.out _ _))))
                  refine wpQuiet_nil ?_
                  intro _ hw9
                  obtain ⟨⟨dq, osq⟩, hw9⟩ := hw9
                  subst hw9
                  have hb5 := below_regrown wr dq osq
                  dsimp only at hb5 ⊢
                  generalize grow (redrawn wr dq) osq = w5 at hb5 ⊢
                  go_wp2
                  go_ret
                  exact ⟨by rw [HE.out]; rfl, hb.trans (hb5.mono hb.size)⟩
                · have HE : Hid (zoneOk (Zone.val ⟨⟨1, storeys, each⟩, ⟨A, k, c, cs⟩⟩) = false) := by show _ = _; rw [HO.out, HB3.out, decide_eq_false f3]; rfl
                  have F3 : Hid (decide (storeys * each ≤ 2000) = false) := decide_eq_false f3
                  clear f3
                  go_wp2
                  have f3' := F3.out
                  refine wp_region_quiet_below (by kernel_rfl) (by kernel_rfl) ?_
                  repeat (go_big_quiet_step (first | (go_at_call 64; exact Calls.regrown_of (same_bel (in5_eq _ _ _ _ (by assumption))))))
                  refine wpQuiet_nil ?_
                  intro _ hw9
                  obtain ⟨⟨dq, osq⟩, hw9⟩ := hw9
                  subst hw9
                  have hb5 := below_regrown wr dq osq
                  dsimp only at hb5 ⊢
                  generalize grow (redrawn wr dq) osq = w5 at hb5 ⊢
                  go_wp2
                  go_ret
                  exact ⟨by rw [HE.out]; rfl, hb.trans (hb5.mono hb.size)⟩
          · have E1 : Hid ((kind != 1) = true) := bne_iff_ne.2 e1
            have HB2 : Hid (zHd ⟨kind, storeys, each⟩ = nilB ⟨kind, storeys, each⟩) := by
              have h9 := HHD.out
              have h8 := HK.out
              rw [if_neg e1] at h9
              show _ = _
              rw [h9]
              rcases (show kind = 2 ∨ kind = 3 by omega) with e | e
              · rw [decide_eq_true e]; simp
              · rw [decide_eq_true e]; simp
            by_cases e2 : storeys = 0
            · by_cases e3 : each = 0
              · have HE : Hid (zoneOk (Zone.val ⟨⟨kind, storeys, each⟩, ⟨A, k, c, cs⟩⟩) = turnsTo cs cs.length) := by show _ = _; rw [HO.out, HB2.out, HNL.out, HSS.out, decide_eq_true e2, decide_eq_true e3]; rfl
                subst e2 e3
                clear e1
                have e1' := E1.out
                go_wp2_with fail
                refine (HTU.out _ (Below.refl _ _)).mono ?_
                rintro e w1 ⟨rfl, hb1⟩
                go_wp2
                go_ret
                exact ⟨by rw [HE.out]; rfl, hb.trans (hb1.mono hb.size)⟩
              · have HE : Hid (zoneOk (Zone.val ⟨⟨kind, storeys, each⟩, ⟨A, k, c, cs⟩⟩) = false) := by show _ = _; rw [HO.out, HB2.out, HNL.out, decide_eq_false e3, Bool.and_false]; rfl
                have E3 : Hid ((each == 0) = false) := beq_eq_false_iff_ne.2 e3
                subst e2
                clear e1 e3
                have e1' := E1.out
                have e3' := E3.out
                go_wp2
                go_ret
                exact ⟨by rw [HE.out]; rfl, hb⟩
            · have HE : Hid (zoneOk (Zone.val ⟨⟨kind, storeys, each⟩, ⟨A, k, c, cs⟩⟩) = false) := by show _ = _; rw [HO.out, HB2.out, HNL.out, decide_eq_false e2, Bool.false_and]; rfl
              have E3 : Hid ((storeys == 0) = false) := beq_eq_false_iff_ne.2 e2
              clear e1 e2
              have e1' := E1.out
              have e3' := E3.out
              go_wp2
              go_ret
              exact ⟨by rw [HE.out]; rfl, hb⟩
end Go.Proofs.Ytencnldflnbdiaa
