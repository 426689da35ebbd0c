/- (World).possible. -/
import Derived.Test.YtomifedaiabapaaCanLaw
namespace Go.Proofs.Ytomifedaiabapaa
open Go.RowKit
set_option linter.unusedVariables false

set_option maxRecDepth 100000 in
set_option maxHeartbeats 6400000 in
theorem possible_any (A : Option Addr) (n c : Nat) (rs : List (Row Bool)) (mn : Nat) (lost : Int) (an bn sn tn : Nat) (ga gb ta tb : Int) (la lb : Bool) (hmn : mn < 4) (han : an < 24) (hbn : bn < 24) (hsn : sn < 24) (htn : tn < 24) (hta : -1 ≤ ta ∧ ta ≤ 1) (htb : -1 ≤ tb ∧ tb ≤ 1) (w : World) (lo : Nat) (h : Arr2 bc 1 w lo w.heap.size A n rs) (ht : tabOk rs = true) :
    Calls Try.prog 123 #[.agg #[.int .i64 (an : Int), .int .i64 (bn : Int), .int .i64 (sn : Int), .int .i64 (tn : Int), .int .i64 ga, .int .i64 gb], .slice A n c, .agg #[.int .i64 (mn : Int), .int .i64 lost], .agg #[.int .i64 ta, .int .i64 tb, .bool la, .bool lb]] w fun e w' => e = .returned (.bool (canN rs mn lost an bn sn tn ga gb ⟨ta, tb, la, lb⟩)) ∧ Below w.heap.size w w' := by
  obtain ⟨W, hW⟩ : ∃ W : World, W = (((w.alloc (.cells #[.int .i64 (an : Int), .int .i64 (bn : Int), .int .i64 (sn : Int), .int .i64 (tn : Int), .int .i64 ga, .int .i64 gb] 34)).alloc (.cells #[.int .i64 (mn : Int), .int .i64 lost] 32)).alloc (.cells #[.int .i64 ta, .int .i64 tb, .bool la, .bool lb] 115)) := ⟨_, rfl⟩
  have hbW : Below w.heap.size w W := by rw [hW]; exact (((Below.refl _ _).alloc (Nat.le_refl _) _).alloc (by simp) _).alloc (by simp; omega) _
  have BWatch : Blk W (w.heap.size + 1) 32 #[.int .i64 (mn : Int), .int .i64 lost] := by rw [hW]; exact (Blk.new_at rfl (by simp)).alloc _
  have x0 : W.cell? ⟨w.heap.size + 1, 0, none⟩ = some (.int .i64 (mn : Int)) := BWatch.cell 0
  have x1 : W.cell? ⟨w.heap.size + 1, 1, none⟩ = some (.int .i64 lost) := BWatch.cell 1
  have BWorld : Blk W w.heap.size 34 #[.int .i64 (an : Int), .int .i64 (bn : Int), .int .i64 (sn : Int), .int .i64 (tn : Int), .int .i64 ga, .int .i64 gb] := by rw [hW]; exact ((Blk.new _ _ _).alloc _).alloc _
  have y0 : W.cell? ⟨w.heap.size, 0, none⟩ = some (.int .i64 (an : Int)) := BWorld.cell 0
  have y1 : W.cell? ⟨w.heap.size, 1, none⟩ = some (.int .i64 (bn : Int)) := BWorld.cell 1
  have y2 : W.cell? ⟨w.heap.size, 2, none⟩ = some (.int .i64 (sn : Int)) := BWorld.cell 2
  have y3 : W.cell? ⟨w.heap.size, 3, none⟩ = some (.int .i64 (tn : Int)) := BWorld.cell 3
  have y4 : W.cell? ⟨w.heap.size, 4, none⟩ = some (.int .i64 ga) := BWorld.cell 4
  have y5 : W.cell? ⟨w.heap.size, 5, none⟩ = some (.int .i64 gb) := BWorld.cell 5
  have BAct : Blk W (w.heap.size + 2) 115 #[.int .i64 ta, .int .i64 tb, .bool la, .bool lb] := by rw [hW]; exact Blk.new_at rfl (by simp)
  have z0 : W.cell? ⟨w.heap.size + 2, 0, none⟩ = some (.int .i64 ta) := BAct.cell 0
  have z1 : W.cell? ⟨w.heap.size + 2, 1, none⟩ = some (.int .i64 tb) := BAct.cell 1
  have z2 : W.cell? ⟨w.heap.size + 2, 2, none⟩ = some (.bool la) := BAct.cell 2
  have z3 : W.cell? ⟨w.heap.size + 2, 3, none⟩ = some (.bool lb) := BAct.cell 3
  have hA := (h.below hbW).more hbW.size
  have HA := Lib.hid hA
  clear hA BWatch BWorld BAct h
  have hm1 := mv_lt an ta
  have hm2 := mv_lt bn tb
  obtain ⟨d1, hd1⟩ : ∃ d, mv an ta = d := ⟨_, rfl⟩
  obtain ⟨d2, hd2⟩ : ∃ d, mv bn tb = d := ⟨_, rfl⟩
  have HM1 : Hid (∀ W', Calls Try.prog 178 #[.int .i64 (an : Nat), .int .i64 ta] W' fun e w' => e = .returned (.int .i64 (d1 : Nat)) ∧ W' = w') := fun W' => by rw [← hd1]; exact turned2_any an ta han hta.1 hta.2 W'
  have HM2 : Hid (∀ W', Calls Try.prog 178 #[.int .i64 (bn : Nat), .int .i64 tb] W' fun e w' => e = .returned (.int .i64 (d2 : Nat)) ∧ W' = w') := fun W' => by rw [← hd2]; exact turned2_any bn tb hbn htb.1 htb.2 W'
  have HC : Hid (canN rs mn lost an bn sn tn ga gb ⟨ta, tb, la, lb⟩ = ((decide (ta = 0) || gd rs true d1 tn mn) && ((decide (tb = 0) || gd rs false d2 sn mn) && ((!la || decide (ga < lost)) && (!lb || decide (gb < lost)))))) := by show _ = _; unfold canN; dsimp only; rw [hd1, hd2]
  rw [hd1] at hm1
  rw [hd2] at hm2
  clear hd1 hd2
  by_cases h1 : ta = 0
  · have H1 := Lib.hid h1
    clear h1
    by_cases h2 : tb = 0
    · have H2 := Lib.hid h2
      clear h2
      cases la
      · cases lb
        · have HO : Hid (canN rs mn lost an bn sn tn ga gb ⟨ta, tb, false, false⟩ = true) := by show _ = _; rw [HC.out]; simp [H1.out, H2.out]
          go_enter Try.func123, Try.ntmps123
          go_wp2_with fail
          rw [← hW]
          clear hW
          have h2 := H2.out
          have h1 := H1.out
          go_quiet (fail)
          go_wp2
          go_quiet (fail)
          go_wp2
          go_ret
          exact ⟨by first | (rw [HO.out]; rfl) | (have q := HO.out; rw [H1.out] at q; first | (rw [q]; rfl) | (rw [H2.out] at q; rw [q]; rfl)) | (have q := HO.out; rw [H2.out] at q; rw [q]; rfl), by first | exact bel_drewN hbW _ | exact bel_drewN (bel_drewN hbW _) _⟩
        · have HO : Hid (canN rs mn lost an bn sn tn ga gb ⟨ta, tb, false, true⟩ = decide (gb < lost)) := by show _ = _; rw [HC.out]; simp [H1.out, H2.out]
          go_enter Try.func123, Try.ntmps123
          go_wp2_with fail
          rw [← hW]
          clear hW
          have h2 := H2.out
          have h1 := H1.out
          go_quiet (fail)
          go_wp2
          go_quiet (fail)
          go_wp2
          go_ret
          exact ⟨by first | (rw [HO.out]; rfl) | (have q := HO.out; rw [H1.out] at q; first | (rw [q]; rfl) | (rw [H2.out] at q; rw [q]; rfl)) | (have q := HO.out; rw [H2.out] at q; rw [q]; rfl), by first | exact bel_drewN hbW _ | exact bel_drewN (bel_drewN hbW _) _⟩
      · cases lb
        · by_cases hl : ga < lost
          · have HO : Hid (canN rs mn lost an bn sn tn ga gb ⟨ta, tb, true, false⟩ = true) := by show _ = _; rw [HC.out]; simp [H1.out, H2.out, hl]
            go_enter Try.func123, Try.ntmps123
            go_wp2_with fail
            rw [← hW]
            clear hW
            have h2 := H2.out
            have h1 := H1.out
            go_quiet (fail)
            go_wp2
            go_quiet (fail)
            go_wp2
            go_ret
            exact ⟨by first | (rw [HO.out]; rfl) | (have q := HO.out; rw [H1.out] at q; first | (rw [q]; rfl) | (rw [H2.out] at q; rw [q]; rfl)) | (have q := HO.out; rw [H2.out] at q; rw [q]; rfl), by first | exact bel_drewN hbW _ | exact bel_drewN (bel_drewN hbW _) _⟩
          · have HO : Hid (canN rs mn lost an bn sn tn ga gb ⟨ta, tb, true, false⟩ = false) := by show _ = _; rw [HC.out]; simp [H1.out, H2.out, hl]
            go_enter Try.func123, Try.ntmps123
            go_wp2_with fail
            rw [← hW]
            clear hW
            have h2 := H2.out
            have h1 := H1.out
            go_quiet (fail)
            go_wp2
            go_quiet (fail)
            go_wp2
            go_ret
            exact ⟨by first | (rw [HO.out]; rfl) | (have q := HO.out; rw [H1.out] at q; first | (rw [q]; rfl) | (rw [H2.out] at q; rw [q]; rfl)) | (have q := HO.out; rw [H2.out] at q; rw [q]; rfl), by first | exact bel_drewN hbW _ | exact bel_drewN (bel_drewN hbW _) _⟩
        · by_cases hl : ga < lost
          · have HO : Hid (canN rs mn lost an bn sn tn ga gb ⟨ta, tb, true, true⟩ = decide (gb < lost)) := by show _ = _; rw [HC.out]; simp [H1.out, H2.out, hl]
            go_enter Try.func123, Try.ntmps123
            go_wp2_with fail
            rw [← hW]
            clear hW
            have h2 := H2.out
            have h1 := H1.out
            go_quiet (fail)
            go_wp2
            go_quiet (fail)
            go_wp2
            go_ret
            exact ⟨by first | (rw [HO.out]; rfl) | (have q := HO.out; rw [H1.out] at q; first | (rw [q]; rfl) | (rw [H2.out] at q; rw [q]; rfl)) | (have q := HO.out; rw [H2.out] at q; rw [q]; rfl), by first | exact bel_drewN hbW _ | exact bel_drewN (bel_drewN hbW _) _⟩
          · have HO : Hid (canN rs mn lost an bn sn tn ga gb ⟨ta, tb, true, true⟩ = false) := by show _ = _; rw [HC.out]; simp [H1.out, H2.out, hl]
            go_enter Try.func123, Try.ntmps123
            go_wp2_with fail
            rw [← hW]
            clear hW
            have h2 := H2.out
            have h1 := H1.out
            go_quiet (fail)
            go_wp2
            go_quiet (fail)
            go_wp2
            go_ret
            exact ⟨by first | (rw [HO.out]; rfl) | (have q := HO.out; rw [H1.out] at q; first | (rw [q]; rfl) | (rw [H2.out] at q; rw [q]; rfl)) | (have q := HO.out; rw [H2.out] at q; rw [q]; rfl), by first | exact bel_drewN hbW _ | exact bel_drewN (bel_drewN hbW _) _⟩
    · have H2 := Lib.hid h2
      clear h2
      cases g2 : gd rs false d2 sn mn
      · have HO : Hid (canN rs mn lost an bn sn tn ga gb ⟨ta, tb, la, lb⟩ = false) := by show _ = _; rw [HC.out]; simp [H1.out, H2.out, g2]
        go_enter Try.func123, Try.ntmps123
        go_wp2_with fail
        rw [← hW]
        clear hW
        have h2 := H2.out
        have h1 := H1.out
        go_quiet (fail)
        go_wp2
        have h2b : (tb != 0) = true := bne_iff_ne.2 H2.out
        go_quiet ((first | (go_at_call 178; exact quiet_left2 (HM2.out _)) | (go_at_call 177; exact quiet_left2 (clear_eq hm2 hsn hmn (by first | exact arr2_drewN HA.out _ | exact arr2_drewN (arr2_drewN HA.out _) _) ht g2))))
        go_wp2
        go_ret
        exact ⟨by first | (rw [HO.out]; rfl) | (have q := HO.out; rw [H1.out] at q; first | (rw [q]; rfl) | (rw [H2.out] at q; rw [q]; rfl)) | (have q := HO.out; rw [H2.out] at q; rw [q]; rfl), by first | exact bel_drewN hbW _ | exact bel_drewN (bel_drewN hbW _) _⟩
      · skip
        cases la
        · cases lb
          · have HO : Hid (canN rs mn lost an bn sn tn ga gb ⟨ta, tb, false, false⟩ = true) := by show _ = _; rw [HC.out]; simp [H1.out, H2.out, g2]
            go_enter Try.func123, Try.ntmps123
            go_wp2_with fail
            rw [← hW]
            clear hW
            have h2 := H2.out
            have h1 := H1.out
            go_quiet (fail)
            go_wp2
            have h2b : (tb != 0) = true := bne_iff_ne.2 H2.out
            go_quiet ((first | (go_at_call 178; exact quiet_left2 (HM2.out _)) | (go_at_call 177; exact quiet_left2 (clear_eq hm2 hsn hmn (by first | exact arr2_drewN HA.out _ | exact arr2_drewN (arr2_drewN HA.out _) _) ht g2))))
            go_wp2
            go_ret
            exact ⟨by first | (rw [HO.out]; rfl) | (have q := HO.out; rw [H1.out] at q; first | (rw [q]; rfl) | (rw [H2.out] at q; rw [q]; rfl)) | (have q := HO.out; rw [H2.out] at q; rw [q]; rfl), by first | exact bel_drewN hbW _ | exact bel_drewN (bel_drewN hbW _) _⟩
          · have HO : Hid (canN rs mn lost an bn sn tn ga gb ⟨ta, tb, false, true⟩ = decide (gb < lost)) := by show _ = _; rw [HC.out]; simp [H1.out, H2.out, g2]
            go_enter Try.func123, Try.ntmps123
            go_wp2_with fail
            rw [← hW]
            clear hW
            have h2 := H2.out
            have h1 := H1.out
            go_quiet (fail)
            go_wp2
            have h2b : (tb != 0) = true := bne_iff_ne.2 H2.out
            go_quiet ((first | (go_at_call 178; exact quiet_left2 (HM2.out _)) | (go_at_call 177; exact quiet_left2 (clear_eq hm2 hsn hmn (by first | exact arr2_drewN HA.out _ | exact arr2_drewN (arr2_drewN HA.out _) _) ht g2))))
            go_wp2
            go_ret
            exact ⟨by first | (rw [HO.out]; rfl) | (have q := HO.out; rw [H1.out] at q; first | (rw [q]; rfl) | (rw [H2.out] at q; rw [q]; rfl)) | (have q := HO.out; rw [H2.out] at q; rw [q]; rfl), by first | exact bel_drewN hbW _ | exact bel_drewN (bel_drewN hbW _) _⟩
        · cases lb
          · by_cases hl : ga < lost
            · have HO : Hid (canN rs mn lost an bn sn tn ga gb ⟨ta, tb, true, false⟩ = true) := by show _ = _; rw [HC.out]; simp [H1.out, H2.out, g2, hl]
              go_enter Try.func123, Try.ntmps123
              go_wp2_with fail
              rw [← hW]
              clear hW
              have h2 := H2.out
              have h1 := H1.out
              go_quiet (fail)
              go_wp2
              have h2b : (tb != 0) = true := bne_iff_ne.2 H2.out
              go_quiet ((first | (go_at_call 178; exact quiet_left2 (HM2.out _)) | (go_at_call 177; exact quiet_left2 (clear_eq hm2 hsn hmn (by first | exact arr2_drewN HA.out _ | exact arr2_drewN (arr2_drewN HA.out _) _) ht g2))))
              go_wp2
              go_ret
              exact ⟨by first | (rw [HO.out]; rfl) | (have q := HO.out; rw [H1.out] at q; first | (rw [q]; rfl) | (rw [H2.out] at q; rw [q]; rfl)) | (have q := HO.out; rw [H2.out] at q; rw [q]; rfl), by first | exact bel_drewN hbW _ | exact bel_drewN (bel_drewN hbW _) _⟩
            · have HO : Hid (canN rs mn lost an bn sn tn ga gb ⟨ta, tb, true, false⟩ = false) := by show _ = _; rw [HC.out]; simp [H1.out, H2.out, g2, hl]
              go_enter Try.func123, Try.ntmps123
              go_wp2_with fail
              rw [← hW]
              clear hW
              have h2 := H2.out
              have h1 := H1.out
              go_quiet (fail)
              go_wp2
              have h2b : (tb != 0) = true := bne_iff_ne.2 H2.out
              go_quiet ((first | (go_at_call 178; exact quiet_left2 (HM2.out _)) | (go_at_call 177; exact quiet_left2 (clear_eq hm2 hsn hmn (by first | exact arr2_drewN HA.out _ | exact arr2_drewN (arr2_drewN HA.out _) _) ht g2))))
              go_wp2
              go_ret
              exact ⟨by first | (rw [HO.out]; rfl) | (have q := HO.out; rw [H1.out] at q; first | (rw [q]; rfl) | (rw [H2.out] at q; rw [q]; rfl)) | (have q := HO.out; rw [H2.out] at q; rw [q]; rfl), by first | exact bel_drewN hbW _ | exact bel_drewN (bel_drewN hbW _) _⟩
          · by_cases hl : ga < lost
            · have HO : Hid (canN rs mn lost an bn sn tn ga gb ⟨ta, tb, true, true⟩ = decide (gb < lost)) := by show _ = _; rw [HC.out]; simp [H1.out, H2.out, g2, hl]
              go_enter Try.func123, Try.ntmps123
              go_wp2_with fail
              rw [← hW]
              clear hW
              have h2 := H2.out
              have h1 := H1.out
              go_quiet (fail)
              go_wp2
              have h2b : (tb != 0) = true := bne_iff_ne.2 H2.out
              go_quiet ((first | (go_at_call 178; exact quiet_left2 (HM2.out _)) | (go_at_call 177; exact quiet_left2 (clear_eq hm2 hsn hmn (by first | exact arr2_drewN HA.out _ | exact arr2_drewN (arr2_drewN HA.out _) _) ht g2))))
              go_wp2
              go_ret
              exact ⟨by first | (rw [HO.out]; rfl) | (have q := HO.out; rw [H1.out] at q; first | (rw [q]; rfl) | (rw [H2.out] at q; rw [q]; rfl)) | (have q := HO.out; rw [H2.out] at q; rw [q]; rfl), by first | exact bel_drewN hbW _ | exact bel_drewN (bel_drewN hbW _) _⟩
            · have HO : Hid (canN rs mn lost an bn sn tn ga gb ⟨ta, tb, true, true⟩ = false) := by show _ = _; rw [HC.out]; simp [H1.out, H2.out, g2, hl]
              go_enter Try.func123, Try.ntmps123
              go_wp2_with fail
              rw [← hW]
              clear hW
              have h2 := H2.out
              have h1 := H1.out
              go_quiet (fail)
              go_wp2
              have h2b : (tb != 0) = true := bne_iff_ne.2 H2.out
              go_quiet ((first | (go_at_call 178; exact quiet_left2 (HM2.out _)) | (go_at_call 177; exact quiet_left2 (clear_eq hm2 hsn hmn (by first | exact arr2_drewN HA.out _ | exact arr2_drewN (arr2_drewN HA.out _) _) ht g2))))
              go_wp2
              go_ret
              exact ⟨by first | (rw [HO.out]; rfl) | (have q := HO.out; rw [H1.out] at q; first | (rw [q]; rfl) | (rw [H2.out] at q; rw [q]; rfl)) | (have q := HO.out; rw [H2.out] at q; rw [q]; rfl), by first | exact bel_drewN hbW _ | exact bel_drewN (bel_drewN hbW _) _⟩
  · have H1 := Lib.hid h1
    clear h1
    cases g1 : gd rs true d1 tn mn
    · have HO : Hid (canN rs mn lost an bn sn tn ga gb ⟨ta, tb, la, lb⟩ = false) := by show _ = _; rw [HC.out]; simp [H1.out, g1]
      go_enter Try.func123, Try.ntmps123
      go_wp2_with fail
      rw [← hW]
      clear hW
      have h1 := H1.out
      have h1b : (ta != 0) = true := bne_iff_ne.2 H1.out
      go_quiet ((first | (go_at_call 178; exact quiet_left (HM1.out _)) | (go_at_call 177; exact quiet_left (clear_eq hm1 htn hmn (by first | exact arr2_drewN HA.out _ | exact arr2_drewN (arr2_drewN HA.out _) _) ht g1))))
      go_wp2
      go_ret
      exact ⟨by first | (rw [HO.out]; rfl) | (have q := HO.out; rw [H1.out] at q; first | (rw [q]; rfl) | (rw [H2.out] at q; rw [q]; rfl)) | (have q := HO.out; rw [H2.out] at q; rw [q]; rfl), by first | exact bel_drewN hbW _ | exact bel_drewN (bel_drewN hbW _) _⟩
    · skip
      by_cases h2 : tb = 0
      · have H2 := Lib.hid h2
        clear h2
        cases la
        · cases lb
          · have HO : Hid (canN rs mn lost an bn sn tn ga gb ⟨ta, tb, false, false⟩ = true) := by show _ = _; rw [HC.out]; simp [H1.out, g1, H2.out]
            go_enter Try.func123, Try.ntmps123
            go_wp2_with fail
            rw [← hW]
            clear hW
            have h2 := H2.out
            have h1 := H1.out
            have h1b : (ta != 0) = true := bne_iff_ne.2 H1.out
            go_quiet ((first | (go_at_call 178; exact quiet_left (HM1.out _)) | (go_at_call 177; exact quiet_left (clear_eq hm1 htn hmn (by first | exact arr2_drewN HA.out _ | exact arr2_drewN (arr2_drewN HA.out _) _) ht g1))))
            go_wp2
            go_quiet (fail)
            go_wp2
            go_ret
            exact ⟨by first | (rw [HO.out]; rfl) | (have q := HO.out; rw [H1.out] at q; first | (rw [q]; rfl) | (rw [H2.out] at q; rw [q]; rfl)) | (have q := HO.out; rw [H2.out] at q; rw [q]; rfl), by first | exact bel_drewN hbW _ | exact bel_drewN (bel_drewN hbW _) _⟩
          · have HO : Hid (canN rs mn lost an bn sn tn ga gb ⟨ta, tb, false, true⟩ = decide (gb < lost)) := by show _ = _; rw [HC.out]; simp [H1.out, g1, H2.out]
            go_enter Try.func123, Try.ntmps123
            go_wp2_with fail
            rw [← hW]
            clear hW
            have h2 := H2.out
            have h1 := H1.out
            have h1b : (ta != 0) = true := bne_iff_ne.2 H1.out
            go_quiet ((first | (go_at_call 178; exact quiet_left (HM1.out _)) | (go_at_call 177; exact quiet_left (clear_eq hm1 htn hmn (by first | exact arr2_drewN HA.out _ | exact arr2_drewN (arr2_drewN HA.out _) _) ht g1))))
            go_wp2
            go_quiet (fail)
            go_wp2
            go_ret
            exact ⟨by first | (rw [HO.out]; rfl) | (have q := HO.out; rw [H1.out] at q; first | (rw [q]; rfl) | (rw [H2.out] at q; rw [q]; rfl)) | (have q := HO.out; rw [H2.out] at q; rw [q]; rfl), by first | exact bel_drewN hbW _ | exact bel_drewN (bel_drewN hbW _) _⟩
        · cases lb
          · by_cases hl : ga < lost
            · have HO : Hid (canN rs mn lost an bn sn tn ga gb ⟨ta, tb, true, false⟩ = true) := by show _ = _; rw [HC.out]; simp [H1.out, g1, H2.out, hl]
              go_enter Try.func123, Try.ntmps123
              go_wp2_with fail
              rw [← hW]
              clear hW
              have h2 := H2.out
              have h1 := H1.out
              have h1b : (ta != 0) = true := bne_iff_ne.2 H1.out
              go_quiet ((first | (go_at_call 178; exact quiet_left (HM1.out _)) | (go_at_call 177; exact quiet_left (clear_eq hm1 htn hmn (by first | exact arr2_drewN HA.out _ | exact arr2_drewN (arr2_drewN HA.out _) _) ht g1))))
              go_wp2
              go_quiet (fail)
              go_wp2
              go_ret
              exact ⟨by first | (rw [HO.out]; rfl) | (have q := HO.out; rw [H1.out] at q; first | (rw [q]; rfl) | (rw [H2.out] at q; rw [q]; rfl)) | (have q := HO.out; rw [H2.out] at q; rw [q]; rfl), by first | exact bel_drewN hbW _ | exact bel_drewN (bel_drewN hbW _) _⟩
            · have HO : Hid (canN rs mn lost an bn sn tn ga gb ⟨ta, tb, true, false⟩ = false) := by show _ = _; rw [HC.out]; simp [H1.out, g1, H2.out, hl]
              go_enter Try.func123, Try.ntmps123
              go_wp2_with fail
              rw [← hW]
              clear hW
              have h2 := H2.out
              have h1 := H1.out
              have h1b : (ta != 0) = true := bne_iff_ne.2 H1.out
              go_quiet ((first | (go_at_call 178; exact quiet_left (HM1.out _)) | (go_at_call 177; exact quiet_left (clear_eq hm1 htn hmn (by first | exact arr2_drewN HA.out _ | exact arr2_drewN (arr2_drewN HA.out _) _) ht g1))))
              go_wp2
              go_quiet (fail)
              go_wp2
              go_ret
              exact ⟨by first | (rw [HO.out]; rfl) | (have q := HO.out; rw [H1.out] at q; first | (rw [q]; rfl) | (rw [H2.out] at q; rw [q]; rfl)) | (have q := HO.out; rw [H2.out] at q; rw [q]; rfl), by first | exact bel_drewN hbW _ | exact bel_drewN (bel_drewN hbW _) _⟩
          · by_cases hl : ga < lost
            · have HO : Hid (canN rs mn lost an bn sn tn ga gb ⟨ta, tb, true, true⟩ = decide (gb < lost)) := by show _ = _; rw [HC.out]; simp [H1.out, g1, H2.out, hl]
              go_enter Try.func123, Try.ntmps123
              go_wp2_with fail
              rw [← hW]
              clear hW
              have h2 := H2.out
              have h1 := H1.out
              have h1b : (ta != 0) = true := bne_iff_ne.2 H1.out
              go_quiet ((first | (go_at_call 178; exact quiet_left (HM1.out _)) | (go_at_call 177; exact quiet_left (clear_eq hm1 htn hmn (by first | exact arr2_drewN HA.out _ | exact arr2_drewN (arr2_drewN HA.out _) _) ht g1))))
              go_wp2
              go_quiet (fail)
              go_wp2
              go_ret
              exact ⟨by first | (rw [HO.out]; rfl) | (have q := HO.out; rw [H1.out] at q; first | (rw [q]; rfl) | (rw [H2.out] at q; rw [q]; rfl)) | (have q := HO.out; rw [H2.out] at q; rw [q]; rfl), by first | exact bel_drewN hbW _ | exact bel_drewN (bel_drewN hbW _) _⟩
            · have HO : Hid (canN rs mn lost an bn sn tn ga gb ⟨ta, tb, true, true⟩ = false) := by show _ = _; rw [HC.out]; simp [H1.out, g1, H2.out, hl]
              go_enter Try.func123, Try.ntmps123
              go_wp2_with fail
              rw [← hW]
              clear hW
              have h2 := H2.out
              have h1 := H1.out
              have h1b : (ta != 0) = true := bne_iff_ne.2 H1.out
              go_quiet ((first | (go_at_call 178; exact quiet_left (HM1.out _)) | (go_at_call 177; exact quiet_left (clear_eq hm1 htn hmn (by first | exact arr2_drewN HA.out _ | exact arr2_drewN (arr2_drewN HA.out _) _) ht g1))))
              go_wp2
              go_quiet (fail)
              go_wp2
              go_ret
              exact ⟨by first | (rw [HO.out]; rfl) | (have q := HO.out; rw [H1.out] at q; first | (rw [q]; rfl) | (rw [H2.out] at q; rw [q]; rfl)) | (have q := HO.out; rw [H2.out] at q; rw [q]; rfl), by first | exact bel_drewN hbW _ | exact bel_drewN (bel_drewN hbW _) _⟩
      · have H2 := Lib.hid h2
        clear h2
        cases g2 : gd rs false d2 sn mn
        · have HO : Hid (canN rs mn lost an bn sn tn ga gb ⟨ta, tb, la, lb⟩ = false) := by show _ = _; rw [HC.out]; simp [H1.out, g1, H2.out, g2]
          go_enter Try.func123, Try.ntmps123
          go_wp2_with fail
          rw [← hW]
          clear hW
          have h2 := H2.out
          have h1 := H1.out
          have h1b : (ta != 0) = true := bne_iff_ne.2 H1.out
          go_quiet ((first | (go_at_call 178; exact quiet_left (HM1.out _)) | (go_at_call 177; exact quiet_left (clear_eq hm1 htn hmn (by first | exact arr2_drewN HA.out _ | exact arr2_drewN (arr2_drewN HA.out _) _) ht g1))))
          go_wp2
          have h2b : (tb != 0) = true := bne_iff_ne.2 H2.out
          go_quiet ((first | (go_at_call 178; exact quiet_left2 (HM2.out _)) | (go_at_call 177; exact quiet_left2 (clear_eq hm2 hsn hmn (by first | exact arr2_drewN HA.out _ | exact arr2_drewN (arr2_drewN HA.out _) _) ht g2))))
          go_wp2
          go_ret
          exact ⟨by first | (rw [HO.out]; rfl) | (have q := HO.out; rw [H1.out] at q; first | (rw [q]; rfl) | (rw [H2.out] at q; rw [q]; rfl)) | (have q := HO.out; rw [H2.out] at q; rw [q]; rfl), by first | exact bel_drewN hbW _ | exact bel_drewN (bel_drewN hbW _) _⟩
        · skip
          cases la
          · cases lb
            · have HO : Hid (canN rs mn lost an bn sn tn ga gb ⟨ta, tb, false, false⟩ = true) := by show _ = _; rw [HC.out]; simp [H1.out, g1, H2.out, g2]
              go_enter Try.func123, Try.ntmps123
              go_wp2_with fail
              rw [← hW]
              clear hW
              have h2 := H2.out
              have h1 := H1.out
              have h1b : (ta != 0) = true := bne_iff_ne.2 H1.out
              go_quiet ((first | (go_at_call 178; exact quiet_left (HM1.out _)) | (go_at_call 177; exact quiet_left (clear_eq hm1 htn hmn (by first | exact arr2_drewN HA.out _ | exact arr2_drewN (arr2_drewN HA.out _) _) ht g1))))
              go_wp2
              have h2b : (tb != 0) = true := bne_iff_ne.2 H2.out
              go_quiet ((first | (go_at_call 178; exact quiet_left2 (HM2.out _)) | (go_at_call 177; exact quiet_left2 (clear_eq hm2 hsn hmn (by first | exact arr2_drewN HA.out _ | exact arr2_drewN (arr2_drewN HA.out _) _) ht g2))))
              go_wp2
              go_ret
              exact ⟨by first | (rw [HO.out]; rfl) | (have q := HO.out; rw [H1.out] at q; first | (rw [q]; rfl) | (rw [H2.out] at q; rw [q]; rfl)) | (have q := HO.out; rw [H2.out] at q; rw [q]; rfl), by first | exact bel_drewN hbW _ | exact bel_drewN (bel_drewN hbW _) _⟩
            · have HO : Hid (canN rs mn lost an bn sn tn ga gb ⟨ta, tb, false, true⟩ = decide (gb < lost)) := by show _ = _; rw [HC.out]; simp [H1.out, g1, H2.out, g2]
              go_enter Try.func123, Try.ntmps123
              go_wp2_with fail
              rw [← hW]
              clear hW
              have h2 := H2.out
              have h1 := H1.out
              have h1b : (ta != 0) = true := bne_iff_ne.2 H1.out
              go_quiet ((first | (go_at_call 178; exact quiet_left (HM1.out _)) | (go_at_call 177; exact quiet_left (clear_eq hm1 htn hmn (by first | exact arr2_drewN HA.out _ | exact arr2_drewN (arr2_drewN HA.out _) _) ht g1))))
              go_wp2
              have h2b : (tb != 0) = true := bne_iff_ne.2 H2.out
              go_quiet ((first | (go_at_call 178; exact quiet_left2 (HM2.out _)) | (go_at_call 177; exact quiet_left2 (clear_eq hm2 hsn hmn (by first | exact arr2_drewN HA.out _ | exact arr2_drewN (arr2_drewN HA.out _) _) ht g2))))
              go_wp2
              go_ret
              exact ⟨by first | (rw [HO.out]; rfl) | (have q := HO.out; rw [H1.out] at q; first | (rw [q]; rfl) | (rw [H2.out] at q; rw [q]; rfl)) | (have q := HO.out; rw [H2.out] at q; rw [q]; rfl), by first | exact bel_drewN hbW _ | exact bel_drewN (bel_drewN hbW _) _⟩
          · cases lb
            · by_cases hl : ga < lost
              · have HO : Hid (canN rs mn lost an bn sn tn ga gb ⟨ta, tb, true, false⟩ = true) := by show _ = _; rw [HC.out]; simp [H1.out, g1, H2.out, g2, hl]
                go_enter Try.func123, Try.ntmps123
                go_wp2_with fail
                rw [← hW]
                clear hW
                have h2 := H2.out
                have h1 := H1.out
                have h1b : (ta != 0) = true := bne_iff_ne.2 H1.out
                go_quiet ((first | (go_at_call 178; exact quiet_left (HM1.out _)) | (go_at_call 177; exact quiet_left (clear_eq hm1 htn hmn (by first | exact arr2_drewN HA.out _ | exact arr2_drewN (arr2_drewN HA.out _) _) ht g1))))
                go_wp2
                have h2b : (tb != 0) = true := bne_iff_ne.2 H2.out
                go_quiet ((first | (go_at_call 178; exact quiet_left2 (HM2.out _)) | (go_at_call 177; exact quiet_left2 (clear_eq hm2 hsn hmn (by first | exact arr2_drewN HA.out _ | exact arr2_drewN (arr2_drewN HA.out _) _) ht g2))))
                go_wp2
                go_ret
                exact ⟨by first | (rw [HO.out]; rfl) | (have q := HO.out; rw [H1.out] at q; first | (rw [q]; rfl) | (rw [H2.out] at q; rw [q]; rfl)) | (have q := HO.out; rw [H2.out] at q; rw [q]; rfl), by first | exact bel_drewN hbW _ | exact bel_drewN (bel_drewN hbW _) _⟩
              · have HO : Hid (canN rs mn lost an bn sn tn ga gb ⟨ta, tb, true, false⟩ = false) := by show _ = _; rw [HC.out]; simp [H1.out, g1, H2.out, g2, hl]
                go_enter Try.func123, Try.ntmps123
                go_wp2_with fail
                rw [← hW]
                clear hW
                have h2 := H2.out
                have h1 := H1.out
                have h1b : (ta != 0) = true := bne_iff_ne.2 H1.out
                go_quiet ((first | (go_at_call 178; exact quiet_left (HM1.out _)) | (go_at_call 177; exact quiet_left (clear_eq hm1 htn hmn (by first | exact arr2_drewN HA.out _ | exact arr2_drewN (arr2_drewN HA.out _) _) ht g1))))
                go_wp2
                have h2b : (tb != 0) = true := bne_iff_ne.2 H2.out
                go_quiet ((first | (go_at_call 178; exact quiet_left2 (HM2.out _)) | (go_at_call 177; exact quiet_left2 (clear_eq hm2 hsn hmn (by first | exact arr2_drewN HA.out _ | exact arr2_drewN (arr2_drewN HA.out _) _) ht g2))))
                go_wp2
                go_ret
                exact ⟨by first | (rw [HO.out]; rfl) | (have q := HO.out; rw [H1.out] at q; first | (rw [q]; rfl) | (rw [H2.out] at q; rw [q]; rfl)) | (have q := HO.out; rw [H2.out] at q; rw [q]; rfl), by first | exact bel_drewN hbW _ | exact bel_drewN (bel_drewN hbW _) _⟩
            · by_cases hl : ga < lost
              · have HO : Hid (canN rs mn lost an bn sn tn ga gb ⟨ta, tb, true, true⟩ = decide (gb < lost)) := by show _ = _; rw [HC.out]; simp [H1.out, g1, H2.out, g2, hl]
                go_enter Try.func123, Try.ntmps123
                go_wp2_with fail
                rw [← hW]
                clear hW
                have h2 := H2.out
                have h1 := H1.out
                have h1b : (ta != 0) = true := bne_iff_ne.2 H1.out
                go_quiet ((first | (go_at_call 178; exact quiet_left (HM1.out _)) | (go_at_call 177; exact quiet_left (clear_eq hm1 htn hmn (by first | exact arr2_drewN HA.out _ | exact arr2_drewN (arr2_drewN HA.out _) _) ht g1))))
                go_wp2
                have h2b : (tb != 0) = true := bne_iff_ne.2 H2.out
                go_quiet ((first | (go_at_call 178; exact quiet_left2 (HM2.out _)) | (go_at_call 177; exact quiet_left2 (clear_eq hm2 hsn hmn (by first | exact arr2_drewN HA.out _ | exact arr2_drewN (arr2_drewN HA.out _) _) ht g2))))
                go_wp2
                go_ret
                exact ⟨by first | (rw [HO.out]; rfl) | (have q := HO.out; rw [H1.out] at q; first | (rw [q]; rfl) | (rw [H2.out] at q; rw [q]; rfl)) | (have q := HO.out; rw [H2.out] at q; rw [q]; rfl), by first | exact bel_drewN hbW _ | exact bel_drewN (bel_drewN hbW _) _⟩
              · have HO : Hid (canN rs mn lost an bn sn tn ga gb ⟨ta, tb, true, true⟩ = false) := by show _ = _; rw [HC.out]; simp [H1.out, g1, H2.out, g2, hl]
                go_enter Try.func123, Try.ntmps123
                go_wp2_with fail
                rw [← hW]
                clear hW
                have h2 := H2.out
                have h1 := H1.out
                have h1b : (ta != 0) = true := bne_iff_ne.2 H1.out
                go_quiet ((first | (go_at_call 178; exact quiet_left (HM1.out _)) | (go_at_call 177; exact quiet_left (clear_eq hm1 htn hmn (by first | exact arr2_drewN HA.out _ | exact arr2_drewN (arr2_drewN HA.out _) _) ht g1))))
                go_wp2
                have h2b : (tb != 0) = true := bne_iff_ne.2 H2.out
                go_quiet ((first | (go_at_call 178; exact quiet_left2 (HM2.out _)) | (go_at_call 177; exact quiet_left2 (clear_eq hm2 hsn hmn (by first | exact arr2_drewN HA.out _ | exact arr2_drewN (arr2_drewN HA.out _) _) ht g2))))
                go_wp2
                go_ret
                exact ⟨by first | (rw [HO.out]; rfl) | (have q := HO.out; rw [H1.out] at q; first | (rw [q]; rfl) | (rw [H2.out] at q; rw [q]; rfl)) | (have q := HO.out; rw [H2.out] at q; rw [q]; rfl), by first | exact bel_drewN hbW _ | exact bel_drewN (bel_drewN hbW _) _⟩
end Go.Proofs.Ytomifedaiabapaa
