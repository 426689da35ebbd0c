/- BestCrane of the reference: it hands back bcVal and bcCode. -/
import Derived.Test.YtdoinbnnpompiaaAblesOf
import Derived.Test.YtdoinbnnpompiaaOwnAt
import Derived.Lib.QuietBelow
import Derived.BigQuiet
namespace Go.Proofs.Ytdoinbnnpompiaa
open Go.RowKit Go.Sort
set_option linter.unusedVariables false

def ldC (cs : List CV) (v : LiftV) (i : Int) : Int := match cs[i.toNat]? with | some c => ldF c v | none => -1
theorem ldC_of {cs : List CV} {v : LiftV} {j : Nat} {c : CV} (h : cs[j]? = some c) : ldC cs v (j : Int) = ldF c v := by simp only [ldC, Int.toNat_natCast, h]
def bst (f : Int → Int) (xs : List Int) : Int × Int := xs.foldl (fun a i => if a.2 < f i then (i, f i) else a) (-1, -1)
theorem bst_snoc (f : Int → Int) (xs : List Int) (i : Int) : bst f (xs ++ [i]) = if (bst f xs).2 < f i then (i, f i) else bst f xs := by
  unfold bst; rw [List.foldl_append]; rfl
theorem bst_take {f : Int → Int} {xs : List Int} {k : Nat} {i : Int} (h : xs[k]? = some i) : bst f (xs.take (k + 1)) = if (bst f (xs.take k)).2 < f i then (i, f i) else bst f (xs.take k) := by
  rw [List.take_add_one, h, Option.toList_some, bst_snoc]
theorem bst_mem {f : Int → Int} {xs : List Int} (hf : ∀ i ∈ xs, 0 ≤ f i) {m : Nat} (hm : xs.length = m) : ∀ k, 1 ≤ k → k ≤ m → (bst f (xs.take k)).1 ∈ xs ∧ f (bst f (xs.take k)).1 = (bst f (xs.take k)).2 ∧ 0 ≤ (bst f (xs.take k)).2
  | 0, h, _ => absurd h (by omega)
  | k + 1, _, hk => by
    have hx : xs[k]? = some (xs[k]'(by omega)) := List.getElem?_eq_getElem _
    have hmem : xs[k]'(by omega) ∈ xs := List.getElem_mem _
    have h0 := hf _ hmem
    rw [bst_take hx]
    by_cases hlt : (bst f (xs.take k)).2 < f (xs[k]'(by omega))
    · rw [if_pos hlt]; exact ⟨hmem, rfl, h0⟩
    · rw [if_neg hlt]
      rcases Nat.eq_zero_or_pos k with rfl | hk1
      · exact absurd (show (bst f (xs.take 0)).2 < _ by show (-1 : Int) < _; omega) hlt
      · exact bst_mem hf hm k hk1 (by omega)
theorem able_mem {cs : List CV} {v : LiftV} {n : Nat} {x : Int} (h : x ∈ ableTo cs v n) : ∃ j : Nat, j < n ∧ x = (j : Int) ∧ ableAt cs v j = true := by
  unfold ableTo at h
  obtain ⟨j, hj, rfl⟩ := List.mem_map.1 h
  rw [List.mem_filter] at hj
  exact ⟨j, List.mem_range.1 hj.1, rfl, hj.2⟩
theorem able_get {cs : List CV} {v : LiftV} {n k : Nat} {x : Int} (h : (ableTo cs v n)[k]? = some x) : ∃ j : Nat, j < n ∧ x = (j : Int) ∧ ableAt cs v j = true := able_mem (List.mem_of_getElem? h)
theorem able_in {cs : List CV} {v : LiftV} {n k : Nat} {xs : List Int} (hxs : ableTo cs v n = xs) {x : Int} (h : xs[k]? = some x) : ∃ j : Nat, j < n ∧ x = (j : Int) := by
  subst hxs
  obtain ⟨j, h1, h2, _⟩ := able_get h
  exact ⟨j, h1, h2⟩
theorem able_ld {cs : List CV} {v : LiftV} {n : Nat} (hv : PlainV v) {x : Int} (h : x ∈ ableTo cs v n) : 0 ≤ ldC cs v x := by
  obtain ⟨j, _, rfl, ha⟩ := able_mem h
  unfold ableAt at ha
  split at ha
  · next c hc =>
    rw [ldC_of hc]
    rcases Int.lt_or_le (ldF c v) 0 with h9 | h9
    · rw [hv.ne h9] at ha; cases ha
    · exact h9
  · cases ha
def GoodC (w : World) (b off lo : Nat) (v : LiftV) (j : Nat) (x : Int) : Prop := ∃ p : Crane, CraneAt w b (off + j * 7) p ∧ Arr ChartStep.cs 2 w lo w.heap.size p.r.a p.r.n p.r.xs ∧ p.wf ∧ craneOk p.val = true ∧ ldF p.val v = x
def bcVal (cs : List CV) (v : LiftV) : Int := if siteOk cs then (if plainB v then (if ableTo cs v cs.length = [] then 0 else (bst (ldC cs v) (ableTo cs v cs.length)).1) else 0) else 0
def bcCode (cs : List CV) (v : LiftV) : Int := if siteOk cs then (if plainB v then (if ableTo cs v cs.length = [] then 3 else 0) else 1) else 1

set_option maxRecDepth 100000 in
set_option maxHeartbeats 1600000 in
theorem specBestCrane_any (s : Row Crane) (cs : List CV) (hv : s.xs.map Crane.val = cs) (l : Lift) (w : World) (lo : Nat) (h : Cranes w lo w.heap.size s.a s.n s.xs) (hc : s.n ≤ s.cap) (hc2 : s.cap ≤ 1048576) (hp : ∀ p ∈ s.xs, p.wf) (hq : l.v.name.size ≤ 9223372036854775807) :
    Calls Try.prog 27 #[.agg #[.slice s.a s.n s.cap], .agg #[.string l.v.name, .int .i64 l.v.weight, .int .i64 l.v.fx, .int .i64 l.v.fy, .int .i64 l.v.tx, .int .i64 l.v.ty, .int .i64 l.v.height, .int .i64 l.v.deadline, .slice l.r.a l.r.n l.r.cap]] w fun e w' => e = .returned (.tuple #[.int .i64 (bcVal cs l.v), .int .i64 (bcCode cs l.v)]) ∧ Below w.heap.size w w' := by
  have HV := Lib.hid hv
  have HP := Lib.hid hp
  have HL : Hid (cs.length = s.n) := by show _ = _; rw [cv_len hv, h.len]
  obtain ⟨A, n, c, ps⟩ := s
  dsimp only at *
  obtain ⟨W, hW⟩ : ∃ W : World, W = (w.alloc (.cells #[.slice A n c] 36)).alloc (.cells #[.string l.v.name, .int .i64 l.v.weight, .int .i64 l.v.fx, .int .i64 l.v.fy, .int .i64 l.v.tx, .int .i64 l.v.ty, .int .i64 l.v.height, .int .i64 l.v.deadline, .slice l.r.a l.r.n l.r.cap] 40) := ⟨_, rfl⟩
  have B0 : Below w.heap.size w W := by rw [hW]; exact ((Below.refl _ _).alloc (Nat.le_refl _) _).alloc (by simp) _
  have P0 : Blk W w.heap.size 36 #[.slice A n c] := by rw [hW]; exact (Blk.new _ _ _).alloc _
  have Q0 : Blk W (w.heap.size + 1) 40 #[.string l.v.name, .int .i64 l.v.weight, .int .i64 l.v.fx, .int .i64 l.v.fy, .int .i64 l.v.tx, .int .i64 l.v.ty, .int .i64 l.v.height, .int .i64 l.v.deadline, .slice l.r.a l.r.n l.r.cap] := by rw [hW]; exact Blk.new_at rfl (by simp)
  have HC := Lib.hid (h.next B0)
  clear h
  clear hv hp
  cases h1 : siteOk cs
  · have H1 := Lib.hid h1
    have H : Hid (bcVal cs l.v = 0 ∧ bcCode cs l.v = 1) := by show _ ∧ _; unfold bcVal bcCode; rw [h1]; exact ⟨rfl, rfl⟩
    clear h1
    go_enter Try.func27, Try.ntmps27
    go_wp2_with fail
    rw [← hW]
    clear hW
    refine (l04Site_any w.heap.size 0 ⟨A, n, c, ps⟩ cs HV.out _ lo (P0.cell 0) P0.lt HC.out (show n ≤ 1048576 by omega) HP.out).mono ?_
    rintro e w1 ⟨rfl, hb1⟩
    rw [H1.out]
    have B1 := B0.trans (hb1.mono B0.size)
    have P1 := P0.bel hb1
    have Q1 := Q0.bel hb1
    have HC1 := Lib.hid (HC.out.next hb1)
    clear P0 Q0 hb1
    go_wp2
    go_ret2
    exact ⟨by rw [H.out.1, H.out.2]; rfl, B1⟩
  · have H1 := Lib.hid h1
    cases h2 : plainB l.v
    · have H2 := Lib.hid h2
      have H : Hid (bcVal cs l.v = 0 ∧ bcCode cs l.v = 1) := by show _ ∧ _; unfold bcVal bcCode; rw [h1, h2]; exact ⟨rfl, rfl⟩
      clear h1 h2
      go_enter Try.func27, Try.ntmps27
      go_wp2_with fail
      rw [← hW]
      clear hW
      refine (l04Site_any w.heap.size 0 ⟨A, n, c, ps⟩ cs HV.out _ lo (P0.cell 0) P0.lt HC.out (show n ≤ 1048576 by omega) HP.out).mono ?_
      rintro e w1 ⟨rfl, hb1⟩
      rw [H1.out]
      have B1 := B0.trans (hb1.mono B0.size)
      have P1 := P0.bel hb1
      have Q1 := Q0.bel hb1
      have HC1 := Lib.hid (HC.out.next hb1)
      clear P0 Q0 hb1
      go_wp2_with fail
      refine (l09Plain_any (w.heap.size + 1) 0 l _ hq Q1.lt (LiftAt.blk Q1)).mono ?_
      rintro e w2 ⟨rfl, hb2⟩
      rw [H2.out]
      have B2 := B1.trans (hb2.mono B1.size)
      have P2 := P1.bel hb2
      have Q2 := Q1.bel hb2
      have HC2 := Lib.hid (HC1.out.next hb2)
      clear P1 Q1 hb2
      go_wp2
      go_ret2
      exact ⟨by rw [H.out.1, H.out.2]; rfl, B2⟩
    · have H2 := Lib.hid h2
      have H : Hid (bcVal cs l.v = (if ableTo cs l.v n = [] then 0 else (bst (ldC cs l.v) (ableTo cs l.v n)).1) ∧ bcCode cs l.v = (if ableTo cs l.v n = [] then 3 else 0)) := by show _ ∧ _; unfold bcVal bcCode; rw [h1, h2, HL.out]; exact ⟨rfl, rfl⟩
      clear h1 h2
      go_enter Try.func27, Try.ntmps27
      go_wp2_with fail
      rw [← hW]
      clear hW
      refine (l04Site_any w.heap.size 0 ⟨A, n, c, ps⟩ cs HV.out _ lo (P0.cell 0) P0.lt HC.out (show n ≤ 1048576 by omega) HP.out).mono ?_
      rintro e w1 ⟨rfl, hb1⟩
      rw [H1.out]
      have B1 := B0.trans (hb1.mono B0.size)
      have P1 := P0.bel hb1
      have Q1 := Q0.bel hb1
      have HC1 := Lib.hid (HC.out.next hb1)
      clear P0 Q0 hb1
      go_wp2_with fail
      refine (l09Plain_any (w.heap.size + 1) 0 l _ hq Q1.lt (LiftAt.blk Q1)).mono ?_
      rintro e w2 ⟨rfl, hb2⟩
      rw [H2.out]
      have B2 := B1.trans (hb2.mono B1.size)
      have P2 := P1.bel hb2
      have Q2 := Q1.bel hb2
      have HC2 := Lib.hid (HC1.out.next hb2)
      clear P1 Q1 hb2
      go_wp2_with fail
      refine (l09Ables_any w.heap.size 0 (w.heap.size + 1) 0 ⟨A, n, c, ps⟩ cs HV.out l _ lo (P2.cell 0) P2.lt Q2.lt (LiftAt.blk Q2) HC2.out (show n ≤ 1048576 by omega) HP.out hq H1.out H2.out).mono ?_
      rintro _ w3 ⟨A3, cp, rfl, ho, hb3⟩
      have B3 := B2.trans (hb3.mono B2.size)
      have P3 := P2.bel hb3
      have Q3 := Q2.bel hb3
      have HC3 := Lib.hid (HC2.out.next hb3)
      have HX := Lib.hid (fun k x => @able_get cs l.v n k x)
      have HPV := Lib.hid (plainB_parts H2.out)
      obtain ⟨xs, hxs⟩ : ∃ xs, ableTo cs l.v n = xs := ⟨_, rfl⟩
      rw [hxs] at ho ⊢
      have HXS := Lib.hid hxs
      have H9 : Hid (bcVal cs l.v = (if xs = [] then 0 else (bst (ldC cs l.v) xs).1) ∧ bcCode cs l.v = (if xs = [] then 3 else 0)) := by show _ ∧ _; rw [← hxs]; exact H.out
      have hxl : xs.length ≤ n := by rw [← hxs]; exact ableTo_len _ _ _
      obtain ⟨m, hm⟩ : ∃ m, xs.length = m := ⟨_, rfl⟩
      rw [hm] at ho hxl ⊢
      have HM := Lib.hid hm
      clear hxs hm hb3 P2 Q2
      rcases Nat.eq_zero_or_pos m with rfl | hm0
      · have hx0 : xs = [] := List.eq_nil_of_length_eq_zero HM.out
        go_wp2
        go_ret2
        exact ⟨by rw [H9.out.1, H9.out.2, if_pos hx0, if_pos hx0]; rfl, B3⟩
      · have hxn : xs ≠ [] := by intro h; have := HM.out; rw [h] at this; simp at this; omega
        have HXN := Lib.hid hxn
        obtain ⟨g, cs0, rfl, hg1, hg2, hgb, _⟩ := ho.2 hm0
        have HO3 := Lib.hid ho
        have HF : Hid (∀ i ∈ xs, 0 ≤ ldC cs l.v i) := by
          intro i hi
          rw [← HXS.out] at hi
          exact able_ld HPV.out hi
        obtain ⟨x0, hx0, d0, _⟩ := ho.cellAt hm0
        have HX0 := Lib.hid hx0
        have hm00 : (0 : Int) < (m : Int) := by omega
        have hbst1 : (bst (ldC cs l.v) (xs.take 1)).1 = x0 := by
          have h0 := HF.out x0 (List.mem_of_getElem? HX0.out)
          rw [bst_take HX0.out, if_pos (show (bst (ldC cs l.v) (xs.take 0)).2 < _ by show (-1 : Int) < _; omega)]
        have HB1 := Lib.hid hbst1
        clear hx0 ho hbst1 hxn hgb
        go_wp2
        clear d0
        go_loopw [7, 8] (fun v i wr => ∃ k : Nat, 1 ≤ k ∧ k ≤ m ∧ i = .int .i64 k ∧ v = .int .i64 (bst (ldC cs l.v) (xs.take k)).1 ∧ Below w3.heap.size w3 wr) (fun _ i _ => m - (intOf i).toNat)
        case atStart => exact ⟨1, by omega, by omega, rfl, by rw [HB1.out], Below.refl _ _⟩
        case round =>
          obtain ⟨k, hk0, hk, rfl, rfl, hbw⟩ := hrel
          have hsz := hbw.size
          have HBW := Lib.hid hbw
          have P4 := P3.bel hbw
          have Q4 := Q3.bel hbw
          have hgw : g < wr.heap.size := by omega
          by_cases hlt : k < m
          · obtain ⟨x1, hx1, dk, _⟩ := (HO3.out.bel hbw).cellAt hlt
            obtain ⟨j1, hj1, rfl⟩ := able_in HXS.out hx1
            obtain ⟨h2m, h2f, _⟩ := bst_mem HF.out HM.out k hk0 hk
            obtain ⟨i2, hi2⟩ := List.getElem?_of_mem h2m
            obtain ⟨j2, hj2, e2⟩ := able_in HXS.out hi2
            rw [e2] at h2f ⊢
            have HST := Lib.hid (bst_take (f := ldC cs l.v) hx1)
            rw [← h2f] at HST
            obtain ⟨b, off, p1, eA, hp1, _, hbl, hrow1, k0, k1, k2, k3, k4, k5, k6⟩ := Crane.at (HC3.out.below hbw) hj1
            obtain ⟨b', off', p2, eA', hp2, _, _, hrow2, l0, l1, l2, l3, l4, l5, l6⟩ := Crane.at (HC3.out.below hbw) hj2
            rw [eA] at eA'
            cases eA'
            have hv1 := cv_at HV.out hp1
            have hv2 := cv_at HV.out hp2
            have HV1 := Lib.hid hv1
            have HV2 := Lib.hid hv2
            have hpw1 := HP.out p1 (List.mem_of_getElem? hp1)
            have hpw2 := HP.out p2 (List.mem_of_getElem? hp2)
            have ef1 : ldC cs l.v (j1 : Int) = ldF p1.val l.v := ldC_of hv1
            have ef2 : ldC cs l.v (j2 : Int) = ldF p2.val l.v := ldC_of hv2
            rw [ef1, ef2] at HST
            have K1 : Hid (CraneAt wr b (off + j1 * 7) p1) := ⟨k0, k1, k2, k3, k4, k5, k6⟩
            have K2 : Hid (CraneAt wr b (off + j2 * 7) p2) := ⟨l0, l1, l2, l3, l4, l5, l6⟩
            have KL := Lib.hid (LiftAt.blk Q4)
            have hQl := Q4.lt
            have R1 := Lib.hid (hrow1.more hsz)
            have R2 := Lib.hid (hrow2.more hsz)
            have hbl2 : b < wr.heap.size := by omega
            have HA := Lib.hid (show ∀ (j : Nat) (x : Int), GoodC wr b off lo l.v j x → ∀ d os, Calls Try.prog 93 #[.pointer (some ⟨b, off + j * 7, none⟩), .pointer (some ⟨w.heap.size + 1, 0, none⟩)] (grow (redrawn wr d) os) fun e w' => e = .returned (.int .i64 x) ∧ Below (grow (redrawn wr d) os).heap.size (grow (redrawn wr d) os) w' from fun j x hG d os => by
              obtain ⟨p, g1, g2, g3, g4, rfl⟩ := hG
              have hb9 := below_regrown wr d os
              exact l09Load_any b (off + j * 7) _ 0 p l _ lo ((g2.below hb9).more hb9.size) g3.n g3.v.name hq (by have := hb9.size; omega) (by have := hb9.size; omega) (g1.below hb9 hbl2) (KL.out.below hb9 hQl) g4 H2.out)
            have G1 : GoodC wr b off lo l.v j1 (ldF p1.val l.v) := ⟨p1, K1.out, R1.out, hpw1, siteOk_at H1.out HV1.out, rfl⟩
            have G2 : GoodC wr b off lo l.v j2 (ldF p2.val l.v) := ⟨p2, K2.out, R2.out, hpw2, siteOk_at H1.out HV2.out, rfl⟩
            have c9 : wr.cell? ⟨w.heap.size, 0, none⟩ = some (.slice A n c) := P4.cell 0
            rw [eA] at c9
            have EA := Lib.hid eA
            have DK := Lib.hid dk
            replace c9 := cell_regrown c9
            replace dk := cell_regrown dk
            have hj1n : (j1 : Int) < (n : Int) := by omega
            have hj2n : (j2 : Int) < (n : Int) := by omega
            have hj10 : (0 : Int) ≤ (j1 : Int) := by omega
            have hj20 : (0 : Int) ≤ (j2 : Int) := by omega
            have hkm : (k : Int) < (m : Int) := by omega
            have hkk0 : (0 : Int) ≤ (k : Int) := by omega
            clear eA k0 k1 k2 k3 k4 k5 k6 l0 l1 l2 l3 l4 l5 l6 hrow1 hrow2 hp1 hp2 hv1 hv2 ef1 ef2 hx1 hi2 h2m h2f hbw P4 Q4
            go_wp2
            refine wp_region_quiet_below (by kernel_rfl) (by kernel_rfl) ?_
            repeat (go_big_quiet_step ((go_at_call 93; exact Calls.regrown_of (HA.out _ _ (by assumption) _ _))))
            refine wpQuiet_nil ?_
            intro _ hw9
            obtain ⟨⟨dq, osq⟩, hw9⟩ := hw9
            subst hw9
            have hb9 := below_regrown wr dq osq
            dsimp only at hb9 ⊢
            clear c9 dk HA
            generalize grow (redrawn wr dq) osq = W2 at hb9 ⊢
            have dk := (hb9.cell (p := ⟨g, k, none⟩) hgw).trans DK.out
            have HBX := Lib.hid (HBW.out.trans (hb9.mono hsz))
            clear hb9
            by_cases hgt : ldF p2.val l.v < ldF p1.val l.v
            · have hst := HST.out
              rw [if_pos hgt] at hst
              have HS2 := Lib.hid hst
              clear hst
              go_wp2
              go_roundw
              case rel => exact ⟨k + 1, by omega, by omega, by go_num, by rw [HS2.out], HBX.out⟩
              case measure => simp [intOf]; omega
            · have hst := HST.out
              rw [if_neg hgt] at hst
              have HS2 := Lib.hid hst
              clear hst
              go_wp2
              go_roundw
              case rel => exact ⟨k + 1, by omega, by omega, by go_num, by rw [HS2.out, ← e2], HBX.out⟩
              case measure => simp [intOf]; omega
          · obtain rfl : k = m := by omega
            have ht : xs.take k = xs := List.take_of_length_le (by rw [HM.out]; exact Nat.le_refl _)
            go_wp2
            go_ret2
            exact ⟨by rw [H9.out.1, H9.out.2, if_neg HXN.out, if_neg HXN.out, ht]; rfl, B3.trans (HBW.out.mono B3.size)⟩
end Go.Proofs.Ytdoinbnnpompiaa
