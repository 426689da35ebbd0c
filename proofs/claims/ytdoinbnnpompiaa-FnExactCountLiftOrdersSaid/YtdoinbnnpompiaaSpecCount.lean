/- CountLiftOrders of the reference: the ways to come to each set. -/
import Derived.Test.YtdoinbnnpompiaaCount
import Derived.Deep.RegionHeld3
import Derived.Laws.OwnMore
import Derived.IntWalk
namespace Go.Proofs.Ytdoinbnnpompiaa
open Go.RowKit
set_option linter.unusedVariables false

theorem made_at {M i : Nat} (hi : i < M) : (madeCells #[.int .i64 0] M)[i]? = some (.int .i64 0) := by
  rw [← Array.getElem?_toList, toList_madeCells_one, List.getElem?_replicate, if_pos hi]
theorem own_one (w : World) (M : Nat) (hM : 0 < M) : Own ic 1 (w.alloc (.cells ((madeCells #[.int .i64 0] M).setIfInBounds 0 (.int .i64 1)) 2)) w.heap.size (w.heap.size + 1) 2 (some ⟨w.heap.size, 0, none⟩) M ((List.replicate M (0 : Int)).set 0 1) := by
  refine ⟨by simp, fun _ => ⟨w.heap.size, _, rfl, Nat.le_refl _, Nat.lt_succ_self _, heap_alloc_new w _, by simp [size_madeCells], fun i x hx j hj => ?_⟩⟩
  obtain rfl : j = 0 := by omega
  rw [Nat.mul_one, Nat.add_zero]
  by_cases h0 : i = 0
  · subst h0
    rw [List.getElem?_set_self (by simpa using hM)] at hx
    cases hx
    rw [Array.getElem?_setIfInBounds_self_of_lt (by rw [size_madeCells]; exact hM)]; rfl
  · rw [List.getElem?_set_ne (by omega), List.getElem?_replicate] at hx
    split at hx
    · next hi =>
      cases hx
      rw [Array.getElem?_setIfInBounds_ne (by omega), made_at hi]; rfl
    · cases hx
theorem Own.cellAt {w : World} {lo hi g M : Nat} {e : TypeId} {ws : List Int} (h : Own ic 1 w lo hi e (some ⟨g, 0, none⟩) M ws) {u : Nat} (hu : u < M) : ∃ y, ws[u]? = some y ∧ w.cell? ⟨g, u, none⟩ = some (.int .i64 y) ∧ w.frozen? ⟨g, u, none⟩ = false := by
  obtain ⟨g', cs, e1, _, _, hh, hs, hc⟩ := h.2 (by omega)
  cases e1
  have hl : u < ws.length := by rw [h.1]; exact hu
  refine ⟨ws[u], List.getElem?_eq_getElem hl, ?_, Blk.frozen (t := e) (cs := cs) hh u⟩
  have := hc u _ (List.getElem?_eq_getElem hl) 0 (by omega)
  rw [cell_of_row w g u cs e (0, 0) hh]
  simpa [ic] using this
theorem Own.putAt {w : World} {lo hi g M : Nat} {e : TypeId} {ws : List Int} (h : Own ic 1 w lo hi e (some ⟨g, 0, none⟩) M ws) {u : Nat} {y : Int} (hy : ws[u]? = some y) (v : Int) : Own ic 1 (w.setCell ⟨g, u, none⟩ (.int .i64 v)) lo hi e (some ⟨g, 0, none⟩) M (ws.set u v) := by
  have := h.put (y := v) (u := .int .i64 v) hy (j0 := 0) (by omega) rfl (fun j hj hne => absurd hj (by omega))
  simpa using this
theorem lt_with {k j : Nat} (h : hasI (k : Int) (j : Int) = false) : (k : Int) < withI (k : Int) (j : Int) := by
  unfold hasI at h
  unfold withI
  rw [Int.toNat_natCast, Int.toNat_natCast] at *
  have h1 : k ≤ k ||| 2 ^ j := Nat.left_le_or
  have h2 : k ≠ k ||| 2 ^ j := by
    intro e
    have : (k ||| 2 ^ j).testBit j = true := by simp
    rw [← e, h] at this; cases this
  omega
theorem miss_some {n k : Nat} (hk : k + 1 < 2 ^ n) : ∃ f, miss n (k : Int) = f + 1 := by
  cases h : miss n (k : Int) with
  | zero => have := miss_zero (by omega) h; omega
  | succ f => exact ⟨f, rfl⟩

set_option maxRecDepth 100000 in
set_option maxHeartbeats 3200000 in
theorem specCountLiftOrders_any (A : Option Addr) (n c : Nat) (ps : List Lift) (vs : List LV) (hv : ps.map Lift.val = vs) (w : World) (lo : Nat) (h : Lifts w lo w.heap.size A n ps) (hn : n ≤ 1048576) (hc : n ≤ c) (hc2 : c ≤ 1048576) (hp : ∀ p ∈ ps, p.wf) :
    Calls Try.prog 64 #[.slice A n c] w fun e w' => e = .returned (.tuple #[.int .i64 (clVal vs), .int .i64 (clCode vs)]) ∧ Below w.heap.size w w' := by
  have HL : Hid (vs.length = n) := by show _ = _; rw [lv_len hv, h.len]
  cases h1 : liftsOk vs
  · have H : Hid (clVal vs = 0 ∧ clCode vs = 1) := by show _ ∧ _; unfold clVal clCode; rw [h1]; exact ⟨rfl, rfl⟩
    go_enter Try.func64, Try.ntmps64
    go_wp2_with fail
    refine (l08Ok_any _ _ _ ps vs hv _ _ h hn hc hc2 hp).mono ?_
    rintro e w1 ⟨rfl, hb⟩
    rw [h1]
    go_wp2
    go_ret2
    exact ⟨by rw [H.out.1, H.out.2]; rfl, hb⟩
  · have H : Hid (clVal vs = gOf vs n 0 ∧ clCode vs = 0) := by show _ ∧ _; unfold clVal clCode; rw [h1, HL.out]; exact ⟨rfl, rfl⟩
    have hn10 : n ≤ 10 := by have := liftsOk_len h1; rw [HL.out] at this; exact this
    have HF := Lib.hid (fits_of h1)
    have HV := Lib.hid hv
    have HP : Hid (∀ p ∈ ps, p.r.n ≤ 9223372036854775807) := fun p hpp => (hp p hpp).n
    have H1 := Lib.hid h1
    clear h1
    obtain ⟨M, hMn⟩ : ∃ M : Nat, (2 : Nat) ^ n = M := ⟨_, rfl⟩
    have hM : (2 : Int) ^ n = (M : Int) := by rw [← hMn]; push_cast; rfl
    have hM0 : 1 ≤ M := by rw [← hMn]; exact Nat.one_le_two_pow
    have hM1 : M ≤ 1024 := by rw [← hMn]; exact Nat.pow_le_pow_right (n := 2) (by omega) hn10
    have HMN := Lib.hid hMn
    clear hMn
    obtain ⟨i0, hi, hz0, hz1, hz2⟩ := info_parts infoInt
    have hmk := fun W => run_make_rowN (P := Try.prog) 27 2 i0 _ Try.underlying27 hi hz0 .i64 .i64 M M (Nat.le_refl _) (by rw [hz2]; omega) (by omega) W
    rw [hz1] at hmk
    simp only [Nat.mul_one] at hmk
    clear hi hz0 hz1 hz2
    go_enter Try.func64, Try.ntmps64
    go_wp2_with fail
    refine (l08Ok_any _ _ _ ps vs HV.out _ _ h hn hc hc2 hp).mono ?_
    rintro e w1 ⟨rfl, hb⟩
    rw [H1.out]
    have hs1 := hb.size
    have HO0 := Lib.hid (own_one w1 M hM0)
    have HB0 := Lib.hid (hb.alloc hs1 (.cells ((madeCells #[.int .i64 0] M).setIfInBounds 0 (.int .i64 1)) 2))
    have hM2 : (0 : Int) < (M : Int) := by omega
    have hat := made_at (M := M) (i := 0) hM0
    have hlive := Lib.hid h
    clear h
    go_wp2
    clear hmk hat hM hv hp
    obtain ⟨G, hG⟩ : ∃ G, w1.heap.size = G := ⟨_, rfl⟩
    have hGw : w.heap.size ≤ G := by omega
    rw [hG] at HO0 ⊢
    clear hG hs1
    go_loopw [6] (fun s wr => ∃ (k : Nat) (ws : List Int), k ≤ M ∧ s = .int .i64 k ∧ Own ic 1 wr G (G + 1) 2 (some ⟨G, 0, none⟩) M ws ∧ (k < M → Inv vs n M k ws) ∧ (k = M → ws[M - 1]? = some (gOf vs n 0)) ∧ Below w.heap.size w wr) (fun s _ => M - (intOf s).toNat)
    case atStart => exact ⟨0, _, Nat.zero_le _, rfl, HO0.out, fun _ => inv_start HMN.out.symm, fun h0 => by omega, HB0.out⟩
    case round =>
      obtain ⟨k, ws, hk, rfl, hown, hinv, hend, hbw⟩ := hrel
      have HOW := Lib.hid hown
      have HBW := Lib.hid hbw
      have hsw := hbw.size
      clear HO0 HB0 hb
      have hGr : G < wr.heap.size := by obtain ⟨g', cs, e1, _, _, hh, _⟩ := hown.2 hM0; cases e1; exact heap_lt hh
      by_cases hlt : k < M
      · have HI := Lib.hid (hinv hlt)
        clear hinv hend hown hbw
        have hk1 : (k : Int) < (M : Int) := by omega
        go_wp2_with fail
        refine (l08Ready_any A n c ps vs HV.out (k : Int) _ lo ((hlive.out.below HBW.out).more hsw) (by omega) HF.out (by omega) (by omega) HP.out).mono ?_
        rintro _ w3 ⟨A3, cp, rfl, ho, hb3⟩
        have hrl := rdTo_len vs (k : Int) n
        obtain ⟨rs, hrs⟩ : ∃ rs, rdTo vs (k : Int) n = rs := ⟨_, rfl⟩
        rw [hrs] at ho hrl ⊢
        have HRS := Lib.hid hrs
        have HR := Lib.hid ho
        have HB3 := Lib.hid hb3
        obtain ⟨K, hK⟩ : ∃ K, rs.length = K := ⟨_, rfl⟩
        rw [hK] at HR hrl ⊢
        have HK := Lib.hid hK
        clear hrs ho hb3 hK
        have HO3 := Lib.hid (HOW.out.bel HB3.out)
        have hs3 := HB3.out.size
        have HBW3 := Lib.hid (HBW.out.trans (HB3.out.mono hsw))
        obtain ⟨x, hx, _, _⟩ := HOW.out.cellAt hlt
        have HX := Lib.hid hx
        clear hx
        by_cases hlast : k + 1 < M
        · obtain ⟨f, hf⟩ := miss_some (n := n) (k := k) (by rw [HMN.out]; exact hlast)
          have HF1 := Lib.hid hf
          have HMID := Lib.hid (HI.out.mid hn10 HX.out hf)
          clear hf
          go_wp2
          go_loopw [8] (fun i wy => ∃ (q : Nat) (ws' : List Int), q ≤ K ∧ i = .int .i64 q ∧ Own ic 1 wy G (G + 1) 2 (some ⟨G, 0, none⟩) M ws' ∧ Mid vs n M k x (rs.drop q) f ws' ∧ Within G (G + 1) w3 wy) (fun i _ => K - (intOf i).toNat)
          case atStart => exact ⟨0, ws, Nat.zero_le _, rfl, HO3.out, by rw [List.drop_zero]; have := HMID.out; rw [HRS.out] at this; exact this, Within.refl _ _ _⟩
          case round =>
            obtain ⟨q, ws', hq, rfl, hown', hmid, hwy⟩ := hrel
            have HOY := Lib.hid hown'
            have HMD := Lib.hid hmid
            have HWY := Lib.hid hwy
            have hsy := hwy.size
            clear hown' hmid hwy HMID
            obtain ⟨x', hx', cx, _⟩ := HOY.out.cellAt hlt
            obtain rfl : x' = x := by have := HMD.out.here; rw [hx'] at this; exact Option.some.inj this
            have hx0 : 0 ≤ x' := HMD.out.nn x' (List.mem_of_getElem? hx')
            have hdone : (q = K ∨ x' = 0) → Inv vs n M (k + 1) ws' := fun hh => HMD.out.inv (hh.imp (fun e => by rw [e, ← HK.out]; exact List.drop_length) id)
            have HD := Lib.hid hdone
            have HBY := Lib.hid (Below.within HBW3.out HWY.out hGw (by omega))
            clear hx' hdone
            by_cases hqK : q < K
            · by_cases hxp : 0 < x'
              · obtain ⟨b4, off4, r, ea, hr4, _, _, e0⟩ := Ints.at ((HR.out.arr ic_len).within HWY.out (Nat.le_refl _) (.inr (by omega))) hqK
                have hrm := rdTo_mem (by rw [HRS.out]; exact List.mem_of_getElem? hr4)
                obtain ⟨j, rfl, hj, hcan⟩ := hrm
                have hno := canB_not hcan
                have hdr : rs.drop q = (j : Int) :: rs.drop (q + 1) := by
                  obtain ⟨hq9, e9⟩ := List.getElem?_eq_some_iff.1 hr4
                  rw [List.drop_eq_getElem_cons hq9, e9]
                have hwl := withI_lt (m := (k : Int)) (k := (j : Int)) (n := n) (by omega) (by have := HMN.out; have e2 : ((2 ^ n : Nat) : Int) = (2 : Int) ^ n := by push_cast; rfl
                                                                                               omega) (by omega) (by omega)
                obtain ⟨u, hu⟩ := Int.eq_ofNat_of_zero_le (withI_nonneg (k : Int) (j : Int))
                have hmu := miss_with hj hno
                have hku := lt_with hno
                rw [hu] at hwl hmu hku
                have hul : u < M := by
                  have e2 : ((2 ^ n : Nat) : Int) = (2 : Int) ^ n := by push_cast; rfl
                  have := HMN.out; omega
                obtain ⟨y, hy, cy, fy⟩ := HOY.out.cellAt hul
                have HMD' := HMD.out
                rw [hdr] at HMD'
                obtain ⟨_, hy0, hyx, hnext⟩ := HMD'.next hu (by omega) hy (by have := HF1.out; omega)
                have htp := tenP_le (f := n) hn10
                have HN := Lib.hid hnext
                have HOP := Lib.hid (HOY.out.putAt hy (y + x'))
                have HA4 := Lib.hid ea
                have hpj := pow_bd (n := j) (by omega)
                have hor : bits .or .i64 (k : Int) (2 ^ j) = (u : Int) := by have h9 := or_shl (k : Int) j (by omega) (by omega) (by omega) (by omega); rw [Int.toNat_natCast, hu] at h9; exact h9
                have hu0 : (0 : Int) ≤ (u : Int) := by omega
                have hu1 : (u : Int) < (M : Int) := by omega
                have hq0 : (0 : Int) ≤ (q : Int) := by omega
                have hq1 : (q : Int) < (K : Int) := by omega
                have hk0 : (0 : Int) ≤ (k : Int) := by omega
                have hj0 : (0 : Int) ≤ (j : Int) := by omega
                have hj1 : (j : Int) ≤ 62 := by omega
                have hyx2 : 0 ≤ y + x' ∧ y + x' ≤ 10000000000 := by omega
                have hwr : IntKind.i64.wrap (y + x') = y + x' := IntWalk.i64_in _ ⟨by omega, by omega⟩
                clear hr4 hcan hno hdr hwl hmu hku hy HMD' hnext hu
                go_wp2
                go_region
                go_wp2
                go_roundw
                case rel => exact ⟨q + 1, _, by omega, by go_num, HOP.out, HN.out, (HWY.out.setCell (p := ⟨G, u, none⟩) (Nat.le_refl _) (Nat.lt_succ_self _) _).drew⟩
                case measure => simp [intOf]; omega
              · have hx00 : x' = 0 := by omega
                have HE := Lib.hid (HD.out (.inr hx00))
                clear hx00
                go_wp2
                go_roundw
                case rel => exact ⟨k + 1, ws', by omega, by go_num, HOY.out, fun _ => HE.out, fun h0 => by omega, HBY.out⟩
                case measure => simp [intOf]; omega
            · obtain rfl : q = K := by omega
              have HE := Lib.hid (HD.out (.inl rfl))
              clear cx
              go_wp2
              go_roundw
              case rel => exact ⟨k + 1, ws', by omega, by go_num, HOY.out, fun _ => HE.out, fun h0 => by omega, HBY.out⟩
              case measure => simp [intOf]; omega
        · have hkM : k + 1 = M := by omega
          have hK0 : K = 0 := by
            rw [← HK.out, ← HRS.out, show k = 2 ^ n - 1 by have := HMN.out; omega]
            rw [rd_full]; rfl
          subst hK0
          have HE := Lib.hid (inv_end HI.out HMN.out.symm hkM HX.out)
          go_wp2
          go_loopw [8] (fun i wy => i = .int .i64 (0 : Nat) ∧ w3 = wy) (fun i _ => 0)
          case atStart => exact ⟨rfl, rfl⟩
          case round =>
            obtain ⟨rfl, rfl⟩ := hrel
            go_wp2
            go_roundw
            case rel => exact ⟨k + 1, ws, by omega, by go_num, HO3.out, fun h0 => by omega, fun _ => by rw [← HE.out, ← HX.out]; congr 1; omega, HBW3.out⟩
            case measure => simp [intOf]; omega
      · obtain rfl : k = M := by omega
        have HE := Lib.hid (hend rfl)
        obtain ⟨y, hy, cy, _⟩ := hown.cellAt (u := k - 1) (by omega)
        obtain rfl : y = gOf vs n 0 := by have := HE.out; rw [hy] at this; exact Option.some.inj this
        have ek : (k : Int) - 1 = ((k - 1 : Nat) : Int) := by omega
        have ek0 : (0 : Int) ≤ ((k - 1 : Nat) : Int) := by omega
        have ek1 : ((k - 1 : Nat) : Int) < (k : Int) := by omega
        clear hinv hend hown hbw hy
        go_wp2
        go_ret2
        exact ⟨by rw [H.out.1, H.out.2]; rfl, HBW.out⟩
end Go.Proofs.Ytdoinbnnpompiaa
