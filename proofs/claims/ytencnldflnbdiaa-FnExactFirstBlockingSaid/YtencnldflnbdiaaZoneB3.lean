/- FirstBlocking of the reference. -/
import Derived.Test.YtencnldflnbdiaaZoneB2
namespace Go.Proofs.Ytencnldflnbdiaa
open Go.RowKit Go.Sort
set_option linter.unusedVariables false

theorem Zone.zat {w : World} {lo hi : Nat} {A : Option Addr} {n : Nat} {xs : List Zone} (h : Zones w lo hi A n xs) {i : Nat} (hi' : i < n) :
    ∃ b off z, A = some ⟨b, off, none⟩ ∧ xs[i]? = some z ∧ b < hi ∧ ZoneAt w b (off + i * 4) z ∧ Arr Pnt.cs 2 w lo hi z.r.a z.r.n z.r.xs := by
  obtain ⟨b, off, z, h1, h2, _, h4, h5, c0, c1, c2, c3⟩ := Zone.at h hi'
  exact ⟨b, off, z, h1, h2, h4, ⟨c0, c1, c2, c3⟩, h5⟩
set_option maxHeartbeats 1600000 in
theorem l05Load_any (b off : Nat) (z : Zone) (ht : Int) (w : World) (hz : ZoneAt w b off z) (hok : zHd z.v = true) :
    Calls Try.prog 59 #[.pointer (some ⟨b, off, none⟩), .int .i64 ht] w fun e w' => e = .returned (.bool (loadB z.v ht)) ∧ Below w.heap.size w w' := by
  have hs := zhd_small hok
  have HO : Hid (loadB z.v ht = (decide (z.v.kind = 2) || (decide (z.v.kind = 1) && decide (ht < z.v.storeys * z.v.each + 20)))) := rfl
  obtain ⟨⟨kind, storeys, each⟩, ⟨A, n, c, cs⟩⟩ := z
  obtain ⟨c0, c1, c2, c3⟩ := hz
  dsimp only at *
  obtain ⟨h1, h2, h3⟩ := hs
  clear hok
  have c1' := cell_regrown c1
  have c2' := cell_regrown c2
  by_cases e1 : kind = 1
  · have HE : Hid (loadB ⟨kind, storeys, each⟩ ht = decide (ht < storeys * each + 20)) := by show _ = _; rw [HO.out, decide_eq_false (by omega), decide_eq_true e1]; rfl
    have E1 : Hid ((kind == 1) = true) := by show _ = _; simp [e1]
    clear e1
    have e1' := E1.out
    go_enter Try.func59, Try.ntmps59
    go_wp2
    refine wp_region_quiet_below (by kernel_rfl) (by kernel_rfl) ?_
    repeat (go_big_quiet_step (first | fail))
    refine wpQuiet_nil ?_
    intro _ hw9
    obtain ⟨⟨dq, osq⟩, hw9⟩ := hw9
    subst hw9
    have hb5 := below_regrown w dq osq
    dsimp only at hb5 ⊢
    generalize grow (redrawn w dq) osq = w5 at hb5 ⊢
    go_wp2
    go_ret
    exact ⟨by rw [HE.out]; rfl, hb5⟩
  · have E1 : Hid ((kind == 1) = false) := beq_eq_false_iff_ne.2 e1
    by_cases e2 : kind = 2
    · have HE : Hid (loadB ⟨kind, storeys, each⟩ ht = true) := by show _ = _; rw [HO.out, decide_eq_true e2]; rfl
      have E2 : Hid ((kind == 2) = true) := by show _ = _; simp [e2]
      clear e1 e2
      have e1' := E1.out
      have e2' := E2.out
      go_enter Try.func59, Try.ntmps59
      go_wp2
      go_ret
      exact ⟨by rw [HE.out]; rfl, Below.refl _ _⟩
    · have HE : Hid (loadB ⟨kind, storeys, each⟩ ht = false) := by show _ = _; rw [HO.out, decide_eq_false e2, decide_eq_false e1]; rfl
      have E2 : Hid ((kind == 2) = false) := beq_eq_false_iff_ne.2 e2
      clear e1 e2
      have e1' := E1.out
      have e2' := E2.out
      go_enter Try.func59, Try.ntmps59
      go_wp2
      go_ret
      exact ⟨by rw [HE.out]; rfl, Below.refl _ _⟩
theorem ok_eq (b off : Nat) (z : Zone) (w : World) (lo : Nat) (hz : ZoneAt w b off z) (hb0 : b < w.heap.size) (h : Arr Pnt.cs 2 w lo w.heap.size z.r.a z.r.n z.r.xs) (hn : z.r.n ≤ 1048576) {v : Bool} (hv : zoneOk z.val = v) :
    Calls Try.prog 49 #[.pointer (some ⟨b, off, none⟩)] w fun e w' => e = .returned (.bool v) ∧ Below w.heap.size w w' := by subst hv; exact l05Ok_any b off z w lo hz hb0 h hn
theorem zall_step {ps : List Zone} {k : Nat} {z : Zone} (h : noTo (fun z : Zone => !zoneOk z.val) ps k = true) (hx : ps[k]? = some z) (hq : zoneOk z.val = true) : noTo (fun z : Zone => !zoneOk z.val) ps (k + 1) = true := noTo_step h hx (by rw [hq]; rfl)
theorem zall_bad {ps : List Zone} {k : Nat} {z : Zone} (hx : ps[k]? = some z) (hq : zoneOk z.val = false) : zsOk (ps.map Zone.val) = false := by
  unfold zsOk
  have : (ps.map Zone.val).all zoneOk = false := by
    rw [List.all_eq_false]
    exact ⟨z.val, List.mem_map_of_mem (List.mem_of_getElem? hx), by rw [hq]; decide⟩
  rw [this, Bool.and_false]
theorem zall_end {ps : List Zone} (h : noTo (fun z : Zone => !zoneOk z.val) ps ps.length = true) : (ps.map Zone.val).all zoneOk = true := by
  rw [List.all_eq_true]
  intro v hv
  obtain ⟨z, hz, rfl⟩ := List.mem_map.1 hv
  obtain ⟨i, hi, rfl⟩ := List.getElem_of_mem hz
  have := noTo_iff.1 h i hi _ (List.getElem?_eq_getElem hi)
  simpa using this
set_option maxRecDepth 100000 in
set_option maxHeartbeats 1600000 in
theorem l05List_any (A : Option Addr) (n c : Nat) (ps : List Zone) (w : World) (lo : Nat) (h : Zones w lo w.heap.size A n ps) (hn : n ≤ 1048576) (hp : ∀ z ∈ ps, z.r.n ≤ 1048576) :
    Calls Try.prog 57 #[.slice A n c] w fun e w' => e = .returned (.bool (zsOk (ps.map Zone.val))) ∧ Below w.heap.size w w' := by
  have HL : Hid (ps.length = n) := h.len
  have HA := Lib.hid h
  clear h
  go_enter Try.func57, Try.ntmps57
  go_wp2
  go_loopw [3] (fun v3 wr => ∃ k : Nat, k ≤ n ∧ v3 = .int .i64 k ∧ noTo (fun z : Zone => !zoneOk z.val) ps k = true ∧ Below w.heap.size w wr) (fun v3 _ => n - (intOf v3).toNat)
  case atStart => exact ⟨0, Nat.zero_le _, rfl, rfl, Below.refl _ _⟩
  case round =>
    obtain ⟨k, hk, rfl, ht, hb⟩ := hrel
    have HT := Lib.hid ht
    have HA2 := Lib.hid (HA.out.next hb)
    clear ht
    by_cases hlt : k < n
    · have hk0 : (0 : Int) ≤ (k : Int) := by omega
      have hk1 : (k : Int) < (n : Int) := by omega
      obtain ⟨b, off, z, eA, hx, hbl, hz, har⟩ := Zone.zat HA2.out hlt
      have hzn := hp z (List.mem_of_getElem? hx)
      have HX := Lib.hid hx
      have HZ := Lib.hid hz
      have HAR := Lib.hid har
      subst eA
      clear hx hz har
      cases hq : zoneOk z.val
      · have HE : Hid (zsOk (ps.map Zone.val) = false) := zall_bad HX.out hq
        have HQ := Lib.hid hq
        clear hq
        go_wp2_with fail
        refine (ok_eq b (off + k * 4) z _ lo HZ.out hbl HAR.out hzn HQ.out).mono ?_
        rintro e w1 ⟨rfl, hb1⟩
        go_wp2
        go_ret
        exact ⟨by rw [HE.out]; rfl, hb.trans (hb1.mono hb.size)⟩
      · have HQ := Lib.hid hq
        clear hq
        go_wp2_with fail
        refine (ok_eq b (off + k * 4) z _ lo HZ.out hbl HAR.out hzn HQ.out).mono ?_
        rintro e w1 ⟨rfl, hb1⟩
        go_wp2
        go_roundw
        case rel => exact ⟨k + 1, by omega, by go_num, zall_step HT.out HX.out HQ.out, hb.trans (hb1.mono hb.size)⟩
        case measure => simp [intOf]; omega
    · obtain rfl : k = n := by omega
      have HE : Hid (zsOk (ps.map Zone.val) = decide ((k : Int) ≤ 10)) := by
        show _ = _; unfold zsOk; rw [zall_end (by rw [HL.out]; exact HT.out), List.length_map, HL.out, Bool.and_true]; exact decide_eq_decide.2 (by omega)
      go_wp2
      go_ret
      exact ⟨by rw [HE.out]; rfl, hb⟩
theorem lst_eq (A : Option Addr) (n c : Nat) (ps : List Zone) (w : World) (lo : Nat) (h : Zones w lo w.heap.size A n ps) (hn : n ≤ 1048576) (hp : ∀ z ∈ ps, z.r.n ≤ 1048576) {v : Bool} (hv : zsOk (ps.map Zone.val) = v) :
    Calls Try.prog 57 #[.slice A n c] w fun e w' => e = .returned (.bool v) ∧ Below w.heap.size w w' := by subst hv; exact l05List_any A n c ps w lo h hn hp
theorem height_eq (ht : Int) (w : World) {v : Bool} (hv : inB ht 0 2000 = v) : Calls Try.prog 58 #[.int .i64 ht] w fun e w' => e = .returned (.bool v) ∧ w = w' := by
  have HQ := Lib.hid hv
  clear hv
  go_enter Try.func58, Try.ntmps58
  go_wp2_with fail
  refine (in5_eq _ _ _ _ HQ.out).mono ?_
  rintro _ _ ⟨rfl, rfl⟩
  go_wp2
  go_ret
  exact ⟨rfl, rfl⟩
theorem fb_step {ps : List Zone} {k : Nat} {z : Zone} {p q : Pnt} {ht : Int} (h : noTo (blkQ p q ht) (ps.map Zone.val) k = true) (hx : ps[k]? = some z) (hq : blkQ p q ht z.val = false) : noTo (blkQ p q ht) (ps.map Zone.val) (k + 1) = true := noTo_step h (by rw [List.getElem?_map, hx]; rfl) hq
theorem fb_hit {ps : List Zone} {k : Nat} {z : Zone} {p q : Pnt} {ht : Int} (h : noTo (blkQ p q ht) (ps.map Zone.val) k = true) (hx : ps[k]? = some z) (hq : blkQ p q ht z.val = true) : fIdx (blkQ p q ht) (ps.map Zone.val) = k := fIdx_hit h (by rw [List.getElem?_map, hx]; rfl) hq
set_option maxRecDepth 100000 in
set_option maxHeartbeats 6400000 in
theorem specFirstBlocking_any (A : Option Addr) (n c : Nat) (ps : List Zone) (p q : Pnt) (ht : Int) (w : World) (lo : Nat) (h : Zones w lo w.heap.size A n ps) (hn : n ≤ 1048576) (hps : ∀ z ∈ ps, z.r.n ≤ 1048576) :
    Calls Try.prog 23 #[.slice A n c, .agg #[.int .i64 p.x, .int .i64 p.y], .agg #[.int .i64 q.x, .int .i64 q.y], .int .i64 ht] w (FBR (ps.map Zone.val) p q ht w) := by
  obtain ⟨W, hW⟩ : ∃ W : World, W = (w.alloc (.cells #[.int .i64 p.x, .int .i64 p.y] 50)).alloc (.cells #[.int .i64 q.x, .int .i64 q.y] 50) := ⟨_, rfl⟩
  have B0 : Below w.heap.size w W := by rw [hW]; exact ((Below.refl _ _).alloc (Nat.le_refl _) _).alloc (by simp) _
  have P0 : Blk W w.heap.size 50 #[.int .i64 p.x, .int .i64 p.y] := by rw [hW]; exact (Blk.new _ _ _).alloc _
  have P1 : Blk W (w.heap.size + 1) 50 #[.int .i64 q.x, .int .i64 q.y] := by rw [hW]; exact Blk.new_at rfl (by simp)
  have HP0 := Lib.hid P0
  have HP1 := Lib.hid P1
  have HB0 := Lib.hid B0
  have HA := Lib.hid (h.next B0)
  have HL : Hid (ps.length = n) := h.len
  have HFB : Hid (fbOk (ps.map Zone.val) p q = (zsOk (ps.map Zone.val) && (plcB p.x p.y && plcB q.x q.y))) := rfl
  clear h B0 P0 P1
  go_enter Try.func23, Try.ntmps23
  go_wp2_with fail
  rw [← hW]
  clear hW
  cases hz : zsOk (ps.map Zone.val)
  · have HE := Lib.hid (fb_bad (zs := ps.map Zone.val) (p := p) (q := q) (ht := ht) (by rw [HFB.out, hz]; rfl))
    refine (lst_eq A n c ps W lo HA.out hn hps hz).mono ?_
    rintro e w1 ⟨rfl, hb1⟩
    go_wp2
    go_ret2
    exact ⟨by rw [HE.out.1, HE.out.2]; rfl, HB0.out.trans (hb1.mono HB0.out.size)⟩
  · have HZV := Lib.hid hz
    refine (lst_eq A n c ps W lo HA.out hn hps hz).mono ?_
    rintro e w1 ⟨rfl, hb1⟩
    have HP0' := Lib.hid (HP0.out.bel hb1)
    have HP1' := Lib.hid (HP1.out.bel hb1)
    obtain ⟨a0, a1⟩ := Pnt.blk HP0'.out
    have HB1 := Lib.hid (HB0.out.trans (hb1.mono HB0.out.size))
    have HA1 := Lib.hid (HA.out.next hb1)
    clear hz hb1
    cases hp : plcB p.x p.y
    · have HE := Lib.hid (fb_bad (zs := ps.map Zone.val) (p := p) (q := q) (ht := ht) (by rw [HFB.out, hp]; simp))
      have HV := Lib.hid hp
      clear hp
      go_wp2_with fail
      refine (ok5_eq (l02Ok_any p.x p.y) _ HV.out).mono ?_
      rintro e w2 ⟨rfl, hb2⟩
      go_wp2
      go_ret2
      exact ⟨by rw [HE.out.1, HE.out.2]; rfl, HB1.out.trans (hb2.mono HB1.out.size)⟩
    · have HV := Lib.hid hp
      clear hp
      go_wp2_with fail
      refine (ok5_eq (l02Ok_any p.x p.y) _ HV.out).mono ?_
      rintro e w2 ⟨rfl, hb2⟩
      have HB2 := Lib.hid (HB1.out.trans (hb2.mono HB1.out.size))
      have HA2 := Lib.hid (HA1.out.next hb2)
      have HP0'' := Lib.hid (HP0'.out.bel hb2)
      have HP1'' := Lib.hid (HP1'.out.bel hb2)
      obtain ⟨b0, b1⟩ := Pnt.blk HP1''.out
      clear hb2 a0 a1
      cases hq : plcB q.x q.y
      · have HE := Lib.hid (fb_bad (zs := ps.map Zone.val) (p := p) (q := q) (ht := ht) (by rw [HFB.out, hq]; simp))
        have HVQ := Lib.hid hq
        clear hq
        go_wp2_with fail
        refine (ok5_eq (l02Ok_any q.x q.y) _ HVQ.out).mono ?_
        rintro e w3 ⟨rfl, hb3⟩
        go_wp2
        go_ret2
        exact ⟨by rw [HE.out.1, HE.out.2]; rfl, HB2.out.trans (hb3.mono HB2.out.size)⟩
      · have HOK : Hid (fbOk (ps.map Zone.val) p q = true) := by show _ = _; rw [HFB.out, HZV.out, HV.out, hq]; rfl
        have HVQ := Lib.hid hq
        clear hq
        go_wp2_with fail
        refine (ok5_eq (l02Ok_any q.x q.y) _ HVQ.out).mono ?_
        rintro e w3 ⟨rfl, hb3⟩
        have HB3 := Lib.hid (HB2.out.trans (hb3.mono HB2.out.size))
        have HA3 := Lib.hid (HA2.out.next hb3)
        have HP03 := Lib.hid (HP0''.out.bel hb3)
        have HP13 := Lib.hid (HP1''.out.bel hb3)
        clear hb3 b0 b1
        cases hr : inB ht 0 2000
        · have HE := Lib.hid (fb_range (zs := ps.map Zone.val) (p := p) (q := q) HOK.out hr)
          have HR := Lib.hid hr
          clear hr
          go_wp2_with fail
          refine (height_eq _ _ HR.out).mono ?_
          rintro _ _ ⟨rfl, rfl⟩
          go_wp2
          go_ret2
          exact ⟨by rw [HE.out.1, HE.out.2]; rfl, HB3.out⟩
        · have HE := Lib.hid (fb_yes (zs := ps.map Zone.val) (p := p) (q := q) HOK.out hr)
          have HR := Lib.hid hr
          clear hr
          go_wp2_with fail
          refine (height_eq _ _ HR.out).mono ?_
          rintro _ _ ⟨rfl, rfl⟩
          clear HP0 HP1 HP0' HP1' HP0'' HP1'' HA HA1 HA2 HB0 HB1 HB2
          have hs3 := HP13.out.lt
          go_wp2
          go_loopw [10] (fun v10 wr => ∃ k : Nat, k ≤ n ∧ v10 = .int .i64 k ∧ noTo (blkQ p q ht) (ps.map Zone.val) k = true ∧ Below w3.heap.size w3 wr) (fun v10 _ => n - (intOf v10).toNat)
          case atStart => exact ⟨0, Nat.zero_le _, rfl, rfl, Below.refl _ _⟩
          case round =>
            obtain ⟨k, hk, rfl, ht', hb⟩ := hrel
            have HT := Lib.hid ht'
            have HA4 := Lib.hid (HA3.out.next hb)
            have HBB := Lib.hid (HB3.out.trans (hb.mono HB3.out.size))
            obtain ⟨a0, a1⟩ := Pnt.blk (HP03.out.bel hb)
            obtain ⟨b0, b1⟩ := Pnt.blk (HP13.out.bel hb)
            clear ht'
            by_cases hlt : k < n
            · have hk0 : (0 : Int) ≤ (k : Int) := by omega
              have hk1 : (k : Int) < (n : Int) := by omega
              obtain ⟨b, off, z, eA, hx, hbl, hz, har⟩ := Zone.zat HA4.out hlt
              have hzn := hps z (List.mem_of_getElem? hx)
              have hzo : zoneOk z.val = true := all_at (zsOk_all HZV.out) (List.mem_of_getElem? hx)
              have HQ : Hid (blkQ p q ht z.val = (loadB z.v ht && meetB z.r.xs p q)) := rfl
              have HLD : Hid (∀ v, loadB z.v ht = v → ∀ d os, Calls Try.prog 59 #[.pointer (some ⟨b, off + k * 4, none⟩), .int .i64 ht] (grow (redrawn wr d) os) fun e w' => e = .returned (.bool v) ∧ Below (grow (redrawn wr d) os).heap.size (grow (redrawn wr d) os) w') := fun v hv d os => by
                subst hv
                exact l05Load_any b (off + k * 4) z ht _ (hz.below (below_regrown wr d os) hbl) (zoneOk_hd hzo)
              have HMT : Hid (∀ v, meetB z.r.xs p q = v → ∀ d os, Calls Try.prog 51 #[.pointer (some ⟨b, off + k * 4, none⟩), .agg #[.int .i64 p.x, .int .i64 p.y], .agg #[.int .i64 q.x, .int .i64 q.y]] (grow (redrawn wr d) os) fun e w' => e = .returned (.bool v) ∧ Below (grow (redrawn wr d) os).heap.size (grow (redrawn wr d) os) w') := fun v hv d os => by
                subst hv
                have hr9 := below_regrown wr d os
                exact l05Meets_any b (off + k * 4) z p q _ lo (hz.below hr9 hbl) (by have := hr9.size; omega) ((har.below hr9).more hr9.size) hzn (by have := zoneOk_corners hzo; rw [← har.1]; exact this) HV.out HVQ.out
              have HX := Lib.hid hx
              have a0' := cell_regrown a0
              have a1' := cell_regrown a1
              have b0' := cell_regrown b0
              have b1' := cell_regrown b1
              subst eA
              clear hx hz har a0 a1 b0 b1 hzo
              cases hl : loadB z.v ht
              · have HN : Hid (blkQ p q ht z.val = false) := by show _ = _; rw [HQ.out, hl]; rfl
                have HL2 := Lib.hid (HLD.out _ hl)
                clear hl HLD
                go_wp2
                refine wp_region_quiet_below (by kernel_rfl) (by kernel_rfl) ?_
                repeat (go_big_quiet_step (first | (go_at_call 59; exact Calls.regrown_of (HL2.out _ _))))
                refine wpQuiet_nil ?_
                intro _ hw9
                obtain ⟨⟨dq, osq⟩, hw9⟩ := hw9
                subst hw9
                have hb5 := below_regrown wr dq osq
                dsimp only at hb5 ⊢
                generalize grow (redrawn wr dq) osq = w5 at hb5 ⊢
                go_wp2
                go_roundw
                case rel => exact ⟨k + 1, by omega, by go_num, fb_step HT.out HX.out HN.out, hb.trans (hb5.mono hb.size)⟩
                case measure => simp [intOf]; omega
              · cases hm : meetB z.r.xs p q
                · have HN : Hid (blkQ p q ht z.val = false) := by show _ = _; rw [HQ.out, hl, hm]; rfl
                  have HL2 := Lib.hid (HLD.out _ hl)
                  have HM2 := Lib.hid (HMT.out _ hm)
                  clear hl hm HLD HMT
                  go_wp2
                  refine wp_region_quiet_below (by kernel_rfl) (by kernel_rfl) ?_
                  repeat (go_big_quiet_step (first | (go_at_call 59; exact Calls.regrown_of (HL2.out _ _)) | (go_at_call 51; exact Calls.regrown_of (HM2.out _ _))))
                  refine wpQuiet_nil ?_
                  intro _ hw9
                  obtain ⟨⟨dq, osq⟩, hw9⟩ := hw9
                  subst hw9
                  have hb5 := below_regrown wr dq osq
                  dsimp only at hb5 ⊢
                  generalize grow (redrawn wr dq) osq = w5 at hb5 ⊢
                  go_wp2
                  go_roundw
                  case rel => exact ⟨k + 1, by omega, by go_num, fb_step HT.out HX.out HN.out, hb.trans (hb5.mono hb.size)⟩
                  case measure => simp [intOf]; omega
                · have HN : Hid (blkQ p q ht z.val = true) := by show _ = _; rw [HQ.out, hl, hm]; rfl
                  have HI : Hid (fIdx (blkQ p q ht) (ps.map Zone.val) = (k : Int)) := fb_hit HT.out HX.out HN.out
                  have HL2 := Lib.hid (HLD.out _ hl)
                  have HM2 := Lib.hid (HMT.out _ hm)
                  clear hl hm HLD HMT
                  go_wp2
                  refine wp_region_quiet_below (by kernel_rfl) (by kernel_rfl) ?_
                  repeat (go_big_quiet_step (first | (go_at_call 59; exact Calls.regrown_of (HL2.out _ _)) | (go_at_call 51; exact Calls.regrown_of (HM2.out _ _))))
                  refine wpQuiet_nil ?_
                  intro _ hw9
                  obtain ⟨⟨dq, osq⟩, hw9⟩ := hw9
                  subst hw9
                  have hb5 := below_regrown wr dq osq
                  dsimp only at hb5 ⊢
                  generalize grow (redrawn wr dq) osq = w5 at hb5 ⊢
                  go_wp2
                  go_ret2
                  exact ⟨by rw [HE.out.1, HE.out.2, HI.out]; rfl, HBB.out.trans (hb5.mono HBB.out.size)⟩
            · obtain rfl : k = n := by omega
              have HI : Hid (fIdx (blkQ p q ht) (ps.map Zone.val) = -1) := fIdx_none (by rw [List.length_map, HL.out]; exact HT.out)
              go_wp2
              go_ret2
              exact ⟨by rw [HE.out.1, HE.out.2, HI.out]; rfl, HBB.out⟩
theorem firstBlocking_v (A : Option Addr) (n c : Nat) (ps : List Zone) (vs : List ZV) (hv : ps.map Zone.val = vs) (p q : Pnt) (ht : Int) (w : World) (lo : Nat) (h : Zones w lo w.heap.size A n ps) (hn : n ≤ 1048576) (hps : ∀ z ∈ ps, z.r.n ≤ 1048576) :
    Calls Try.prog 25 #[.slice A n c, .agg #[.int .i64 p.x, .int .i64 p.y], .agg #[.int .i64 q.x, .int .i64 q.y], .int .i64 ht] w (FBR vs p q ht w) := by subst hv; exact firstBlockingX_any A n c ps p q ht w lo h hn hps
theorem specFirstBlocking_v (A : Option Addr) (n c : Nat) (ps : List Zone) (vs : List ZV) (hv : ps.map Zone.val = vs) (p q : Pnt) (ht : Int) (w : World) (lo : Nat) (h : Zones w lo w.heap.size A n ps) (hn : n ≤ 1048576) (hps : ∀ z ∈ ps, z.r.n ≤ 1048576) :
    Calls Try.prog 23 #[.slice A n c, .agg #[.int .i64 p.x, .int .i64 p.y], .agg #[.int .i64 q.x, .int .i64 q.y], .int .i64 ht] w (FBR vs p q ht w) := by subst hv; exact specFirstBlocking_any A n c ps p q ht w lo h hn hps
end Go.Proofs.Ytencnldflnbdiaa
