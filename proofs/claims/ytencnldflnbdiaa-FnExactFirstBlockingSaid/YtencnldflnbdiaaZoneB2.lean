/- FirstBlocking of the program. -/
import Derived.Test.YtencnldflnbdiaaZoneB1
namespace Go.Proofs.Ytencnldflnbdiaa
open Go.RowKit Go.Sort
set_option linter.unusedVariables false

theorem blocks_eq (z : Zone) (ht : Int) (w : World) (hok : zHd z.v = true) {v : Bool} (hv : loadB z.v ht = v) :
    Calls Try.prog 95 #[.agg #[.int .i64 z.v.kind, .int .i64 z.v.storeys, .int .i64 z.v.each, .slice z.r.a z.r.n z.r.cap], .int .i64 ht] w fun e w' => e = .returned (.bool v) ∧ Below w.heap.size w w' := by subst hv; exact blocksLoad_any z ht w hok
set_option maxRecDepth 100000 in
set_option maxHeartbeats 1600000 in
theorem fb1_any (z : Zone) (bh bp bq : Nat) (ht : Int) (p q : Pnt) (w : World) (lo : Nat) (h : Arr Pnt.cs 2 w lo w.heap.size z.r.a z.r.n z.r.xs) (hn : z.r.n ≤ 1048576) (hok : zoneOk z.val = true) (hp : plcB p.x p.y = true) (hq : plcB q.x q.y = true)
    (ch : w.cell? ⟨bh, 0, none⟩ = some (.int .i64 ht)) (lh : bh < w.heap.size) (cp : w.cell? ⟨bp, 0, none⟩ = some (.int .i64 p.x) ∧ w.cell? ⟨bp, 1, none⟩ = some (.int .i64 p.y)) (lp : bp < w.heap.size) (cq : w.cell? ⟨bq, 0, none⟩ = some (.int .i64 q.x) ∧ w.cell? ⟨bq, 1, none⟩ = some (.int .i64 q.y)) (lq : bq < w.heap.size) :
    Calls Try.prog 94 #[.agg #[.int .i64 z.v.kind, .int .i64 z.v.storeys, .int .i64 z.v.each, .slice z.r.a z.r.n z.r.cap], .pointer (some ⟨bh, 0, none⟩), .pointer (some ⟨bp, 0, none⟩), .pointer (some ⟨bq, 0, none⟩)] w fun e w' => e = .returned (.bool (blkQ p q ht z.val)) ∧ Below w.heap.size w w' := by
  obtain ⟨W, hW⟩ : ∃ W : World, W = w.alloc (.cells #[.int .i64 z.v.kind, .int .i64 z.v.storeys, .int .i64 z.v.each, .slice z.r.a z.r.n z.r.cap] 48) := ⟨_, rfl⟩
  have B0 : Below w.heap.size w W := by rw [hW]; exact (Below.refl _ _).alloc (Nat.le_refl _) _
  have Z0 : Blk W w.heap.size 48 #[.int .i64 z.v.kind, .int .i64 z.v.storeys, .int .i64 z.v.each, .slice z.r.a z.r.n z.r.cap] := by rw [hW]; exact Blk.new _ _ _
  have HZ0 := Lib.hid Z0
  have HB0 := Lib.hid B0
  have HA := Lib.hid ((h.below B0).more B0.size)
  have HLE := Lib.hid h.1
  have HD := Lib.hid (zoneOk_hd hok)
  have HCO := Lib.hid (zoneOk_corners hok)
  have HM : Hid (clipB z.r.xs p q = meetB z.r.xs p q) := clip_meet (by unfold zoneOk at hok; rw [Bool.and_eq_true] at hok; exact hok.2)
  have HQ : Hid (blkQ p q ht z.val = (loadB z.v ht && meetB z.r.xs p q)) := rfl
  have HCP : Hid (w.cell? ⟨bp, 0, none⟩ = some (.int .i64 p.x) ∧ w.cell? ⟨bp, 1, none⟩ = some (.int .i64 p.y)) := cp
  have HCQ : Hid (w.cell? ⟨bq, 0, none⟩ = some (.int .i64 q.x) ∧ w.cell? ⟨bq, 1, none⟩ = some (.int .i64 q.y)) := cq
  have HP := Lib.hid hp
  have HQQ := Lib.hid hq
  clear h hok hp hq B0 Z0 cp cq
  cases hl : loadB z.v ht
  · have HE : Hid (blkQ p q ht z.val = false) := by show _ = _; rw [HQ.out, hl]; rfl
    have HLV := Lib.hid hl
    clear hl
    go_enter Try.func94, Try.ntmps94
    go_wp2_with fail
    rw [← hW]
    refine (blocks_eq z ht _ HD.out HLV.out).mono ?_
    rintro e w1 ⟨rfl, hb1⟩
    go_wp2
    go_ret
    exact ⟨by rw [HE.out]; rfl, HB0.out.trans (hb1.mono HB0.out.size)⟩
  · have HE : Hid (blkQ p q ht z.val = clipB z.r.xs p q) := by show _ = _; rw [HQ.out, hl, HM.out]; rfl
    have HLV := Lib.hid hl
    clear hl
    go_enter Try.func94, Try.ntmps94
    go_wp2_with fail
    rw [← hW]
    clear hW ch
    refine (blocks_eq z ht _ HD.out HLV.out).mono ?_
    rintro e w1 ⟨rfl, hb1⟩
    have HB1 := Lib.hid (HB0.out.trans (hb1.mono HB0.out.size))
    have HZ1 := Lib.hid (HZ0.out.bel hb1)
    have HA1 := Lib.hid ((HA.out.below hb1).more hb1.size)
    have z0 : w1.cell? ⟨w.heap.size, 0, none⟩ = some (.int .i64 z.v.kind) := (HZ1.out.cell 0).trans rfl
    have z1 : w1.cell? ⟨w.heap.size, 1, none⟩ = some (.int .i64 z.v.storeys) := (HZ1.out.cell 1).trans rfl
    have z2 : w1.cell? ⟨w.heap.size, 2, none⟩ = some (.int .i64 z.v.each) := (HZ1.out.cell 2).trans rfl
    have z3 : w1.cell? ⟨w.heap.size, 3, none⟩ = some (.slice z.r.a z.r.n z.r.cap) := (HZ1.out.cell 3).trans rfl
    have p0 := (HB1.out.cell (p := ⟨bp, 0, none⟩) lp).trans HCP.out.1
    have p1 := (HB1.out.cell (p := ⟨bp, 1, none⟩) lp).trans HCP.out.2
    have q0 := (HB1.out.cell (p := ⟨bq, 0, none⟩) lq).trans HCQ.out.1
    have q1 := (HB1.out.cell (p := ⟨bq, 1, none⟩) lq).trans HCQ.out.2
    clear hb1
    go_wp2_with fail
    refine (meets_any z p q _ lo HA1.out hn (by have := HCO.out; rw [← HLE.out]; exact this) HP.out HQQ.out).mono ?_
    rintro e w2 ⟨rfl, hb2⟩
    go_wp2
    go_ret
    exact ⟨by rw [HE.out]; rfl, HB1.out.trans (hb2.mono HB1.out.size)⟩
theorem fIdx_map {α β : Type} (f : α → β) (q : β → Bool) (xs : List α) : fIdx (fun x => q (f x)) xs = fIdx q (xs.map f) := by
  unfold fIdx; rw [List.findIdx?_map]; rfl
theorem all_at {ps : List Zone} (h : (ps.map Zone.val).all zoneOk = true) {z : Zone} (hz : z ∈ ps) : zoneOk z.val = true := List.all_eq_true.1 h _ (List.mem_map_of_mem hz)
theorem zsOk_all {zs : List ZV} (h : zsOk zs = true) : zs.all zoneOk = true := by unfold zsOk at h; rw [Bool.and_eq_true] at h; exact h.2
theorem zsOk_len {zs : List ZV} (h : zsOk zs = true) : zs.length ≤ 10 := by unfold zsOk at h; rw [Bool.and_eq_true, decide_eq_true_eq] at h; exact h.1
theorem firstBlocking_any (A : Option Addr) (n c : Nat) (ps : List Zone) (p q : Pnt) (ht : Int) (w : World) (lo : Nat) (h : Zones w lo w.heap.size A n ps) (hn : n ≤ 1048576) (hps : ∀ z ∈ ps, z.r.n ≤ 1048576) (hok : zsOk (ps.map Zone.val) = true) (hp : plcB p.x p.y = true) (hq : plcB q.x q.y = true) :
    Calls Try.prog 62 #[.slice A n c, .agg #[.int .i64 p.x, .int .i64 p.y], .agg #[.int .i64 q.x, .int .i64 q.y], .int .i64 ht] w fun e w' => e = .returned (.int .i64 (fIdx (blkQ p q ht) (ps.map Zone.val))) ∧ Below w.heap.size w w' := by
  obtain ⟨W, hW⟩ : ∃ W : World, W = ((w.alloc (.cells #[.int .i64 p.x, .int .i64 p.y] 50)).alloc (.cells #[.int .i64 q.x, .int .i64 q.y] 50)).alloc (.cells #[.int .i64 ht] 2) := ⟨_, rfl⟩
  have B0 : Below w.heap.size w W := by rw [hW]; exact (((Below.refl _ _).alloc (Nat.le_refl _) _).alloc (by simp) _).alloc (by simp; omega) _
  have P0 : Blk W w.heap.size 50 #[.int .i64 p.x, .int .i64 p.y] := by rw [hW]; exact ((Blk.new _ _ _).alloc _).alloc _
  have P1 : Blk W (w.heap.size + 1) 50 #[.int .i64 q.x, .int .i64 q.y] := by rw [hW]; exact (Blk.new_at rfl (by simp)).alloc _
  have P2 : Blk W (w.heap.size + 1 + 1) 2 #[.int .i64 ht] := by rw [hW]; exact Blk.new_at rfl (by simp)
  have hs2 := P2.lt
  have h2 : Zones W lo W.heap.size A n ps := h.next B0
  have HC := Lib.hid (indexFB_any A n c ps W lo h2 (by omega) (fun z => blkQ p q ht z.val) ⟨w.heap.size + 1 + 1, 0, none⟩ ⟨w.heap.size, 0, none⟩ ⟨w.heap.size + 1, 0, none⟩ (fun z X hz hX => by
    have hc0 := Pnt.blk (P0.bel hX)
    have hc1 := Pnt.blk (P1.bel hX)
    exact fb1_any z (w.heap.size + 1 + 1) w.heap.size (w.heap.size + 1) ht p q X lo (((h2.2 _ hz).below hX).more hX.size) (hps _ hz) (all_at (zsOk_all hok) hz) hp hq (((P2.bel hX).cell 0).trans rfl) (by have := hX.size; omega) hc0 (by have := hX.size; omega) hc1 (by have := hX.size; omega)))
  have HI : Hid (fIdx (fun z : Zone => blkQ p q ht z.val) ps = fIdx (blkQ p q ht) (ps.map Zone.val)) := fIdx_map Zone.val (blkQ p q ht) ps
  have HB0 := Lib.hid B0
  clear h h2 P0 P1 P2 hok hp hq B0
  go_enter Try.func62, Try.ntmps62
  go_wp2_with fail
  rw [← hW]
  refine HC.out.mono ?_
  rintro e w1 ⟨rfl, hb1⟩
  go_wp2
  go_ret
  exact ⟨by rw [HI.out]; rfl, HB0.out.trans (hb1.mono HB0.out.size)⟩
def FBR (zs : List ZV) (p q : Pnt) (ht : Int) (w : World) (e : Ending) (w' : World) : Prop := e = .returned (.tuple #[.int .i64 (fbVal zs p q ht), .int .i64 (fbCode zs p q ht)]) ∧ Below w.heap.size w w'
theorem zs_eq (A : Option Addr) (n c : Nat) (ps : List Zone) (w : World) (lo : Nat) (h : Zones w lo w.heap.size A n ps) (hn : n ≤ 1048576) (hp : ∀ z ∈ ps, z.r.n ≤ 1048576) {v : Bool} (hv : zsOk (ps.map Zone.val) = v) :
    Calls Try.prog 60 #[.slice A n c] w fun e w' => e = .returned (.bool v) ∧ Below w.heap.size w w' := by subst hv; exact zonesOk_any A n c ps w lo h hn hp
set_option maxRecDepth 100000 in
set_option maxHeartbeats 3200000 in
theorem firstBlockingX_any (A : Option Addr) (n c : Nat) (ps : List Zone) (p q : Pnt) (ht : Int) (w : World) (lo : Nat) (h : Zones w lo w.heap.size A n ps) (hn : n ≤ 1048576) (hps : ∀ z ∈ ps, z.r.n ≤ 1048576) :
    Calls Try.prog 25 #[.slice A n c, .agg #[.int .i64 p.x, .int .i64 p.y], .agg #[.int .i64 q.x, .int .i64 q.y], .int .i64 ht] w (FBR (ps.map Zone.val) p q ht w) := by
  obtain ⟨W, hW⟩ : ∃ W : World, W = (w.alloc (.cells #[.int .i64 p.x, .int .i64 p.y] 50)).alloc (.cells #[.int .i64 q.x, .int .i64 q.y] 50) := ⟨_, rfl⟩
  have B0 : Below w.heap.size w W := by rw [hW]; exact ((Below.refl _ _).alloc (Nat.le_refl _) _).alloc (by simp) _
  have P0 : Blk W w.heap.size 50 #[.int .i64 p.x, .int .i64 p.y] := by rw [hW]; exact (Blk.new _ _ _).alloc _
  have P1 : Blk W (w.heap.size + 1) 50 #[.int .i64 q.x, .int .i64 q.y] := by rw [hW]; exact Blk.new_at rfl (by simp)
  have HP0 := Lib.hid P0
  have HP1 := Lib.hid P1
  have HB0 := Lib.hid B0
  have HA := Lib.hid (h.next B0)
  have HFB : Hid (fbOk (ps.map Zone.val) p q = (zsOk (ps.map Zone.val) && (plcB p.x p.y && plcB q.x q.y))) := rfl
  clear h B0 P0 P1
  go_enter Try.func25, Try.ntmps25
  go_wp2_with fail
  rw [← hW]
  clear hW
  cases hz : zsOk (ps.map Zone.val)
  · have HE := Lib.hid (fb_bad (zs := ps.map Zone.val) (p := p) (q := q) (ht := ht) (by rw [HFB.out, hz]; rfl))
    refine (zs_eq A n c ps W lo HA.out hn hps hz).mono ?_
    rintro e w1 ⟨rfl, hb1⟩
    go_wp2
    go_ret2
    exact ⟨by rw [HE.out.1, HE.out.2]; rfl, HB0.out.trans (hb1.mono HB0.out.size)⟩
  · have HZV := Lib.hid hz
    refine (zs_eq A n c ps W lo HA.out hn hps hz).mono ?_
    rintro e w1 ⟨rfl, hb1⟩
    have HP0' := Lib.hid (HP0.out.bel hb1)
    have HP1' := Lib.hid (HP1.out.bel hb1)
    obtain ⟨a0, a1⟩ := Pnt.blk HP0'.out
    have HB1 := Lib.hid (HB0.out.trans (hb1.mono HB0.out.size))
    have HA1 := Lib.hid (HA.out.next hb1)
    clear hz hb1
    cases hp : plcB p.x p.y
    · have HE := Lib.hid (fb_bad (zs := ps.map Zone.val) (p := p) (q := q) (ht := ht) (by rw [HFB.out, hp]; simp))
      have HV := Lib.hid hp
      clear hp
      go_wp2_with fail
      refine (ok5_eq (validPlace_any p.x p.y) _ HV.out).mono ?_
      rintro e w2 ⟨rfl, hb2⟩
      go_wp2
      go_ret2
      exact ⟨by rw [HE.out.1, HE.out.2]; rfl, HB1.out.trans (hb2.mono HB1.out.size)⟩
    · have HV := Lib.hid hp
      clear hp
      go_wp2_with fail
      refine (ok5_eq (validPlace_any p.x p.y) _ HV.out).mono ?_
      rintro e w2 ⟨rfl, hb2⟩
      have HB2 := Lib.hid (HB1.out.trans (hb2.mono HB1.out.size))
      have HA2 := Lib.hid (HA1.out.next hb2)
      have HP0'' := Lib.hid (HP0'.out.bel hb2)
      have HP1'' := Lib.hid (HP1'.out.bel hb2)
      obtain ⟨b0, b1⟩ := Pnt.blk HP1''.out
      clear hb2 a0 a1
      cases hq : plcB q.x q.y
      · have HE := Lib.hid (fb_bad (zs := ps.map Zone.val) (p := p) (q := q) (ht := ht) (by rw [HFB.out, hq]; simp))
        have HVQ := Lib.hid hq
        clear hq
        go_wp2_with fail
        refine (ok5_eq (validPlace_any q.x q.y) _ HVQ.out).mono ?_
        rintro e w3 ⟨rfl, hb3⟩
        go_wp2
        go_ret2
        exact ⟨by rw [HE.out.1, HE.out.2]; rfl, HB2.out.trans (hb3.mono HB2.out.size)⟩
      · have HOK : Hid (fbOk (ps.map Zone.val) p q = true) := by show _ = _; rw [HFB.out, HZV.out, HV.out, hq]; rfl
        have HVQ := Lib.hid hq
        clear hq
        go_wp2_with fail
        refine (ok5_eq (validPlace_any q.x q.y) _ HVQ.out).mono ?_
        rintro e w3 ⟨rfl, hb3⟩
        have HB3 := Lib.hid (HB2.out.trans (hb3.mono HB2.out.size))
        have HA3 := Lib.hid (HA2.out.next hb3)
        obtain ⟨a0, a1⟩ := Pnt.blk (HP0''.out.bel hb3)
        clear b0 b1
        obtain ⟨b0, b1⟩ := Pnt.blk (HP1''.out.bel hb3)
        clear hb3
        cases hr : inB ht 0 2000
        · have HE := Lib.hid (fb_range (zs := ps.map Zone.val) (p := p) (q := q) HOK.out hr)
          have HR := Lib.hid hr
          clear hr
          go_wp2_with fail
          refine (within5_eq _ _ _ _ HR.out).mono ?_
          rintro _ _ ⟨rfl, rfl⟩
          go_wp2
          go_ret2
          exact ⟨by rw [HE.out.1, HE.out.2]; rfl, HB3.out⟩
        · have HE := Lib.hid (fb_yes (zs := ps.map Zone.val) (p := p) (q := q) HOK.out hr)
          have HR := Lib.hid hr
          clear hr
          go_wp2_with fail
          refine (within5_eq _ _ _ _ HR.out).mono ?_
          rintro _ _ ⟨rfl, rfl⟩
          go_wp2_with fail
          refine (firstBlocking_any A n c ps p q ht _ lo HA3.out hn hps HZV.out HV.out HVQ.out).mono ?_
          rintro e w4 ⟨rfl, hb4⟩
          go_wp2
          go_ret2
          exact ⟨by rw [HE.out.1, HE.out.2]; rfl, HB3.out.trans (hb4.mono HB3.out.size)⟩
end Go.Proofs.Ytencnldflnbdiaa
